/- CnfMore told plainly. -/
import Derived.Test.YtifhiloeghmfiaaDoorCnfPure
import Derived.Test.YtifhiloeghmfiaaDoorPSxM
set_option linter.unusedVariables false
set_option linter.unusedSimpArgs false
namespace Go.Proofs.YtifhiloeghmfiaaDoor.PS
open Go.RowKit Go.Proofs.YtifhiloeghmfiaaDoorW.PrintWords Go.Proofs.YtifhiloeghmfiaaDoorW.PrintLast Go.Proofs.YtifhiloeghmfiaaDoorW.PrintMore
open Go.Proofs.YtifhiloeghmfiaaDoor.Cnf

theorem more_l0 (a b c : List Int) (worse other : Bool) (i j : Int) (ha : a.length ≤ 1000000000) (hbl : b.length ≤ 1000000000) (hcl : c.length ≤ 1000000000)
    (hB : i = 0 → worse = false → ∀ x, x ∈ a → x ∈ b) (hC : j = 0 → other = false → ∀ x, x ∈ a → x ∈ c) :
    ∀ (r p k : Nat), p + r = a.length → r + b.length + c.length < k → assizelaw15_CnfMore.l0 k a b worse i c other j p = some true
  | 0, p, k + 1, hp, _ => by
    unfold assizelaw15_CnfMore.l0
    rw [if_neg (by omega)]
  | r + 1, p, k + 1, hp, hk => by
    have hlt : p < a.length := by omega
    have ih := more_l0 a b c worse other i j ha hbl hcl hB hC r (p + 1) k (by omega) (by omega)
    have hm := rd_memQ a p hlt
    have inb : i = 0 → worse = false → assizelaw15_in.f k b (rd a p) = some true := fun q1 q2 => by rw [in_f _ _ (by omega) k (by omega), decide_eq_true (hB q1 q2 _ hm)]
    have inc : j = 0 → other = false → assizelaw15_in.f k c (rd a p) = some true := fun q1 q2 => by rw [in_f _ _ (by omega) k (by omega), decide_eq_true (hC q1 q2 _ hm)]
    unfold assizelaw15_CnfMore.l0
    rw [if_pos (by omega), step64 p (by omega), ih]
    have h0 : (0 : Int) ≤ (p : Int) := by omega
    simp only [h0, if_true]
    by_cases hi : i = 0
    · rw [if_pos hi]
      cases worse with
      | true =>
        simp only [if_true]
        by_cases hj : j = 0
        · rw [if_pos hj]
          cases other with
          | true => rfl
          | false => rw [inc hj rfl]; rfl
        · rw [if_neg hj]
      | false =>
        rw [inb hi rfl]
        simp only [Option.bind_some, if_true, Bool.false_eq_true, if_false]
        by_cases hj : j = 0
        · rw [if_pos hj]
          cases other with
          | true => rfl
          | false => rw [inc hj rfl]; rfl
        · rw [if_neg hj]
    · rw [if_neg hi]
      by_cases hj : j = 0
      · rw [if_pos hj]
        cases other with
        | true => rfl
        | false => rw [inc hj rfl]; rfl
      · rw [if_neg hj]
theorem follow_shape (vars : Int) (cls : List (List Int)) (lits : List Int) (k : Nat) (hv : okI vars = true) (hl : lits.length ≤ 1000000000000) : ∃ l b e, cnf_Follow.f k vars cls lits = some (l, b, e) ∧ l.length ≤ 1000000 ∧ (e = 0 ∨ (e = 150 ∧ l = [])) := by
  rcases follow_f vars cls lits k hv hl with ⟨_, h1⟩ | ⟨n, rfl, h2, h3, h4, h5, ⟨h6, _⟩ | ⟨val, h6, h7, h8⟩⟩
  · exact ⟨_, _, _, h1, by simp, .inr ⟨rfl, rfl⟩⟩
  · exact ⟨_, _, _, h6, by simp, .inl rfl⟩
  · have hlen := outF_len val 0
    have ht := h8.tri.1
    exact ⟨_, _, _, h6, by omega, .inl rfl⟩
/-- More can't make less follow. -/
theorem follow_more (vars : Int) (cls cls' : List (List Int)) (lits lits' : List Int) (k : Nat) (hv : okI vars = true) (hl : lits.length ≤ 1000000000000) (hl' : lits'.length ≤ 1000000000000) (hc : ∀ c, c ∈ cls → c ∈ cls') (hli : ∀ l, l ∈ lits → l ∈ lits')
    {a b : List Int} {p q : Bool} (ha : cnf_Follow.f k vars cls lits = some (a, p, 0)) (hb : cnf_Follow.f k vars cls' lits' = some (b, q, 0)) : (p = true → q = true) ∧ (q = false → ∀ x, x ∈ a → x ∈ b) := by
  have hlm : ∀ l, l ∈ lits → Der cls' lits' l := fun l h => .lit (hli l h)
  rcases follow_f vars cls lits k hv hl with ⟨_, h1⟩ | ⟨n, rfl, h2, h3, h4, h5, h6⟩
  · rw [ha] at h1
    cases h1
  · rcases follow_f (n : Int) cls' lits' k hv hl' with ⟨_, h1⟩ | ⟨m, e, q2, q3, q4, q5, q6⟩
    · rw [hb] at h1
      cases h1
    · obtain rfl : n = m := by omega
      rcases q6 with ⟨q7, q8⟩ | ⟨val', q7, q8, q9⟩
      · rw [hb] at q7
        injection q7 with q7
        simp only [Prod.mk.injEq] at q7
        obtain ⟨rfl, rfl, _⟩ := q7
        exact ⟨fun _ => rfl, fun h => by cases h⟩
      · rcases h6 with ⟨h7, h8⟩ | ⟨val, h7, h8, h9⟩
        · exact absurd (Bad.mono hc hlm h8) q8
        · rw [ha] at h7
          injection h7 with h7
          simp only [Prod.mk.injEq] at h7
          obtain ⟨rfl, rfl, _⟩ := h7
          rw [hb] at q7
          injection q7 with q7
          simp only [Prod.mk.injEq] at q7
          obtain ⟨rfl, rfl, _⟩ := q7
          exact ⟨fun h => h, fun _ x hx => (q9.mem x).2 ⟨((h9.mem x).1 hx).1, Der.mono hc hlm ((h9.mem x).1 hx).2⟩⟩
theorem CnfMore_pure (vars : Int) (cls : List (List Int)) (lits more : List Int) (M : Nat) (hv : okI vars = true) (hl : lits.length ≤ 1000000000) (hml : more.length ≤ 1000000000) (hlc : cls.length ≤ 1000000000) (hM : M ≤ 1000000000) (hc : ∀ c, c ∈ cls → c.length ≤ M) :
    assizelaw15_CnfMore.f (2000000000 + 1) vars cls lits more = some true := by
  unfold assizelaw15_CnfMore.f
  rw [alive_f, copy_f vars cls M (by omega) (by omega) hc _ (by omega)]
  obtain ⟨a, p, e, h1, h2, h3⟩ := follow_shape vars cls lits (2000000000 + 1) hv (by omega)
  obtain ⟨b, q, i, h4, h5, h6⟩ := follow_shape vars (cls ++ [more]) lits (2000000000 + 1) hv (by omega)
  obtain ⟨c, s, j, h7, h8, h9⟩ := follow_shape vars cls (lits ++ more) (2000000000 + 1) hv (by rw [List.length_append]; omega)
  simp only [Option.bind_some, if_true, List.nil_append, h1]
  rw [if_pos (by simp only [List.length_nil]; omega), if_pos (by omega), h4]
  simp only [Option.bind_some]
  rw [if_pos (by simp only [List.length_nil]; omega), if_pos (by omega), h7]
  simp only [Option.bind_some]
  rcases h3 with rfl | ⟨rfl, rfl⟩
  · rw [if_pos rfl]
    have mB : i = 0 → (p = true → q = true) ∧ (q = false → ∀ x, x ∈ a → x ∈ b) := fun hi => by
      subst hi
      exact follow_more vars cls (cls ++ [more]) lits lits _ hv (by omega) (by omega) (fun c h => List.mem_append_left _ h) (fun _ h => h) h1 h4
    have mC : j = 0 → (p = true → s = true) ∧ (s = false → ∀ x, x ∈ a → x ∈ c) := fun hj => by
      subst hj
      exact follow_more vars cls cls lits (lits ++ more) _ hv (by omega) (by rw [List.length_append]; omega) (fun _ h => h) (fun c h => List.mem_append_left _ h) h1 h7
    have fin : ∀ f : Bool, f = false → assizelaw15_CnfMore.j0 (2000000000 + 1) a b q i c s j f = some true := fun f hf => by
      subst hf
      simp only [assizelaw15_CnfMore.j0, Bool.false_eq_true, if_false]
      exact more_l0 a b c q s i j (by omega) (by omega) (by omega) (fun h => (mB h).2) (fun h => (mC h).2) a.length 0 2000000000 (by omega) (by omega)
    by_cases hi : i = 0
    · rw [if_pos hi]
      cases hp : p with
      | true =>
        rw [if_pos rfl, if_pos ((mB hi).1 hp)]
        by_cases hj : j = 0
        · rw [if_pos hj]
          exact fin _ (by rw [(mC hj).1 hp]; rfl)
        · rw [if_neg hj]
          exact fin _ rfl
      | false =>
        rw [if_neg (by decide)]
        by_cases hj : j = 0
        · rw [if_pos hj]; exact fin _ rfl
        · rw [if_neg hj]; exact fin _ rfl
    · rw [if_neg hi]
      by_cases hj : j = 0
      · rw [if_pos hj]
        cases hp : p with
        | true =>
          rw [if_pos rfl]
          exact fin _ (by rw [(mC hj).1 hp]; rfl)
        | false =>
          rw [if_neg (by decide)]
          exact fin _ rfl
      · rw [if_neg hj]
        exact fin _ rfl
  · rw [if_neg (by decide)]
    rfl
end Go.Proofs.YtifhiloeghmfiaaDoor.PS
