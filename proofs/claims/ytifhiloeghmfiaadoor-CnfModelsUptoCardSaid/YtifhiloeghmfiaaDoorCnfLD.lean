/- CnfModels told plainly. -/
import Derived.Test.YtifhiloeghmfiaaDoorCnfPure
import Derived.Test.YtifhiloeghmfiaaDoorPSxD
set_option linter.unusedVariables false
set_option linter.unusedSimpArgs false
namespace Go.Proofs.YtifhiloeghmfiaaDoor.PS
open Go.RowKit Go.Proofs.YtifhiloeghmfiaaDoorW.PrintWords Go.Proofs.YtifhiloeghmfiaaDoorW.PrintLast Go.Proofs.YtifhiloeghmfiaaDoorW.PrintMore
open Go.Proofs.YtifhiloeghmfiaaDoor.Cnf

theorem rdOf_rdB (model : List Bool) (i : Int) : rdOf false model i = rdB model i := rfl
theorem truth_f (model : List Bool) (l : Int) (h0 : l ≠ 0) (hb : -4096 ≤ l ∧ l ≤ 4096) (hlt : absI l < (model.length : Int)) : assizelaw15_truth.f model l = some (litT model l) := by
  unfold assizelaw15_truth.f litT
  rw [w64_in (-l) (by omega)]
  by_cases hn : l < 0
  · have ha : absI l = -l := by unfold absI; rw [if_pos hn]
    rw [ha] at hlt ⊢
    rw [if_pos hn, if_pos (by omega), if_pos hlt, rdOf_rdB, decide_eq_false (by omega : ¬ 0 < l)]
    cases rdB model (-l) <;> rfl
  · have ha : absI l = l := by unfold absI; rw [if_neg hn]
    rw [ha] at hlt ⊢
    rw [if_neg hn, if_pos (by omega), if_pos hlt, rdOf_rdB, decide_eq_true (by omega : 0 < l)]
    cases rdB model l <;> rfl
theorem model_der {n : Nat} {cls : List (List Int)} {lits : List Int} {model : List Bool} (hok : Okay n cls lits) (hc : ∀ c, c ∈ cls → c.any (litT model) = true) (hl : ∀ l, l ∈ lits → litT model l = true) {l : Int} (h : Der cls lits l) : litT model l = true := by
  have neg : ∀ x : Int, LitN n x → litT model (-x) = true → litT model x = true → False := fun x hx q1 q2 => by
    unfold litT at q1 q2
    rw [absI_neg] at q1
    have := hx.ne
    by_cases hp : 0 < x
    · rw [decide_eq_true hp] at q2
      rw [decide_eq_false (by omega : ¬ 0 < -x)] at q1
      cases hb : rdB model (absI x) <;> rw [hb] at q1 q2 <;> simp at q1 q2
    · rw [decide_eq_false hp] at q2
      rw [decide_eq_true (by omega : 0 < -x)] at q1
      cases hb : rdB model (absI x) <;> rw [hb] at q1 q2 <;> simp at q1 q2
  induction h with
  | lit h => exact hl _ h
  | @unit c l h1 h2 _ ih =>
    obtain ⟨y, hy, hyt⟩ := List.any_eq_true.1 (hc c h1)
    by_cases he : y = l
    · rw [← he]; exact hyt
    · exact (neg y (hok.cl c h1 y hy) (ih y hy he) hyt).elim
theorem model_good {n : Nat} {cls : List (List Int)} {lits : List Int} {model : List Bool} (hok : Okay n cls lits) (hc : ∀ c, c ∈ cls → c.any (litT model) = true) (hl : ∀ l, l ∈ lits → litT model l = true) : ¬ Bad cls lits := by
  rintro (h | ⟨x, h1, h2⟩)
  · have := hc [] h
    simp at this
  · have q2 := model_der hok hc hl h1
    have q1 := model_der hok hc hl h2
    have := (hok.der h1).ne
    unfold litT at q1 q2
    rw [absI_neg] at q1
    by_cases hp : 0 < x
    · rw [decide_eq_true hp] at q2
      rw [decide_eq_false (by omega : ¬ 0 < -x)] at q1
      cases hb : rdB model (absI x) <;> rw [hb] at q1 q2 <;> simp at q1 q2
    · rw [decide_eq_false hp] at q2
      rw [decide_eq_true (by omega : 0 < -x)] at q1
      cases hb : rdB model (absI x) <;> rw [hb] at q1 q2 <;> simp at q1 q2
theorem lit_bounds {n : Nat} (hn : n ≤ 4096) {l : Int} (h : LitN n l) : l ≠ 0 ∧ (-4096 ≤ l ∧ l ≤ 4096) ∧ absI l < (n : Int) + 1 ∧ -(n : Int) ≤ l ∧ l ≤ n := by
  obtain ⟨h1, h2⟩ := h
  unfold absI at *
  split at h1 <;> omega
theorem models_l1 (n : Nat) (hn : n ≤ 4096) (cls : List (List Int)) (model : List Bool) (hm : (model.length : Int) = n + 1) (l : List Int) (hll : l.length ≤ 1000000000) (hl : ∀ x, x ∈ l → LitN n x ∧ litT model x = true) :
    ∀ (r i k : Nat), i + r = l.length → r < k → assizelaw15_CnfModels.l1 k model l i n cls = some true
  | 0, i, k + 1, hi, _ => by
    unfold assizelaw15_CnfModels.l1
    rw [if_neg (by omega)]
  | r + 1, i, k + 1, hi, hk => by
    have hlt : i < l.length := by omega
    unfold assizelaw15_CnfModels.l1
    obtain ⟨h1, h2⟩ := hl _ (rd_memQ l i hlt)
    obtain ⟨q1, q2, q3, q4, q5⟩ := lit_bounds hn h1
    rw [if_pos (by omega), if_pos (by omega), if_neg q1, if_neg (by omega), w64_in (-(n : Int)) (by omega), if_neg (by omega), truth_f model _ q1 q2 (by omega), h2]
    simp only [Option.bind_some, if_true]
    rw [step64 i (by omega), models_l1 n hn cls model hm l hll hl r (i + 1) k (by omega) (by omega)]
theorem models_l0 (n : Nat) (hn : n ≤ 4096) (cls : List (List Int)) (lits l : List Int) (model : List Bool) (hm : (model.length : Int) = n + 1) (b : Bool) (hll : lits.length ≤ 1000000000) (hli : ∀ x, x ∈ lits → LitN n x) (K : Nat)
    (hend : (∀ x, x ∈ lits → litT model x = true) → b = false ∧ ∀ k, K ≤ k → assizelaw15_CnfModels.l1 k model l ((0 : Nat) : Int) n cls = some true) :
    ∀ (r i k : Nat), i + r = lits.length → r + K < k → (∀ j, j < i → litT model (rd lits (j : Int)) = true) → assizelaw15_CnfModels.l0 k lits model l b i n cls = some true
  | 0, i, k + 1, hi, hk, hall => by
    unfold assizelaw15_CnfModels.l0
    rw [if_neg (by omega)]
    obtain ⟨rfl, h2⟩ := hend (fun x hx => by
      obtain ⟨j, hj, he⟩ := List.getElem_of_mem hx
      have := hall j (by omega)
      rw [rd_nat lits j hj, he] at this
      exact this)
    rw [if_neg (by decide)]
    exact h2 k (by omega)
  | r + 1, i, k + 1, hi, hk, hall => by
    have hlt : i < lits.length := by omega
    unfold assizelaw15_CnfModels.l0
    obtain ⟨q1, q2, q3, q4, q5⟩ := lit_bounds hn (hli _ (rd_memQ lits i hlt))
    rw [if_pos (by omega), if_pos (by omega), truth_f model _ q1 q2 (by omega)]
    simp only [Option.bind_some]
    rw [step64 i (by omega)]
    rcases Bool.eq_false_or_eq_true (litT model (rd lits (i : Int))) with hs | hs
    · rw [if_pos hs, models_l0 n hn cls lits l model hm b hll hli K hend r (i + 1) k (by omega) (by omega) (fun j hj => by
        by_cases he : j = i
        · rw [he]; exact hs
        · exact hall j (by omega))]
    · rw [if_neg (by rw [hs]; decide)]
theorem CnfModels_pure (vars : Int) (cls : List (List Int)) (lits : List Int) (model : List Bool) (hv : okI vars = true) (hl : lits.length ≤ 1000000000) (hml : model.length ≤ 1000000000) : assizelaw15_CnfModels.f (2000000000 + 1) vars cls lits model = some true := by
  have hT : cnf_True.f (2000000000 + 1) vars cls model = some (trueF vars cls model) := by
    unfold cnf_True.f
    rw [hv, decide_eq_true (by omega : model.length ≤ 140737488355328)]
    rfl
  unfold assizelaw15_CnfModels.f
  rw [alive_f]
  simp only [Option.bind_some, if_true]
  rcases follow_f vars cls lits (2000000000 + 1) hv (by omega) with ⟨_, h1⟩ | ⟨n, rfl, h2, h3, h4, h5, h6⟩
  · rw [h1, hT]
    simp only [Option.bind_some, assizelaw15_CnfModels.j0]
    rw [if_neg (by decide), if_pos True.intro, if_neg (by decide)]
    rfl
  · have hr : ∃ l b, cnf_Follow.f (2000000000 + 1) (n : Int) cls lits = some (l, b, 0) := by
      rcases h6 with ⟨h6, _⟩ | ⟨val, h6, _⟩
      · exact ⟨_, _, h6⟩
      · exact ⟨_, _, h6⟩
    obtain ⟨l, b, hr⟩ := hr
    rw [hr, hT]
    simp only [Option.bind_some, if_true]
    by_cases hg : (trueF (n : Int) cls model).2 = 0
    · rw [if_pos hg]
      rcases Bool.eq_false_or_eq_true (trueF (n : Int) cls model).1 with ht | ht
      · rw [ht]
        simp only [assizelaw15_CnfModels.j0, Bool.not_true, Bool.false_eq_true, if_false]
        unfold trueF at hg ht
        by_cases hcond : checkF (n : Int) cls = 0 ∧ (model.length : Int) = n + 1
        · rw [if_pos hcond] at ht
          have hc : ∀ c, c ∈ cls → c.any (litT model) = true := fun c hc => List.all_eq_true.1 ht c hc
          have hend : (∀ x, x ∈ lits → litT model x = true) → b = false ∧ ∀ k, 20000 ≤ k → assizelaw15_CnfModels.l1 k model l ((0 : Nat) : Int) n cls = some true := fun hlt => by
            have hnb := model_good h5 hc hlt
            rcases h6 with ⟨_, h7⟩ | ⟨val, h7, _, h8⟩
            · exact absurd h7 hnb
            · rw [hr] at h7
              injection h7 with h7
              simp only [Prod.mk.injEq] at h7
              obtain ⟨rfl, rfl, _⟩ := h7
              have hlen := outF_len val 0
              have ht := h8.tri.1
              exact ⟨rfl, fun k hk => models_l1 n h2 cls model hcond.2 _ (by omega) (fun x hx => ⟨((h8.mem x).1 hx).1, model_der h5 hc hlt ((h8.mem x).1 hx).2⟩) (outF val 0).length 0 k (by omega) (by omega)⟩
          have := models_l0 n h2 cls lits l model hcond.2 b hl h5.li 20000 hend lits.length 0 2000000000 (by omega) (by omega) (fun j hj => by omega)
          exact this
        · rw [if_neg hcond] at ht
          cases ht
      · rw [ht]
        simp only [assizelaw15_CnfModels.j0, Bool.not_false, if_true]
    · rw [if_neg hg]
      simp only [assizelaw15_CnfModels.j0, if_true]

end Go.Proofs.YtifhiloeghmfiaaDoor.PS
