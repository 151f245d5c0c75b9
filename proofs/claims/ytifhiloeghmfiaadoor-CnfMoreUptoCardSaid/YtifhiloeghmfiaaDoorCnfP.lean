/- What follows by single literals has one answer: both ways of finding it. -/
import Derived.Test.YtifhiloeghmfiaaDoorCnfRef
set_option linter.unusedVariables false
set_option linter.unusedSimpArgs false
namespace Go.Proofs.YtifhiloeghmfiaaDoor.Cnf
open Go.RowKit Go.Proofs.YtifhiloeghmfiaaDoorW.PrintWords Go.Proofs.YtifhiloeghmfiaaDoorW.PrintLast Go.Proofs.YtifhiloeghmfiaaDoorW.PrintMore

def LitN (n : Nat) (l : Int) : Prop := 1 ≤ absI l ∧ absI l ≤ n
def Has (val : List Int) (l : Int) : Prop := rd val (absI l) = sgn l
theorem absI_neg (l : Int) : absI (-l) = absI l := by unfold absI; split <;> split <;> omega
theorem LitN.ne {n : Nat} {l : Int} (h : LitN n l) : l ≠ 0 := by rintro rfl; have := h.1; simp [absI] at this
theorem LitN.neg {n : Nat} {l : Int} (h : LitN n l) : LitN n (-l) := by unfold LitN at *; rw [absI_neg]; exact h
theorem sgn_neg {l : Int} (h : l ≠ 0) : sgn (-l) = -sgn l := by unfold sgn; split <;> split <;> omega
theorem sgn_cases (l : Int) : sgn l = 1 ∨ sgn l = -1 := by unfold sgn; split <;> simp
theorem sgn_ne (l : Int) : sgn l ≠ 0 := by rcases sgn_cases l with h | h <;> rw [h] <;> decide
theorem sideF_eq (l : Int) : sideF l = sgn l := by unfold sideF sgn; by_cases h : l < 0 <;> simp [h]
theorem Has.not_neg {val : List Int} {l : Int} (h : Has val l) (h0 : l ≠ 0) : ¬ Has val (-l) := by
  unfold Has at *
  rw [absI_neg, sgn_neg h0]
  rcases sgn_cases l with e | e <;> omega

theorem lit_eq {x l : Int} (h1 : absI x = absI l) (h2 : sgn x = sgn l) : x = l := by
  unfold absI at h1
  unfold sgn at h2
  by_cases a : x < 0 <;> by_cases b : l < 0 <;> simp only [a, b, ↓reduceIte] at h1 h2 <;> omega

inductive Der (cls : List (List Int)) (lits : List Int) : Int → Prop
  | lit {l : Int} (h : l ∈ lits) : Der cls lits l
  | unit {c : List Int} {l : Int} (hc : c ∈ cls) (hl : l ∈ c) (h : ∀ l', l' ∈ c → l' ≠ l → Der cls lits (-l')) : Der cls lits l
def Bad (cls : List (List Int)) (lits : List Int) : Prop := [] ∈ cls ∨ ∃ l, Der cls lits l ∧ Der cls lits (-l)
/-- Sound inputs. -/
structure Okay (n : Nat) (cls : List (List Int)) (lits : List Int) : Prop where
  cl : ∀ c, c ∈ cls → ∀ l, l ∈ c → LitN n l
  li : ∀ l, l ∈ lits → LitN n l
theorem Okay.der {n : Nat} {cls : List (List Int)} {lits : List Int} (h : Okay n cls lits) {l : Int} (hd : Der cls lits l) : LitN n l := by
  cases hd with
  | lit h' => exact h.li l h'
  | unit hc hl _ => exact h.cl _ hc l hl

structure Snd (n : Nat) (cls : List (List Int)) (lits : List Int) (val : List Int) : Prop where
  tri : Tri (n + 1) val
  zero : rd val 0 = 0
  der : ∀ l, LitN n l → Has val l → Der cls lits l

theorem Snd.kind {n : Nat} {cls : List (List Int)} {lits val : List Int} (h : Snd n cls lits val) {l : Int} (hl : LitN n l) : rd val (absI l) = -1 ∨ rd val (absI l) = 0 ∨ rd val (absI l) = 1 := by
  have hlt : (absI l).toNat < val.length := by have := h.tri.1; have := hl.2; have := hl.1; omega
  refine h.tri.2 _ ?_
  simp only [rd, List.getD_eq_getElem?_getD, List.getElem?_eq_getElem hlt, Option.getD_some]
  exact List.getElem_mem _
theorem offB_iff {val : List Int} {l : Int} (h : rd val (absI l) = -1 ∨ rd val (absI l) = 0 ∨ rd val (absI l) = 1) (h0 : l ≠ 0) : offB val l = true ↔ Has val (-l) := by
  unfold offB Has
  rw [absI_neg, sgn_neg h0]
  unfold sgn
  rcases h with e | e | e <;> rw [e] <;> by_cases hl : l < 0 <;> simp [hl] <;> omega

theorem leftF_some {val : List Int} : ∀ (c : List Int) (left x : Int), (∀ l, l ∈ c → l ≠ 0) → leftF val c left = some x → (x = left ∨ (left = 0 ∧ x ∈ c ∧ offB val x = false)) ∧ ∀ l', l' ∈ c → l' = x ∨ offB val l' = true
  | [], left, x, _, h => by
    simp [leftF] at h
    exact ⟨.inl h.symm, fun _ hl => by cases hl⟩
  | a :: r, left, x, hc, h => by
    unfold leftF at h
    cases hb : (offB val a || a == left) with
    | true =>
      rw [hb] at h
      obtain ⟨h1, h2⟩ := leftF_some r left x (fun l hl => hc l (List.mem_cons_of_mem _ hl)) h
      have hal : a = left ∨ offB val a = true := by simpa [or_comm] using hb
      refine ⟨h1.imp id (fun ⟨q1, q2, q3⟩ => ⟨q1, List.mem_cons_of_mem _ q2, q3⟩), fun l' hl' => ?_⟩
      rcases List.mem_cons.1 hl' with rfl | hl'
      · rcases hal with e | e
        · rcases h1 with h1 | ⟨h1, h3, h4⟩
          · exact .inl (e.trans h1.symm)
          · exact absurd (e.trans h1) (hc _ (List.mem_cons_self ..))
        · exact .inr e
      · exact h2 l' hl'
    | false =>
      rw [hb] at h
      cases hz : (left != 0) with
      | true => rw [hz] at h; cases h
      | false =>
        rw [hz] at h
        have hl0 : left = 0 := by simpa using hz
        obtain ⟨h1, h2⟩ := leftF_some r a x (fun l hl => hc l (List.mem_cons_of_mem _ hl)) h
        have hna : offB val a = false := by rw [Bool.or_eq_false_iff] at hb; exact hb.1
        have hxa : x = a := h1.elim id (fun ⟨q, _⟩ => absurd q (hc a (List.mem_cons_self ..)))
        subst hxa
        refine ⟨.inr ⟨hl0, List.mem_cons_self .., hna⟩, fun l' hl' => ?_⟩
        rcases List.mem_cons.1 hl' with rfl | hl'
        · exact .inl rfl
        · exact h2 l' hl'
theorem leftF_none {val : List Int} : ∀ (c : List Int) (left : Int), (∀ l, l ∈ c → l ≠ 0) → leftF val c left = none → ∃ a b, a ≠ b ∧ a ≠ 0 ∧ (a = left ∨ (a ∈ c ∧ offB val a = false)) ∧ b ∈ c ∧ offB val b = false
  | [], left, _, h => by simp [leftF] at h
  | a :: r, left, hc, h => by
    unfold leftF at h
    cases hb : (offB val a || a == left) with
    | true =>
      rw [hb] at h
      obtain ⟨x, y, h1, h2, h3, h4, h5⟩ := leftF_none r left (fun l hl => hc l (List.mem_cons_of_mem _ hl)) h
      exact ⟨x, y, h1, h2, h3.imp id (fun ⟨q1, q2⟩ => ⟨List.mem_cons_of_mem _ q1, q2⟩), List.mem_cons_of_mem _ h4, h5⟩
    | false =>
      rw [hb] at h
      rw [Bool.or_eq_false_iff] at hb
      obtain ⟨hna, hne⟩ := hb
      have hne' : a ≠ left := by simpa using hne
      cases hz : (left != 0) with
      | true => exact ⟨left, a, hne'.symm, by simpa using hz, .inl rfl, List.mem_cons_self .., hna⟩
      | false =>
        rw [hz] at h
        obtain ⟨x, y, h1, h2, h3, h4, h5⟩ := leftF_none r a (fun l hl => hc l (List.mem_cons_of_mem _ hl)) h
        refine ⟨x, y, h1, h2, .inr ?_, List.mem_cons_of_mem _ h4, h5⟩
        rcases h3 with rfl | ⟨q1, q2⟩
        · exact ⟨List.mem_cons_self .., hna⟩
        · exact ⟨List.mem_cons_of_mem _ q1, q2⟩
theorem leftF_congr {val val' : List Int} : ∀ (c : List Int) (left : Int), (∀ l, l ∈ c → offB val' l = offB val l) → leftF val' c left = leftF val c left
  | [], _, _ => rfl
  | a :: r, left, h => by
    unfold leftF
    rw [h a (List.mem_cons_self ..), leftF_congr r left (fun l hl => h l (List.mem_cons_of_mem _ hl)), leftF_congr r a (fun l hl => h l (List.mem_cons_of_mem _ hl))]
theorem leftF_one {val : List Int} {c : List Int} {l : Int} (hc : ∀ l, l ∈ c → l ≠ 0) (hl : l ∈ c) (hn : offB val l = false) (ho : ∀ l', l' ∈ c → l' ≠ l → offB val l' = true) : leftF val c 0 = some l := by
  have only : ∀ y, y ∈ c → offB val y = false → y = l := fun y hy hb => Classical.byContradiction fun hne => by rw [ho y hy hne] at hb; cases hb
  cases h : leftF val c 0 with
  | none =>
    obtain ⟨a, b, h1, h2, h3, h4, h5⟩ := leftF_none c 0 hc h
    exact absurd ((h3.elim (fun e => absurd e h2) (fun ⟨q1, q2⟩ => only a q1 q2)).trans (only b h4 h5).symm) h1
  | some x =>
    obtain ⟨h1, h2⟩ := leftF_some c 0 x hc h
    rcases h1 with rfl | ⟨_, h3, h4⟩
    · rcases h2 l hl with e | e
      · exact absurd e (hc l hl)
      · rw [e] at hn; cases hn
    · rw [only x h3 h4]

/-- Nothing new follows of the clause. -/
def Stable (val : List Int) (c : List Int) : Prop := leftF val c 0 = none ∨ ∃ l, l ≠ 0 ∧ leftF val c 0 = some l ∧ Has val l

section
variable {n : Nat} {cls : List (List Int)} {lits : List Int}

/-- What is closed holds all that follows. -/
theorem closed_der (hok : Okay n cls lits) {val : List Int} (hS : Snd n cls lits val) (hs : ∀ c, c ∈ cls → Stable val c) (hl : ∀ l, l ∈ lits → Has val l) {l : Int} (hd : Der cls lits l) : Has val l := by
  induction hd with
  | lit h => exact hl _ h
  | @unit c l hc hlc h ih =>
    have h0 : ∀ l, l ∈ c → l ≠ 0 := fun l h => (hok.cl c hc l h).ne
    have hoff : ∀ l', l' ∈ c → l' ≠ l → offB val l' = true := fun l' h1 h2 => (offB_iff (hS.kind (hok.cl c hc l' h1)) (h0 l' h1)).2 (ih l' h1 h2)
    cases hb : offB val l with
    | false =>
      have := leftF_one h0 hlc hb hoff
      rcases hs c hc with e | ⟨x, _, e, hx⟩
      · rw [this] at e; cases e
      · rw [this] at e
        cases e
        exact hx
    | true =>
      have hall : ∀ l', l' ∈ c → offB val l' = true := fun l' h1 => by
        by_cases h2 : l' = l
        · rw [h2]; exact hb
        · exact hoff l' h1 h2
      rcases hs c hc with e | ⟨x, hx0, e, hx⟩
      · obtain ⟨a, b, _, _, _, h4, h5⟩ := leftF_none c 0 h0 e
        rw [hall b h4] at h5; cases h5
      · obtain ⟨h1, _⟩ := leftF_some c 0 x h0 e
        rcases h1 with h1 | ⟨_, h3, h4⟩
        · exact absurd h1 hx0
        · rw [hall x h3] at h4; cases h4
theorem closed_good (hok : Okay n cls lits) {val : List Int} (hS : Snd n cls lits val) (hs : ∀ c, c ∈ cls → Stable val c) (hl : ∀ l, l ∈ lits → Has val l) : ¬ Bad cls lits := by
  rintro (h | ⟨l, h1, h2⟩)
  · rcases hs [] h with e | ⟨x, hx, e, _⟩
    · simp [leftF] at e
    · simp [leftF] at e; exact hx e.symm
  · exact (closed_der hok hS hs hl h1).not_neg (hok.der h1).ne (closed_der hok hS hs hl h2)

/-- A clause of which nothing is left. -/
theorem bad_of_zero (hok : Okay n cls lits) {val : List Int} (hS : Snd n cls lits val) {c : List Int} (hc : c ∈ cls) (h : leftF val c 0 = some 0) : Bad cls lits := by
  have h0 : ∀ l, l ∈ c → l ≠ 0 := fun l h => (hok.cl c hc l h).ne
  obtain ⟨_, h2⟩ := leftF_some c 0 0 h0 h
  have hd : ∀ l, l ∈ c → Der cls lits (-l) := fun l hl => hS.der _ (hok.cl c hc l hl).neg ((offB_iff (hS.kind (hok.cl c hc l hl)) (h0 l hl)).1 ((h2 l hl).resolve_left (h0 l hl)))
  cases c with
  | nil => exact .inl hc
  | cons a r => exact .inr ⟨a, .unit hc (List.mem_cons_self ..) (fun l' h1 _ => hd l' h1), hd a (List.mem_cons_self ..)⟩
theorem der_of_left (hok : Okay n cls lits) {val : List Int} (hS : Snd n cls lits val) {c : List Int} (hc : c ∈ cls) {l : Int} (hl0 : l ≠ 0) (h : leftF val c 0 = some l) : l ∈ c ∧ offB val l = false ∧ Der cls lits l ∧ ∀ l', l' ∈ c → l' = l ∨ offB val l' = true := by
  have h0 : ∀ l, l ∈ c → l ≠ 0 := fun l h => (hok.cl c hc l h).ne
  obtain ⟨h1, h2⟩ := leftF_some c 0 l h0 h
  obtain ⟨_, h3, h4⟩ := h1.resolve_left hl0
  exact ⟨h3, h4, .unit hc h3 (fun l' q1 q2 => hS.der _ (hok.cl c hc l' q1).neg ((offB_iff (hS.kind (hok.cl c hc l' q1)) (h0 l' q1)).1 ((h2 l' q1).resolve_left q2))), h2⟩

theorem rd_set {val : List Int} {v w : Int} (s : Int) (hv : 0 ≤ v) (hw : 0 ≤ w) (hlt : v < (val.length : Int)) : rd (val.set v.toNat s) w = if w = v then s else rd val w := by
  unfold rd
  simp only [List.getD_eq_getElem?_getD, List.getElem?_set]
  by_cases h : w = v
  · subst h
    rw [if_pos rfl, if_pos (by omega)]
    simp
  · rw [if_neg (by omega), if_neg h]
theorem Snd.put {val : List Int} (hS : Snd n cls lits val) {l : Int} (hl : LitN n l) (hd : Der cls lits l) : Snd n cls lits (val.set (absI l).toNat (sgn l)) := by
  have hlt : absI l < (val.length : Int) := by have := hS.tri.1; have := hl.2; omega
  have h0 : 0 ≤ absI l := by have := hl.1; omega
  refine ⟨⟨by rw [List.length_set]; exact hS.tri.1, fun x hx => ?_⟩, ?_, fun x hx hh => ?_⟩
  · rcases List.mem_or_eq_of_mem_set hx with hx | hx
    · exact hS.tri.2 x hx
    · rcases sgn_cases l with e | e <;> omega
  · rw [rd_set _ h0 (Int.le_refl 0) hlt, if_neg (by have := hl.1; omega)]
    exact hS.zero
  · unfold Has at hh
    rw [rd_set _ h0 (by have := hx.1; omega) hlt] at hh
    by_cases he : absI x = absI l
    · rw [if_pos he] at hh
      rw [lit_eq he hh.symm]; exact hd
    · rw [if_neg he] at hh
      exact hS.der x hx hh
theorem has_put {val : List Int} (ht : Tri (n + 1) val) {l : Int} (hl : LitN n l) : Has (val.set (absI l).toNat (sgn l)) l := by
  unfold Has
  rw [rd_set _ (by have := hl.1; omega) (by have := hl.1; omega) (by have := ht.1; have := hl.2; omega), if_pos rfl]
theorem has_mono {val : List Int} (ht : Tri (n + 1) val) {l : Int} (hl : LitN n l) (hz : rd val (absI l) = 0) {x : Int} (hx : LitN n x) (h : Has val x) : Has (val.set (absI l).toNat (sgn l)) x := by
  unfold Has at *
  rw [rd_set _ (by have := hl.1; omega) (by have := hx.1; omega) (by have := ht.1; have := hl.2; omega)]
  by_cases he : absI x = absI l
  · rw [he, hz] at h
    exact absurd h.symm (sgn_ne x)
  · rw [if_neg he]; exact h
/-- What is off behind a literal more. -/
theorem off_put {val : List Int} (hS : Snd n cls lits val) {l : Int} (hl : LitN n l) (hd : Der cls lits l) (hz : rd val (absI l) = 0) {x : Int} (hx : LitN n x) (hne : x ≠ -l) : offB (val.set (absI l).toNat (sgn l)) x = offB val x := by
  have h1 := offB_iff (hS.kind hx) hx.ne
  have h2 := offB_iff ((hS.put hl hd).kind hx) hx.ne
  rw [Bool.eq_iff_iff, h1, h2]
  refine ⟨fun h => ?_, fun h => has_mono hS.tri hl hz hx.neg h⟩
  unfold Has at *
  rw [absI_neg, rd_set _ (by have := hl.1; omega) (by have := hx.1; omega) (by have := hS.tri.1; have := hl.2; omega)] at h
  rw [absI_neg]
  by_cases he : absI x = absI l
  · rw [if_pos he, sgn_neg hx.ne] at h
    exfalso
    apply hne
    refine lit_eq (by rw [absI_neg]; exact he) ?_
    rw [sgn_neg hl.ne, h, Int.neg_neg]
  · rw [if_neg he] at h; exact h

/-! ### The program's way -/
def OKc (val q c : List Int) : Prop := Stable val c ∨ ∃ l, l ∈ q ∧ -l ∈ c
structure Stp (n : Nat) (val q val' q' : List Int) : Prop where
  mono : ∀ x, LitN n x → Has val x → Has val' x
  ok : ∀ c, (∀ l, l ∈ c → LitN n l) → OKc val q c → OKc val' q' c
theorem Stp.refl (val q : List Int) : Stp n val q val q := ⟨fun _ _ h => h, fun _ _ h => h⟩
theorem Stp.trans {a b a' b' a'' b'' : List Int} (h : Stp n a b a' b') (k : Stp n a' b' a'' b'') : Stp n a b a'' b'' := ⟨fun x hx h' => k.mono x hx (h.mono x hx h'), fun c hc h' => k.ok c hc (h.ok c hc h')⟩

theorem take_spec (_hok : Okay n cls lits) {val q : List Int} (hS : Snd n cls lits val) {l : Int} (hl : LitN n l) (hd : Der cls lits l) :
    ((takeF val q l).1 = false ∧ Bad cls lits) ∨ ((takeF val q l).1 = true ∧ Snd n cls lits (takeF val q l).2.1 ∧ Has (takeF val q l).2.1 l ∧ Stp n val q (takeF val q l).2.1 (takeF val q l).2.2) := by
  unfold takeF
  by_cases h1 : rd val (absI l) = sgn l
  · rw [if_pos h1]
    exact .inr ⟨rfl, hS, h1, .refl _ _⟩
  · rw [if_neg h1]
    by_cases h2 : rd val (absI l) = -sgn l
    · rw [if_pos h2]
      refine .inl ⟨rfl, .inr ⟨l, hd, hS.der _ hl.neg ?_⟩⟩
      unfold Has
      rw [absI_neg, sgn_neg hl.ne]
      exact h2
    · rw [if_neg h2]
      have hz : rd val (absI l) = 0 := by
        have := hS.kind hl
        rcases sgn_cases l with e | e <;> omega
      refine .inr ⟨rfl, hS.put hl hd, has_put hS.tri hl, fun x hx h => has_mono hS.tri hl hz hx h, fun c hc h => ?_⟩
      by_cases hm : -l ∈ c
      · exact .inr ⟨l, List.mem_append_right _ (List.mem_singleton.2 rfl), hm⟩
      · rcases h with h | ⟨y, h3, h4⟩
        · have hcg : leftF (val.set (absI l).toNat (sgn l)) c 0 = leftF val c 0 := leftF_congr c 0 (fun x hx => off_put hS hl hd hz (hc x hx) (fun e => hm (e ▸ hx)))
          refine .inl ?_
          unfold Stable
          rw [hcg]
          refine h.imp id (fun ⟨x, hx0, hx1, hx2⟩ => ⟨x, hx0, hx1, ?_⟩)
          have hxm := (leftF_some c 0 x (fun l hl => (hc l hl).ne) hx1).1.resolve_left hx0
          exact has_mono hS.tri hl hz (hc x hxm.2.1) hx2
        · exact .inr ⟨y, List.mem_append_left _ h3, h4⟩

theorem look_spec (hok : Okay n cls lits) {val q : List Int} (hS : Snd n cls lits val) {c : List Int} (hc : c ∈ cls) :
    ((lookF val q c).1 = false ∧ Bad cls lits) ∨ ((lookF val q c).1 = true ∧ Snd n cls lits (lookF val q c).2.1 ∧ Stp n val q (lookF val q c).2.1 (lookF val q c).2.2 ∧ OKc (lookF val q c).2.1 (lookF val q c).2.2 c) := by
  unfold lookF
  cases h : leftF val c 0 with
  | none => exact .inr ⟨rfl, hS, .refl _ _, .inl (.inl h)⟩
  | some l =>
    unfold endF
    by_cases h0 : l = 0
    · subst h0
      exact .inl ⟨rfl, bad_of_zero hok hS hc h⟩
    · have hb : (l != 0) = true := by simpa using h0
      simp only [hb, cond_true]
      obtain ⟨h1, h2, h3, h4⟩ := der_of_left hok hS hc h0 h
      have hl := hok.cl c hc l h1
      rcases take_spec hok hS (q := q) hl h3 with h5 | ⟨h5, h6, h7, h8⟩
      · exact .inl h5
      · refine .inr ⟨h5, h6, h8, .inl (.inr ⟨l, h0, ?_, h7⟩)⟩
        refine leftF_one (fun l h => (hok.cl c hc l h).ne) h1 ?_ (fun l' q1 q2 => ?_)
        · cases hb : offB (takeF val q l).2.1 l with
          | false => rfl
          | true => exact absurd ((offB_iff (h6.kind hl) h0).1 hb) (h7.not_neg h0)
        · have hl' := hok.cl c hc l' q1
          have := (offB_iff (hS.kind hl') hl'.ne).1 ((h4 l' q1).resolve_left q2)
          exact (offB_iff (h6.kind hl') hl'.ne).2 (h8.mono _ hl'.neg this)

theorem looks_spec (hok : Okay n cls lits) : ∀ (cs : List (List Int)) {val q : List Int}, Snd n cls lits val → (∀ c, c ∈ cs → c ∈ cls) →
    ((lookAll val q cs).1 = false ∧ Bad cls lits) ∨ ((lookAll val q cs).1 = true ∧ Snd n cls lits (lookAll val q cs).2.1 ∧ Stp n val q (lookAll val q cs).2.1 (lookAll val q cs).2.2 ∧ ∀ c, c ∈ cs → OKc (lookAll val q cs).2.1 (lookAll val q cs).2.2 c)
  | [], _, _, hS, _ => .inr ⟨rfl, hS, .refl _ _, fun _ h => by cases h⟩
  | c :: r, val, q, hS, hm => by
    unfold lookAll
    rcases look_spec hok hS (q := q) (hm c (List.mem_cons_self ..)) with ⟨h1, h2⟩ | ⟨h1, h2, h3, h4⟩
    · rw [h1]
      exact .inl ⟨rfl, h2⟩
    · rw [h1]
      rcases looks_spec hok r h2 (q := (lookF val q c).2.2) (fun c hc => hm c (List.mem_cons_of_mem _ hc)) with h5 | ⟨h5, h6, h7, h8⟩
      · exact .inl h5
      · refine .inr ⟨h5, h6, h3.trans h7, fun d hd => ?_⟩
        rcases List.mem_cons.1 hd with rfl | hd
        · exact h7.ok d (fun l hl => hok.cl d (hm d (List.mem_cons_self ..)) l hl) h4
        · exact h8 d hd

theorem addC_old (i : Int) : ∀ (c : List Int) (a : Int → List Int) (x j : Int), j ∈ a x → j ∈ addC i c a x
  | [], _, _, _, h => h
  | l :: r, a, x, j, h => addC_old i r _ x j (by unfold addAt; split; exact List.mem_append_left _ h; exact h)
theorem addC_has (i : Int) : ∀ (c : List Int) (a : Int → List Int) (l : Int), l ∈ c → i ∈ addC i c a (-l)
  | y :: r, a, l, h => by
    rcases List.mem_cons.1 h with rfl | h
    · exact addC_old i r _ _ i (by unfold addAt; rw [if_pos rfl]; exact List.mem_append_right _ (List.mem_singleton.2 rfl))
    · exact addC_has i r _ l h
theorem addAll_old : ∀ (cs : List (List Int)) (i : Int) (a : Int → List Int) (x j : Int), j ∈ a x → j ∈ addAll cs i a x
  | [], _, _, _, _, h => h
  | c :: r, i, a, x, j, h => addAll_old r (i + 1) _ x j (addC_old i c a x j h)
theorem addAll_has : ∀ (cs : List (List Int)) (i : Int) (a : Int → List Int) (c : List Int) (l : Int), c ∈ cs → l ∈ c → ∃ k : Nat, cs[k]? = some c ∧ i + k ∈ addAll cs i a (-l)
  | d :: r, i, a, c, l, h, hl => by
    rcases List.mem_cons.1 h with rfl | h
    · exact ⟨0, rfl, by have := addAll_old r (i + 1) (addC i c a) (-l) i (addC_has i c a l hl); rw [show i + ((0 : Nat) : Int) = i by simp]; exact this⟩
    · obtain ⟨k, h1, h2⟩ := addAll_has r (i + 1) (addC i d a) c l h hl
      refine ⟨k + 1, by simpa using h1, ?_⟩
      have : i + ((k + 1 : Nat) : Int) = i + 1 + k := by omega
      rw [this]
      exact h2
theorem pick_has {c : List Int} {l : Int} (hc : c ∈ cls) (hl : -l ∈ c) : c ∈ pick cls (atAll cls l) := by
  obtain ⟨k, h1, h2⟩ := addAll_has cls 0 (fun _ => []) c (-l) hc hl
  rw [Int.neg_neg, Int.zero_add] at h2
  refine List.mem_map.2 ⟨k, h2, ?_⟩
  simp [rdL, h1]
theorem pick_mem {c : List Int} {l : Int} (h : c ∈ pick cls (atAll cls l)) : c ∈ cls := by
  obtain ⟨i, hi, rfl⟩ := List.mem_map.1 h
  have := atAll_mem cls l i hi
  exact rdL_memG (by omega)

theorem Okay.abs (hok : Okay n cls lits) : ∀ c, c ∈ cls → ∀ l, l ∈ c → absI l < ((n + 1 : Nat) : Int) ∧ 0 ≤ absI l := fun c hc l hl => by
  have := hok.cl c hc l hl
  unfold LitN at this
  omega

theorem runQ_spec (hok : Okay n cls lits) : ∀ (k N : Nat) {val q : List Int}, Snd n cls lits val → (∀ c, c ∈ cls → OKc val q c) → Inv (n + 1) N val q → N < k →
    ((∃ v, runQ cls (atAll cls) k val q = some (false, v)) ∧ Bad cls lits) ∨ (∃ v, runQ cls (atAll cls) k val q = some (true, v) ∧ Snd n cls lits v ∧ (∀ x, LitN n x → Has val x → Has v x) ∧ ∀ c, c ∈ cls → Stable v c)
  | 0, _, _, _, _, _, _, h => by omega
  | k + 1, N, val, [], hS, hok', _, _ => .inr ⟨val, rfl, hS, fun _ _ h => h, fun c hc => (hok' c hc).elim id (fun ⟨_, h, _⟩ => by cases h)⟩
  | k + 1, N, val, l :: q, hS, hok', hI, hk => by
    simp only [runQ]
    have hroom := hI.room
    simp only [List.length_cons] at hroom
    have hI1 : Inv (n + 1) (N - 1) val q := ⟨hI.len, hI.tri, by omega⟩
    have hI2 := hI1.looks (pick cls (atAll cls l)) (fun c hc => hok.abs c (pick_mem hc))
    rcases looks_spec hok (pick cls (atAll cls l)) hS (q := q) (fun c hc => pick_mem hc) with ⟨h1, h2⟩ | ⟨h1, h2, h3, h4⟩
    · rw [h1]
      exact .inl ⟨⟨_, rfl⟩, h2⟩
    · rw [h1]
      have hall : ∀ c, c ∈ cls → OKc (lookAll val q (pick cls (atAll cls l))).2.1 (lookAll val q (pick cls (atAll cls l))).2.2 c := fun c hc => by
        by_cases hm : -l ∈ c
        · exact h4 c (pick_has hc hm)
        · refine h3.ok c (hok.cl c hc) ((hok' c hc).imp id (fun ⟨y, h5, h6⟩ => ?_))
          rcases List.mem_cons.1 h5 with rfl | h5
          · exact absurd h6 hm
          · exact ⟨y, h5, h6⟩
      rcases runQ_spec hok k (N - 1) h2 hall hI2 (by omega) with h | ⟨v, h5, h6, h7, h8⟩
      · exact .inl h
      · exact .inr ⟨v, h5, h6, fun x hx hh => h7 x hx (h3.mono x hx hh), h8⟩

theorem takes_spec (hok : Okay n cls lits) : ∀ (ls : List Int) {val q : List Int}, Snd n cls lits val → Inv (n + 1) (n + 1) val q → (∀ l, l ∈ ls → l ∈ lits) →
    ((takeAll val q ls).1 = false ∧ Bad cls lits) ∨ ((takeAll val q ls).1 = true ∧ Snd n cls lits (takeAll val q ls).2.1 ∧ Inv (n + 1) (n + 1) (takeAll val q ls).2.1 (takeAll val q ls).2.2 ∧ (∀ x, LitN n x → Has val x → Has (takeAll val q ls).2.1 x) ∧ ∀ l, l ∈ ls → Has (takeAll val q ls).2.1 l)
  | [], _, _, hS, hI, _ => .inr ⟨rfl, hS, hI, fun _ _ h => h, fun _ h => by cases h⟩
  | l :: r, val, q, hS, hI, hm => by
    have hl := hok.li l (hm l (List.mem_cons_self ..))
    have hI1 := hI.take l (by have := hl.2; omega) (by have := hl.1; omega)
    unfold takeAll
    rcases take_spec hok hS (q := q) hl (.lit (hm l (List.mem_cons_self ..))) with ⟨h1, h2⟩ | ⟨h1, h2, h3, h4⟩
    · rw [h1]
      exact .inl ⟨rfl, h2⟩
    · rw [h1]
      rcases takes_spec hok r h2 hI1 (fun x hx => hm x (List.mem_cons_of_mem _ hx)) with h | ⟨h5, h6, h7, h8, h9⟩
      · exact .inl h
      · refine .inr ⟨h5, h6, h7, fun x hx hh => h8 x hx (h4.mono x hx hh), fun x hx => ?_⟩
        rcases List.mem_cons.1 hx with rfl | hx
        · exact h8 _ hl h3
        · exact h9 x hx

/-- The one answer. -/
structure Sole (n : Nat) (cls : List (List Int)) (lits : List Int) (val : List Int) : Prop where
  tri : Tri (n + 1) val
  zero : rd val 0 = 0
  iff : ∀ l, LitN n l → (Der cls lits l ↔ Has val l)
theorem snd_zero (_hok : Okay n cls lits) : Snd n cls lits (zerosL (n + 1)) := by
  have hz : ∀ i, rd (zerosL (n + 1)) i = 0 := fun i => by
    simp only [rd, zerosL, List.getD_eq_getElem?_getD, List.getElem?_replicate]
    split <;> rfl
  exact ⟨Tri.zeros _, hz 0, fun l _ h => absurd (by unfold Has at h; rw [hz] at h; exact h.symm) (sgn_ne l)⟩

theorem prog_res (hok : Okay n cls lits) (hn : n ≤ 4096) : (goTake cls PS.K0 (takeAll (zerosL (n + 1)) [] lits) = some ([], true, 0) ∧ Bad cls lits) ∨ (∃ val, goTake cls PS.K0 (takeAll (zerosL (n + 1)) [] lits) = some (outF val 0, false, 0) ∧ ¬ Bad cls lits ∧ Sole n cls lits val) := by
  rcases takes_spec hok lits (snd_zero hok) (inv_zero (n + 1)) (fun _ h => h) with ⟨h1, h2⟩ | ⟨h1, h2, h3, h4, h5⟩
  · unfold goTake
    rw [h1]
    exact .inl ⟨rfl, h2⟩
  · unfold goTake runF
    rw [h1]
    simp only [cond_true]
    rcases looks_spec hok cls h2 (q := (takeAll (zerosL (n + 1)) [] lits).2.2) (fun _ h => h) with ⟨h6, h7⟩ | ⟨h6, h7, h8, h9⟩
    · unfold goQ
      rw [h6]
      exact .inl ⟨rfl, h7⟩
    · unfold goQ
      rw [h6]
      simp only [cond_true]
      have hI := h3.looks cls hok.abs
      rcases runQ_spec hok PS.K0 (n + 1) h7 h9 hI (by unfold PS.K0; omega) with ⟨⟨v, h10⟩, h11⟩ | ⟨v, h10, h11, h12, h13⟩
      · rw [h10]
        exact .inl ⟨rfl, h11⟩
      · rw [h10]
        have hl : ∀ l, l ∈ lits → Has v l := fun l hl => h12 l (hok.li l hl) (h8.mono l (hok.li l hl) (h5 l hl))
        exact .inr ⟨v, rfl, closed_good hok h11 h13 hl, h11.tri, h11.zero, fun l hl' => ⟨fun hd => closed_der hok h11 h13 hl hd, h11.der l hl'⟩⟩

/-! ### The document's way -/
theorem put_spec {s : List Int} (hS : Snd n cls lits s) {l : Int} (hl : LitN n l) (hd : Der cls lits l) :
    ((putR s l).1 = false ∧ Bad cls lits) ∨ ((putR s l).1 = true ∧ Snd n cls lits (putR s l).2 ∧ Has (putR s l).2 l ∧ ∀ x, LitN n x → Has s x → Has (putR s l).2 x) := by
  unfold putR
  rw [sideF_eq]
  by_cases h2 : rd s (absI l) = -sgn l
  · have : (rd s (absI l) == -sgn l) = true := by simpa using h2
    rw [this]
    refine .inl ⟨rfl, .inr ⟨l, hd, hS.der _ hl.neg ?_⟩⟩
    unfold Has
    rw [absI_neg, sgn_neg hl.ne]
    exact h2
  · have : (rd s (absI l) == -sgn l) = false := by simpa using h2
    rw [this]
    refine .inr ⟨rfl, hS.put hl hd, has_put hS.tri hl, fun x hx h => ?_⟩
    by_cases hz : rd s (absI l) = 0
    · exact has_mono hS.tri hl hz hx h
    · have he : rd s (absI l) = sgn l := by
        have := hS.kind hl
        rcases sgn_cases l with e | e <;> omega
      show Has (s.set (absI l).toNat (sgn l)) x
      unfold Has at *
      rw [rd_set _ (by have := hl.1; omega) (by have := hx.1; omega) (by have := hS.tri.1; have := hl.2; omega)]
      by_cases hxl : absI x = absI l
      · rw [if_pos hxl, ← he, ← hxl]; exact h
      · rw [if_neg hxl]; exact h

theorem puts_spec (hok : Okay n cls lits) : ∀ (ls : List Int) {s : List Int}, Snd n cls lits s → (∀ l, l ∈ ls → l ∈ lits) →
    (putAll s ls = none ∧ Bad cls lits) ∨ (∃ s', putAll s ls = some s' ∧ Snd n cls lits s' ∧ (∀ x, LitN n x → Has s x → Has s' x) ∧ ∀ l, l ∈ ls → Has s' l)
  | [], s, hS, _ => .inr ⟨s, rfl, hS, fun _ _ h => h, fun _ h => by cases h⟩
  | l :: r, s, hS, hm => by
    have hl := hok.li l (hm l (List.mem_cons_self ..))
    unfold putAll
    rcases put_spec hS hl (.lit (hm l (List.mem_cons_self ..))) with ⟨h1, h2⟩ | ⟨h1, h2, h3, h4⟩
    · rw [h1]
      exact .inl ⟨rfl, h2⟩
    · rw [h1]
      rcases puts_spec hok r h2 (fun x hx => hm x (List.mem_cons_of_mem _ hx)) with h | ⟨s', h5, h6, h8, h9⟩
      · exact .inl h
      · refine .inr ⟨s', h5, h6, fun x hx hh => h8 x hx (h4 x hx hh), fun x hx => ?_⟩
        rcases List.mem_cons.1 hx with rfl | hx
        · exact h8 _ hl h3
        · exact h9 x hx

theorem pass_spec (hok : Okay n cls lits) : ∀ (cs : List (List Int)) (b : Bool) {s : List Int}, Snd n cls lits s → (∀ c, c ∈ cs → c ∈ cls) →
    (passR s b cs = none ∧ Bad cls lits) ∨ (∃ s' b', passR s b cs = some (s', b') ∧ Snd n cls lits s' ∧ (∀ x, LitN n x → Has s x → Has s' x) ∧ zeros s' ≤ zeros s ∧ (b' = false → b = false ∧ s' = s ∧ ∀ c, c ∈ cs → Stable s c) ∧ (b' = true → b = true ∨ zeros s' < zeros s))
  | [], b, s, hS, _ => .inr ⟨s, b, rfl, hS, fun _ _ h => h, Nat.le_refl _, fun h => ⟨h, rfl, fun _ h => by cases h⟩, fun h => .inl h⟩
  | c :: r, b, s, hS, hm => by
    have hc := hm c (List.mem_cons_self ..)
    have hr : ∀ c, c ∈ r → c ∈ cls := fun c hc => hm c (List.mem_cons_of_mem _ hc)
    unfold passR
    cases h : leftF s c 0 with
    | none =>
      have e : (bif (onlyE (none : Option Int)).2 == 2 then none else bif (onlyE (none : Option Int)).2 == 1 && rd s (absI (onlyE (none : Option Int)).1) == 0 then passR (putR s (onlyE (none : Option Int)).1).2 true r else passR s b r) = passR s b r := rfl
      rw [e]
      rcases pass_spec hok r b hS hr with h1 | ⟨s', b', h1, h2, h3, h4, h5, h6⟩
      · exact .inl h1
      · refine .inr ⟨s', b', h1, h2, h3, h4, fun hb => ?_, h6⟩
        obtain ⟨q1, q2, q3⟩ := h5 hb
        exact ⟨q1, q2, fun d hd => (List.mem_cons.1 hd).elim (fun e => e ▸ .inl h) (q3 d)⟩
    | some l =>
      by_cases h0 : l = 0
      · subst h0
        exact .inl ⟨rfl, bad_of_zero hok hS hc h⟩
      · have hb0 : (l == 0) = false := by simpa using h0
        have he : onlyE (some l) = (l, 1) := by simp only [onlyE, hb0, cond_false]
        rw [he]
        obtain ⟨h1, h2, h3, h4⟩ := der_of_left hok hS hc h0 h
        have hl := hok.cl c hc l h1
        by_cases hz : rd s (absI l) = 0
        · have e : (bif (l, (1 : Int)).2 == 2 then none else bif (l, (1 : Int)).2 == 1 && rd s (absI (l, (1 : Int)).1) == 0 then passR (putR s (l, (1 : Int)).1).2 true r else passR s b r) = passR (putR s l).2 true r := by
            show (bif (true && rd s (absI l) == 0) then passR (putR s l).2 true r else passR s b r) = _
            rw [hz]; rfl
          rw [e]
          have hp : (putR s l).2 = s.set (absI l).toNat (sgn l) := by
            unfold putR
            rw [sideF_eq]
            have : (rd s (absI l) == -sgn l) = false := by
              rw [hz]
              rcases sgn_cases l with e | e <;> rw [e] <;> rfl
            rw [this]; rfl
          have hzs : zeros (putR s l).2 + 1 = zeros s := by
            rw [hp]
            exact zeros_set s _ _ (by have := hS.tri.1; have := hl.2; have := hl.1; omega) hz (sgn_ne l)
          have hS2 : Snd n cls lits (putR s l).2 := by rw [hp]; exact hS.put hl h3
          have hmono : ∀ x, LitN n x → Has s x → Has (putR s l).2 x := fun x hx hh => by rw [hp]; exact has_mono hS.tri hl hz hx hh
          rcases pass_spec hok r true hS2 hr with h5 | ⟨s', b', h5, h6, h7, h8, h9, h10⟩
          · exact .inl h5
          · exact .inr ⟨s', b', h5, h6, fun x hx hh => h7 x hx (hmono x hx hh), by omega, fun hb => absurd (h9 hb).1 (by decide), fun _ => .inr (by omega)⟩
        · have e : (bif (l, (1 : Int)).2 == 2 then none else bif (l, (1 : Int)).2 == 1 && rd s (absI (l, (1 : Int)).1) == 0 then passR (putR s (l, (1 : Int)).1).2 true r else passR s b r) = passR s b r := by
            show (bif (true && rd s (absI l) == 0) then passR (putR s l).2 true r else passR s b r) = _
            have : (rd s (absI l) == 0) = false := by simpa using hz
            rw [this]; rfl
          rw [e]
          have hst : Stable s c := by
            refine .inr ⟨l, h0, h, ?_⟩
            have hk := hS.kind hl
            have hno : ¬ Has s (-l) := fun hh => by rw [(offB_iff hk h0).2 hh] at h2; cases h2
            unfold Has at *
            rw [absI_neg, sgn_neg h0] at hno
            rcases sgn_cases l with e | e <;> omega
          rcases pass_spec hok r b hS hr with h5 | ⟨s', b', h5, h6, h7, h8, h9, h10⟩
          · exact .inl h5
          · refine .inr ⟨s', b', h5, h6, h7, h8, fun hb => ?_, h10⟩
            obtain ⟨q1, q2, q3⟩ := h9 hb
            exact ⟨q1, q2, fun d hd => (List.mem_cons.1 hd).elim (fun e => e ▸ hst) (q3 d)⟩

theorem fix_spec (hok : Okay n cls lits) : ∀ (k : Nat) (b : Bool) {s : List Int}, Snd n cls lits s → zeros s + 2 ≤ k → (b = false → ∀ c, c ∈ cls → Stable s c) →
    (fixR cls k b s = some none ∧ Bad cls lits) ∨ (∃ v, fixR cls k b s = some (some v) ∧ Snd n cls lits v ∧ (∀ x, LitN n x → Has s x → Has v x) ∧ ∀ c, c ∈ cls → Stable v c)
  | 0, _, _, _, h, _ => by omega
  | k + 1, false, s, hS, _, hb => .inr ⟨s, rfl, hS, fun _ _ h => h, hb rfl⟩
  | k + 1, true, s, hS, hk, _ => by
    simp only [fixR]
    rcases pass_spec hok cls false hS (fun _ h => h) with ⟨h1, h2⟩ | ⟨s', b', h1, h2, h3, h4, h5, h6⟩
    · rw [h1]
      exact .inl ⟨rfl, h2⟩
    · rw [h1]
      have hfin : (fixR cls k b' s' = some none ∧ Bad cls lits) ∨ (∃ v, fixR cls k b' s' = some (some v) ∧ Snd n cls lits v ∧ (∀ x, LitN n x → Has s' x → Has v x) ∧ ∀ c, c ∈ cls → Stable v c) := by
        cases b' with
        | true =>
          have := (h6 rfl).resolve_left (by decide)
          exact fix_spec hok k true h2 (by omega) (fun h => by cases h)
        | false =>
          obtain ⟨_, rfl, q3⟩ := h5 rfl
          cases k with
          | zero => omega
          | succ k => exact .inr ⟨s', rfl, h2, fun _ _ h => h, q3⟩
      rcases hfin with h | ⟨v, h7, h8, h9, h10⟩
      · exact .inl h
      · exact .inr ⟨v, h7, h8, fun x hx hh => h9 x hx (h3 x hx hh), h10⟩

theorem zeros_le (val : List Int) : zeros val ≤ val.length := List.length_filter_le _ _
theorem ref_res (hok : Okay n cls lits) (hn : n ≤ 4096) : (spreadR PS.K0 n cls lits = some ([], false) ∧ Bad cls lits) ∨ (∃ val, spreadR PS.K0 n cls lits = some (outF (val.drop 1) 1, true) ∧ ¬ Bad cls lits ∧ Sole n cls lits val) := by
  unfold spreadR
  rcases puts_spec hok lits (snd_zero hok) (fun _ h => h) with ⟨h1, h2⟩ | ⟨s, h1, h2, h3, h4⟩
  · rw [h1]
    exact .inl ⟨rfl, h2⟩
  · rw [h1]
    have hz := zeros_le s
    have := h2.tri.1
    rcases fix_spec hok PS.K0 true h2 (by unfold PS.K0; omega) (fun h => by cases h) with ⟨h5, h6⟩ | ⟨v, h5, h6, h7, h8⟩
    · refine .inl ⟨?_, h6⟩
      unfold startR
      simp only [h5]
      rfl
    · have hl : ∀ l, l ∈ lits → Has v l := fun l hl => h7 l (hok.li l hl) (h4 l hl)
      refine .inr ⟨v, ?_, closed_good hok h6 h8 hl, h6.tri, h6.zero, fun l hl' => ⟨fun hd => closed_der hok h6 h8 hl hd, h6.der l hl'⟩⟩
      unfold startR
      simp only [h5]
      rfl
end

theorem Sole.unique {n : Nat} {cls cls' : List (List Int)} {lits lits' : List Int} {val val' : List Int} (h : Sole n cls lits val) (h' : Sole n cls' lits' val') (he : ∀ l, LitN n l → (Der cls lits l ↔ Der cls' lits' l)) : val = val' := by
  refine List.ext_getElem (h.tri.1.trans h'.tri.1.symm) fun i h1 h2 => ?_
  have e1 : val[i] = rd val i := by simp [rd, h1]
  have e2 : val'[i] = rd val' i := by simp [rd, h2]
  rw [e1, e2]
  by_cases hi : i = 0
  · subst hi
    exact h.zero.trans h'.zero.symm
  · have hn := h.tri.1
    have hl : LitN n (i : Int) := by unfold LitN absI; split <;> omega
    have ha : absI (i : Int) = i := by unfold absI; split <;> omega
    have hs : sgn (i : Int) = 1 := by unfold sgn; split <;> omega
    have hp : rd val i = 1 ↔ rd val' i = 1 := by
      have q1 := h.iff i hl
      have q2 := h'.iff i hl
      have q3 := he i hl
      unfold Has at q1 q2
      rw [ha, hs] at q1 q2
      rw [← q1, ← q2, q3]
    have hm : rd val i = -1 ↔ rd val' i = -1 := by
      have q1 := h.iff _ hl.neg
      have q2 := h'.iff _ hl.neg
      have q3 := he _ hl.neg
      unfold Has at q1 q2
      rw [absI_neg, ha, sgn_neg hl.ne, hs] at q1 q2
      rw [← q1, ← q2, q3]
    have t1 := h.tri.2 _ (e1 ▸ List.getElem_mem h1)
    have t2 := h'.tri.2 _ (e2 ▸ List.getElem_mem h2)
    omega
theorem outF_zero {val : List Int} (h : rd val 0 = 0) (hl : 0 < val.length) : outF val 0 = outF (val.drop 1) 1 := by
  cases val with
  | nil => simp at hl
  | cons a r =>
    have : a = 0 := by simpa [rd] using h
    subst this
    simp [outF]
theorem mem_outF : ∀ (val : List Int) (i : Int) (x : Int), x ∈ outF val i ↔ ∃ k : Nat, ∃ s, val[k]? = some s ∧ s ≠ 0 ∧ x = (i + k) * s
  | [], i, x => by simp [outF]
  | s :: r, i, x => by
    have ih := mem_outF r (i + 1) x
    have shift : (∃ k : Nat, ∃ t, r[k]? = some t ∧ t ≠ 0 ∧ x = (i + 1 + k) * t) ↔ ∃ k : Nat, ∃ t, (s :: r)[k + 1]? = some t ∧ t ≠ 0 ∧ x = (i + ((k + 1 : Nat) : Int)) * t := by
      constructor
      · rintro ⟨k, t, h1, h2, h3⟩
        exact ⟨k, t, by simpa using h1, h2, by rw [h3]; congr 1; omega⟩
      · rintro ⟨k, t, h1, h2, h3⟩
        exact ⟨k, t, by simpa using h1, h2, by rw [h3]; congr 1; omega⟩
    unfold outF
    cases hs : (s != 0) with
    | true =>
      have hs' : s ≠ 0 := by simpa using hs
      simp only [cond_true, List.mem_cons]
      rw [ih, shift]
      constructor
      · rintro (rfl | ⟨k, t, h⟩)
        · exact ⟨0, s, rfl, hs', by simp⟩
        · exact ⟨k + 1, t, h⟩
      · rintro ⟨k, t, h1, h2, h3⟩
        cases k with
        | zero =>
          have : s = t := by simpa using h1
          subst this
          exact .inl (by simpa using h3)
        | succ k => exact .inr ⟨k, t, h1, h2, h3⟩
    | false =>
      have hs' : s = 0 := by simpa using hs
      simp only [cond_false]
      rw [ih, shift]
      constructor
      · rintro ⟨k, t, h⟩
        exact ⟨k + 1, t, h⟩
      · rintro ⟨k, t, h1, h2, h3⟩
        cases k with
        | zero =>
          have : s = t := by simpa using h1
          exact absurd (this ▸ hs') h2
        | succ k => exact ⟨k, t, h1, h2, h3⟩
theorem Sole.mem {n : Nat} {cls : List (List Int)} {lits : List Int} {val : List Int} (h : Sole n cls lits val) (x : Int) : x ∈ outF val 0 ↔ LitN n x ∧ Der cls lits x := by
  rw [mem_outF]
  constructor
  · rintro ⟨k, s, h1, h2, h3⟩
    have hk : k < val.length := by
      rcases Nat.lt_or_ge k val.length with h' | h'
      · exact h'
      · rw [List.getElem?_eq_none h'] at h1; cases h1
    have hrd : rd val k = s := by simp [rd, h1]
    have hn := h.tri.1
    have hk0 : k ≠ 0 := by rintro rfl; exact h2 (hrd.symm.trans h.zero)
    have ht := h.tri.2 s (List.mem_of_getElem? h1)
    have hl : LitN n x := by
      unfold LitN absI
      rcases ht with rfl | rfl | rfl
      · split <;> omega
      · exact absurd rfl h2
      · split <;> omega
    refine ⟨hl, (h.iff x hl).2 ?_⟩
    unfold Has
    have ha : absI x = k := by
      unfold absI
      rcases ht with rfl | rfl | rfl
      · split <;> omega
      · exact absurd rfl h2
      · split <;> omega
    rw [ha, hrd]
    unfold sgn
    rcases ht with rfl | rfl | rfl
    · rw [if_pos (by omega)]
    · exact absurd rfl h2
    · rw [if_neg (by omega)]
  · rintro ⟨hl, hd⟩
    have hh := (h.iff x hl).1 hd
    have hn := h.tri.1
    unfold LitN at hl
    have hlt : (absI x).toNat < val.length := by omega
    refine ⟨(absI x).toNat, val[(absI x).toNat], List.getElem?_eq_getElem hlt, ?_, ?_⟩
    · have e : val[(absI x).toNat] = rd val (absI x) := by simp [rd, hlt]
      rw [e, hh]
      exact sgn_ne x
    · have e : val[(absI x).toNat] = rd val (absI x) := by simp [rd, hlt]
      rw [e, hh]
      unfold absI sgn
      split <;> omega
end Go.Proofs.YtifhiloeghmfiaaDoor.Cnf
