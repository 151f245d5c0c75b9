/- What pages say, plainly: a text's tags and words, byte by byte, and that the pieces that the program yields say the same. -/
import Derived.Test.YtllgcpoljdjjnaaGreatWords
import Derived.Test.YtllgcpoljdjjnaaGreatPage
set_option linter.unusedVariables false
set_option linter.unusedSimpArgs false
namespace Go.Proofs.YtllgcpoljdjjnaaGreat.Pg

/-! the first of some bytes -/
theorem idx_at (cs : List UInt8) : ∀ (p : List UInt8) (x : UInt8) (r : List UInt8), (∀ b, b ∈ p → cs.contains b = false) → cs.contains x = true → Lib.indexAny (p ++ x :: r) cs = (p.length : Int)
  | [], x, r, _, hx => by rw [List.nil_append, Lib.indexAny, if_pos hx]; rfl
  | b :: p, x, r, hp, hx => by
    have ih := idx_at cs p x r (fun c hc => hp c (List.mem_cons_of_mem _ hc)) hx
    rw [List.cons_append, Lib.indexAny, if_neg (by rw [hp b List.mem_cons_self]; decide), ih, if_neg (by intro e; have := beq_iff_eq.1 e; omega)]
    push_cast
    rfl
theorem idx_no (cs : List UInt8) : ∀ l : List UInt8, (∀ b, b ∈ l → cs.contains b = false) → Lib.indexAny l cs = -1
  | [], _ => rfl
  | b :: l, h => by
    rw [Lib.indexAny, if_neg (by rw [h b List.mem_cons_self]; decide), idx_no cs l (fun c hc => h c (List.mem_cons_of_mem _ hc))]
    rfl
theorem idx_split (cs : List UInt8) : ∀ l : List UInt8, (∀ b, b ∈ l → cs.contains b = false) ∨ ∃ p x r, l = p ++ x :: r ∧ (∀ b, b ∈ p → cs.contains b = false) ∧ cs.contains x = true
  | [] => .inl (by simp)
  | b :: l => by
    cases hb : cs.contains b with
    | true => exact .inr ⟨[], b, l, rfl, by simp, hb⟩
    | false =>
      rcases idx_split cs l with h | ⟨p, x, r, rfl, hp, hx⟩
      · refine .inl fun c hc => ?_
        rcases List.mem_cons.1 hc with rfl | hc
        · exact hb
        · exact h c hc
      · refine .inr ⟨b :: p, x, r, rfl, fun c hc => ?_, hx⟩
        rcases List.mem_cons.1 hc with rfl | hc
        · exact hb
        · exact hp c hc

/-! escapes -/
theorem unesc_from (l : List UInt8) : ∀ (n j i : Nat), n = 5 - j → unesc l j = some i → j ≤ i ∧ i < 5 ∧ (valOf i).isPrefixOf l = true ∧ ∀ m, j ≤ m → m < i → (valOf m).isPrefixOf l = false := by
  intro n
  induction n with
  | zero =>
    intro j i hn h
    rw [unesc, if_neg (by omega)] at h
    cases h
  | succ n ih =>
    intro j i hn h
    rw [unesc, if_pos (by omega)] at h
    split at h
    · rename_i hp
      cases h
      exact ⟨Nat.le_refl _, by omega, hp, fun m h1 h2 => by omega⟩
    · rename_i hp
      obtain ⟨h1, h2, h3, h4⟩ := ih (j + 1) i (by omega) h
      refine ⟨by omega, h2, h3, fun m hm1 hm2 => ?_⟩
      by_cases e : m = j
      · subst e
        exact Bool.eq_false_iff.2 hp
      · exact h4 m (by omega) hm2
theorem unesc_to (l : List UInt8) (i : Nat) (hi : i < 5) (hp : (valOf i).isPrefixOf l = true) : ∀ (n j : Nat), n = i - j → j ≤ i → (∀ m, j ≤ m → m < i → (valOf m).isPrefixOf l = false) → unesc l j = some i := by
  intro n
  induction n with
  | zero =>
    intro j hn hj _
    obtain rfl : j = i := by omega
    rw [unesc, if_pos hi, if_pos hp]
  | succ n ih =>
    intro j hn hj hm
    rw [unesc, if_pos (by omega), if_neg (by rw [hm j (Nat.le_refl _) (by omega)]; decide)]
    exact ih (j + 1) (by omega) (by omega) (fun m h1 h2 => hm m (by omega) h2)
theorem val_apart : ∀ i, i < 5 → ∀ j, j < 5 → (valOf i).isPrefixOf (valOf j) = true → i = j := by decide
theorem unesc_more (s t : List UInt8) {i : Nat} (h : unesc s 0 = some i) : (valOf i).isPrefixOf s = true ∧ unesc (s ++ t) 0 = some i := by
  obtain ⟨_, h2, h3, h4⟩ := unesc_from s 5 0 i rfl h
  refine ⟨h3, unesc_to (s ++ t) i h2 ?_ i 0 rfl (Nat.zero_le _) fun m _ hm => ?_⟩
  · exact List.isPrefixOf_iff_prefix.2 ((List.isPrefixOf_iff_prefix.1 h3).trans (List.prefix_append _ _))
  · cases hq : (valOf m).isPrefixOf (s ++ t) with
    | false => rfl
    | true =>
      have p1 := List.isPrefixOf_iff_prefix.1 hq
      have p2 : valOf i <+: s ++ t := (List.isPrefixOf_iff_prefix.1 h3).trans (List.prefix_append _ _)
      rcases List.prefix_or_prefix_of_prefix p1 p2 with q | q
      · have := val_apart m (by omega) i h2 (List.isPrefixOf_iff_prefix.2 q)
        omega
      · have := val_apart i h2 m (by omega) (List.isPrefixOf_iff_prefix.2 q)
        omega
theorem unesc_other (c : UInt8) (r : List UInt8) (hc : c ≠ 38) : unesc (c :: r) 0 = none := by
  cases h : unesc (c :: r) 0 with
  | none => rfl
  | some i =>
    obtain ⟨_, h2, h3, _⟩ := unesc_from _ 5 0 i rfl h
    exfalso
    match i, h2 with
    | 0, _ => simp [valOf] at h3; exact hc h3.1.symm
    | 1, _ => simp [valOf] at h3; exact hc h3.1.symm
    | 2, _ => simp [valOf] at h3; exact hc h3.1.symm
    | 3, _ => simp [valOf] at h3; exact hc h3.1.symm
    | 4, _ => simp [valOf] at h3; exact hc h3.1.symm

/-! byte by byte -/
def parse : Nat → List UInt8 → Option (List (List UInt8) × List UInt8)
  | 0, _ => some ([], [])
  | _ + 1, [] => some ([], [])
  | k + 1, c :: r =>
    if c = 60 then
      if Lib.indexAny r chs2 < 0 ∨ r[(Lib.indexAny r chs2).toNat]? = some 60 then none
      else (parse k (r.drop ((Lib.indexAny r chs2).toNat + 1))).map fun x => (r.take (Lib.indexAny r chs2).toNat :: x.1, x.2)
    else if c = 62 then none
    else if c = 38 then match unesc (c :: r) 0 with
      | none => none
      | some i => (parse k ((c :: r).drop (valOf i).length)).map fun x => (x.1, keyOf i :: x.2)
    else (parse k r).map fun x => (x.1, c :: x.2)
theorem parse_fuel : ∀ (k k' : Nat) (l : List UInt8), l.length ≤ k → l.length ≤ k' → parse k l = parse k' l
  | 0, k', l, h, _ => by
    obtain rfl : l = [] := List.length_eq_zero_iff.1 (by omega)
    cases k' <;> rfl
  | k + 1, 0, l, _, h => by
    obtain rfl : l = [] := List.length_eq_zero_iff.1 (by omega)
    rfl
  | k + 1, k' + 1, [], _, _ => rfl
  | k + 1, k' + 1, c :: r, h, h' => by
    simp only [List.length_cons] at h h'
    have ih := fun (q : List UInt8) (hq : q.length ≤ r.length) => parse_fuel k k' q (by omega) (by omega)
    simp only [parse]
    rw [ih (r.drop ((Lib.indexAny r chs2).toNat + 1)) (by rw [List.length_drop]; omega), ih r (Nat.le_refl _)]
    cases hu : unesc (c :: r) 0 with
    | none => rfl
    | some i =>
      have := val_len i
      simp only []
      rw [ih ((c :: r).drop (valOf i).length) (by rw [List.length_drop, List.length_cons]; omega)]
def prs (l : List UInt8) : Option (List (List UInt8) × List UInt8) := parse l.length l
theorem prs_nil : prs [] = some ([], []) := rfl
theorem prs_of (k : Nat) (l : List UInt8) (h : l.length ≤ k) : parse k l = prs l := parse_fuel _ _ _ h (Nat.le_refl _)
theorem prs_tag (p r : List UInt8) (hp : ∀ b, b ∈ p → chs2.contains b = false) : prs (60 :: (p ++ 62 :: r)) = (prs r).map fun x => (p :: x.1, x.2) := by
  have hi := idx_at chs2 p 62 r hp (by decide)
  show parse (p ++ 62 :: r).length.succ _ = _
  simp only [parse, hi, Int.toNat_natCast, if_true]
  rw [if_neg (by rintro (h | h); omega; simp at h)]
  have e1 : (p ++ 62 :: r).drop (p.length + 1) = r := by rw [← List.drop_drop, List.drop_left' rfl]; rfl
  rw [e1, List.take_left' rfl, prs_of _ r (by simp; omega)]
theorem prs_bad (l : List UInt8) (h : (∀ b, b ∈ l → chs2.contains b = false) ∨ ∃ p r, l = p ++ 60 :: r ∧ ∀ b, b ∈ p → chs2.contains b = false) : prs (60 :: l) = none := by
  show parse l.length.succ _ = _
  simp only [parse, if_true]
  rw [if_pos]
  rcases h with h | ⟨p, r, rfl, hp⟩
  · exact .inl (by rw [idx_no chs2 l h]; decide)
  · refine .inr ?_
    rw [idx_at chs2 p 60 r hp (by decide)]
    simp
theorem prs_gt (l : List UInt8) : prs (62 :: l) = none := by
  show parse l.length.succ _ = _
  simp [parse]
theorem prs_esc (r : List UInt8) {i : Nat} (h : unesc (38 :: r) 0 = some i) : prs (38 :: r) = (prs ((38 :: r).drop (valOf i).length)).map fun x => (x.1, keyOf i :: x.2) := by
  have := val_len i
  show parse r.length.succ _ = _
  simp only [parse, h]
  rw [if_neg (by decide), if_neg (by decide), if_pos trivial, prs_of _ _ (by rw [List.length_drop, List.length_cons]; omega)]
theorem prs_noesc (r : List UInt8) (h : unesc (38 :: r) 0 = none) : prs (38 :: r) = none := by
  show parse r.length.succ _ = _
  simp only [parse, h]
  rw [if_neg (by decide), if_neg (by decide), if_pos trivial]
theorem chs3_not {c : UInt8} (h : chs3.contains c = false) : c ≠ 60 ∧ c ≠ 62 ∧ c ≠ 38 := by
  refine ⟨?_, ?_, ?_⟩
  all_goals
    rintro rfl
    revert h
    decide
theorem chs3_in {c : UInt8} (h : chs3.contains c = true) : c = 60 ∨ c = 62 ∨ c = 38 := by
  simp [chs3] at h
  exact h
theorem prs_one (c : UInt8) (r : List UInt8) (h : chs3.contains c = false) : prs (c :: r) = (prs r).map fun x => (x.1, c :: x.2) := by
  obtain ⟨h1, h2, h3⟩ := chs3_not h
  show parse r.length.succ _ = _
  simp only [parse]
  rw [if_neg h1, if_neg h2, if_neg h3, prs_of _ _ (Nat.le_refl _)]
theorem prs_plain : ∀ (p r : List UInt8), (∀ b, b ∈ p → chs3.contains b = false) → prs (p ++ r) = (prs r).map fun x => (x.1, p ++ x.2)
  | [], r, _ => by cases h : prs r <;> simp [h]
  | c :: p, r, h => by
    rw [List.cons_append, prs_one c _ (h c List.mem_cons_self), prs_plain p r (fun b hb => h b (List.mem_cons_of_mem _ hb))]
    cases prs r <;> rfl

/-! the pieces say the same -/
inductive Agree : List (Bool × List UInt8 × Bool × Nat) → Option (List (List UInt8) × List UInt8) → Prop
  | nil : Agree [] (some ([], []))
  | text (p : List UInt8) (n : Nat) (A : List (Bool × List UInt8 × Bool × Nat)) (R : Option (List (List UInt8) × List UInt8)) : Agree A R → Agree ((false, p, true, n) :: A) (R.map fun x => (x.1, p ++ x.2))
  | tag (p : List UInt8) (n : Nat) (A : List (Bool × List UInt8 × Bool × Nat)) (R : Option (List (List UInt8) × List UInt8)) : Agree A R → Agree ((true, p, true, n) :: A) (R.map fun x => (p :: x.1, x.2))
  | bad : Agree [(false, [], false, 1)] none
theorem agree : ∀ (k : Nat) (l : List UInt8), l.length ≤ k → Agree (pcs k l) (prs l)
  | 0, l, h => by
    obtain rfl : l = [] := List.length_eq_zero_iff.1 (by omega)
    exact .nil
  | k + 1, l, h => by
    by_cases hnil : l = []
    · subst hnil
      rw [pcs_nil, prs_nil]
      exact .nil
    rcases idx_split chs3 l with hno | ⟨p, x, r, rfl, hp, hx⟩
    · rw [pcs_neg k l hnil (by rw [idx_no chs3 l hno]; decide)]
      have e := prs_plain l [] hno
      rw [List.append_nil, prs_nil] at e
      rw [e]
      exact .text l _ [] _ .nil
    · have hi := idx_at chs3 p x r hp hx
      simp only [List.length_append, List.length_cons] at h
      by_cases hp0 : 0 < p.length
      · rw [pcs_pos k _ hnil hi hp0, List.take_left' rfl, List.drop_left' rfl, prs_plain p _ hp]
        exact .text p _ _ _ (agree k (x :: r) (by rw [List.length_cons]; omega))
      · obtain rfl : p = [] := List.length_eq_zero_iff.1 (by omega)
        rw [List.nil_append] at hi ⊢
        have hi0 : Lib.indexAny (x :: r) chs3 = 0 := hi
        rcases chs3_in hx with rfl | rfl | rfl
        · rcases idx_split chs2 r with hno | ⟨q, y, r', rfl, hq, hy⟩
          · rw [pcs_bad k r hi0 (.inl (by rw [idx_no chs2 r hno]; decide)), prs_bad r (.inl hno)]
            exact .bad
          · have hj := idx_at chs2 q y r' hq hy
            simp only [List.length_append, List.length_cons] at h
            have hy2 : y = 60 ∨ y = 62 := by simpa [chs2] using hy
            rcases hy2 with rfl | rfl
            · rw [pcs_bad k _ hi0 (.inr (by rw [hj]; simp)), prs_bad _ (.inr ⟨q, r', rfl, hq⟩)]
              exact .bad
            · rw [pcs_tag k _ hi0 hj (by simp), prs_tag q r' hq, List.take_left' rfl]
              have e1 : (q ++ 62 :: r').drop (q.length + 1) = r' := by rw [← List.drop_drop, List.drop_left' rfl]; rfl
              rw [e1]
              exact .tag q _ _ _ (agree k r' (by omega))
        · have hu : unesc (62 :: r) 0 = none := unesc_other 62 r (by decide)
          rw [pcs_unk k _ (by simp) hi0 (by simp) hu, prs_gt]
          exact .bad
        · cases hu : unesc (38 :: r) 0 with
          | none =>
            rw [pcs_unk k _ (by simp) hi0 (by simp) hu, prs_noesc r hu]
            exact .bad
          | some i =>
            have hv := val_len i
            rw [pcs_esc k _ (by simp) hi0 (by simp) hu, prs_esc r hu]
            exact .text [keyOf i] _ _ _ (agree k _ (by rw [List.length_drop, List.length_cons]; omega))
def tagsR (tg : List (List UInt8)) : Option (List (List UInt8) × List UInt8) → List (List UInt8) × Int
  | none => ([], 240)
  | some x => (tg ++ x.1, 0)
theorem tags_fold {A : List (Bool × List UInt8 × Bool × Nat)} {R : Option (List (List UInt8) × List UInt8)} (h : Agree A R) : ∀ tg, A.foldl (run1 stepT) (tg, 0) = tagsR tg R := by
  induction h with
  | nil => intro tg; simp [tagsR]
  | text p n A R _ ih => intro tg; rw [List.foldl_cons]; show A.foldl (run1 stepT) (tg, 0) = _; rw [ih]; cases R <;> rfl
  | tag p n A R _ ih => intro tg; rw [List.foldl_cons]; show A.foldl (run1 stepT) (tg ++ [p], 0) = _; rw [ih]; cases R <;> simp [tagsR]
  | bad => intro tg; rfl
theorem words_fold {A : List (Bool × List UInt8 × Bool × Nat)} {R : Option (List (List UInt8) × List UInt8)} (h : Agree A R) : ∀ b, (R = none → (A.foldl (run1 stepW) (b, 0)).2 = 240) ∧ ∀ x, R = some x → A.foldl (run1 stepW) (b, 0) = (b ++ x.2, 0) := by
  induction h with
  | nil => intro b; exact ⟨(fun e => by cases e), (fun x e => by cases e; simp)⟩
  | text p n A R _ ih =>
    intro b
    rw [List.foldl_cons]
    have h := ih (b ++ p)
    refine ⟨fun e => h.1 (by cases R with | none => rfl | some x => cases e), fun x e => ?_⟩
    cases R with
    | none => cases e
    | some y => cases e; exact (h.2 y rfl).trans (by simp)
  | tag p n A R _ ih =>
    intro b
    rw [List.foldl_cons]
    have h := ih b
    refine ⟨fun e => h.1 (by cases R with | none => rfl | some x => cases e), fun x e => ?_⟩
    cases R with
    | none => cases e
    | some y => cases e; exact h.2 y rfl
  | bad => intro b; exact ⟨(fun _ => rfl), (fun x e => by cases e)⟩
theorem tagsOf_eq (l : List UInt8) : tagsOf l = tagsR [] (prs l) := tags_fold (agree _ l (Nat.le_refl _)) []
def wordsR : Option (List (List UInt8) × List UInt8) → List UInt8 × Int
  | none => ([], 240)
  | some x => (x.2, 0)
theorem wordsOf_eq (l : List UInt8) : (wordsOf l).2 = (wordsR (prs l)).2 ∧ (if (wordsOf l).2 = 0 then (wordsOf l).1 else []) = (wordsR (prs l)).1 := by
  have h := words_fold (agree _ l (Nat.le_refl _)) []
  cases hR : prs l with
  | none =>
    have e : (wordsOf l).2 = 240 := h.1 hR
    rw [e]
    exact ⟨rfl, rfl⟩
  | some x =>
    have e : wordsOf l = ([] ++ x.2, 0) := h.2 x hR
    rw [e]
    exact ⟨rfl, rfl⟩

/-! one behind the other -/
theorem prs_append : ∀ (k : Nat) (s t : List UInt8) (x : List (List UInt8) × List UInt8), s.length ≤ k → prs s = some x → prs (s ++ t) = (prs t).map fun y => (x.1 ++ y.1, x.2 ++ y.2)
  | 0, s, t, x, h, hs => by
    obtain rfl : s = [] := List.length_eq_zero_iff.1 (by omega)
    cases hs
    cases h : prs t <;> simp [h]
  | k + 1, [], t, x, h, hs => by
    cases hs
    cases h : prs t <;> simp [h]
  | k + 1, c :: r, t, x, h, hs => by
    simp only [List.length_cons] at h
    cases hc : chs3.contains c with
    | false =>
      rw [prs_one c r hc] at hs
      cases hr : prs r with
      | none => rw [hr] at hs; cases hs
      | some y =>
        rw [hr] at hs
        cases hs
        rw [List.cons_append, prs_one c _ hc, prs_append k r t y (by omega) hr]
        cases prs t <;> rfl
    | true =>
      rcases chs3_in hc with rfl | rfl | rfl
      · rcases idx_split chs2 r with hno | ⟨q, y, r', rfl, hq, hy⟩
        · rw [prs_bad r (.inl hno)] at hs
          cases hs
        · have hy2 : y = 60 ∨ y = 62 := by simpa [chs2] using hy
          rcases hy2 with rfl | rfl
          · rw [prs_bad _ (.inr ⟨q, r', rfl, hq⟩)] at hs
            cases hs
          · rw [prs_tag q r' hq] at hs
            cases hr : prs r' with
            | none => rw [hr] at hs; cases hs
            | some z =>
              rw [hr] at hs
              cases hs
              simp only [List.length_append, List.length_cons] at h
              have e : (60 :: (q ++ 62 :: r')) ++ t = 60 :: (q ++ 62 :: (r' ++ t)) := by simp
              rw [e, prs_tag q _ hq, prs_append k r' t z (by omega) hr]
              cases prs t <;> rfl
      · rw [prs_gt] at hs
        cases hs
      · cases hu : unesc (38 :: r) 0 with
        | none =>
          rw [prs_noesc r hu] at hs
          cases hs
        | some i =>
          have hv := val_len i
          rw [prs_esc r hu] at hs
          obtain ⟨hpre, hu2⟩ := unesc_more (38 :: r) t hu
          have hle := (List.isPrefixOf_iff_prefix.1 hpre).length_le
          cases hr : prs ((38 :: r).drop (valOf i).length) with
          | none => rw [hr] at hs; cases hs
          | some z =>
            rw [hr] at hs
            cases hs
            rw [List.cons_append] at hu2 ⊢
            rw [prs_esc _ hu2]
            have e : (38 :: (r ++ t)).drop (valOf i).length = (38 :: r).drop (valOf i).length ++ t := by
              rw [← List.cons_append, List.drop_append_of_le_length hle]
            rw [e, prs_append k _ t z (by rw [List.length_drop, List.length_cons]; omega) hr]
            cases prs t <;> rfl
end Go.Proofs.YtllgcpoljdjjnaaGreat.Pg
