/- lex: what is quoted is read again, in plain Lean. -/
import Derived.Test.YtohlbnbfpcbpdaaDoorLxK
import Derived.Test.YtohlbnbfpcbpdaaDoorLxQ
set_option linter.unusedVariables false
set_option linter.unusedSimpArgs false
namespace Go.Proofs.YtohlbnbfpcbpdaaDoor.Lx
open Go

theorem escR_at {L pre suf : List UInt8} {c : UInt8} (h : L = pre ++ c :: suf) : escR L pre.length = if 0 ≤ Lib.indexByte escTab c then some ([escOut.getD (Lib.indexByte escTab c).toNat 0], pre.length + 1) else
    if c ≠ 117 ∨ L.length < pre.length + 5 then none else
    match hexN 0 (suf.take 4) with
    | none => none
    | some n => if 55296 ≤ n ∧ n ≤ 57343 then none else some (runeB n, pre.length + 5) := by
  have hg : L[pre.length]? = some c := by rw [h, List.getElem?_append_right (Nat.le_refl _)]; simp
  have hd : L.drop (pre.length + 1) = suf := by
    rw [h, show pre ++ c :: suf = (pre ++ [c]) ++ suf by simp, show pre.length + 1 = (pre ++ [c]).length by simp, List.drop_left]
  unfold escR
  rw [hg, hd]
  rfl
theorem textR_at {L pre suf : List UInt8} {c : UInt8} (h : L = pre ++ c :: suf) (f : Nat) (acc : List UInt8) : textR L (f + 1) pre.length acc = if c = 34 then some (acc, pre.length + 1) else if c.toNat < 32 then none else if c = 92 then
      match escR L (pre.length + 1) with
      | none => none
      | some (o, a2) => textR L f a2 (acc ++ o)
    else textR L f (pre.length + 1) (acc ++ [c]) := by
  have hg : L[pre.length]? = some c := by rw [h, List.getElem?_append_right (Nat.le_refl _)]; simp
  rw [textR, hg]
  rfl
theorem hexC_d : ∀ n : Nat, n < 16 → hexD (hexC n).toNat = some n := by decide +kernel
theorem hexD_48 : hexD (48 : UInt8).toNat = some 0 := by decide +kernel
/-- A quoted byte is read. -/
theorem quoteB_read {L pre suf : List UInt8} (c : UInt8) (h : L = pre ++ (quoteB c ++ suf)) (f : Nat) (acc : List UInt8) : textR L (f + 1) pre.length acc = textR L f (pre ++ quoteB c).length (acc ++ [c]) := by
  unfold quoteB at h ⊢
  by_cases q1 : c = 34 ∨ c = 92
  · rw [if_pos q1] at h ⊢
    have h1 : L = pre ++ 92 :: (c :: suf) := h
    have h2 : L = (pre ++ [92]) ++ c :: suf := by rw [h1]; simp
    rw [textR_at h1, if_neg (by decide), if_neg (by decide), if_pos rfl, show pre.length + 1 = (pre ++ [92]).length by simp, escR_at h2]
    rcases q1 with rfl | rfl
    · rw [if_pos (by decide)]
      simp [escOut]
      rfl
    · rw [if_pos (by decide)]
      simp [escOut]
      rfl
  · rw [if_neg q1] at h ⊢
    by_cases q2 : c = 10
    · rw [if_pos q2] at h ⊢
      have h1 : L = pre ++ 92 :: (110 :: suf) := h
      have h2 : L = (pre ++ [92]) ++ 110 :: suf := by rw [h1]; simp
      rw [textR_at h1, if_neg (by decide), if_neg (by decide), if_pos rfl, show pre.length + 1 = (pre ++ [92]).length by simp, escR_at h2, if_pos (by decide), q2]
      simp [escOut]
      rfl
    · rw [if_neg q2] at h ⊢
      by_cases q3 : c = 9
      · rw [if_pos q3] at h ⊢
        have h1 : L = pre ++ 92 :: (116 :: suf) := h
        have h2 : L = (pre ++ [92]) ++ 116 :: suf := by rw [h1]; simp
        rw [textR_at h1, if_neg (by decide), if_neg (by decide), if_pos rfl, show pre.length + 1 = (pre ++ [92]).length by simp, escR_at h2, if_pos (by decide), q3]
        simp [escOut]
        rfl
      · rw [if_neg q3] at h ⊢
        by_cases q4 : c.toNat < 32
        · rw [if_pos q4] at h ⊢
          have h1 : L = pre ++ 92 :: (117 :: ([48, 48, hexC (c.toNat / 16), hexC (c.toNat % 16)] ++ suf)) := h
          have h2 : L = (pre ++ [92]) ++ 117 :: ([48, 48, hexC (c.toNat / 16), hexC (c.toNat % 16)] ++ suf) := by rw [h1]; simp
          have hl : L.length = pre.length + 6 + suf.length := by rw [h1]; simp; omega
          have hx : hexN 0 (([48, 48, hexC (c.toNat / 16), hexC (c.toNat % 16)] ++ suf).take 4) = some c.toNat := by
            have e : ([48, 48, hexC (c.toNat / 16), hexC (c.toNat % 16)] ++ suf).take 4 = [48, 48, hexC (c.toNat / 16), hexC (c.toNat % 16)] := rfl
            rw [e]
            simp only [hexN, hexD_48, hexC_d _ (show c.toNat / 16 < 16 by omega), hexC_d _ (show c.toNat % 16 < 16 by omega)]
            congr 1
            omega
          rw [textR_at h1, if_neg (by decide), if_neg (by decide), if_pos rfl, show pre.length + 1 = (pre ++ [92]).length by simp, escR_at h2, if_neg (by decide), if_neg (by rw [List.length_append]; simp; omega), hx]
          have hr : runeB c.toNat = [c] := by
            unfold runeB
            rw [if_pos (by omega)]
            simp
          simp only [if_neg (show ¬ (55296 ≤ c.toNat ∧ c.toNat ≤ 57343) by omega), hr]
          simp
        · rw [if_neg q4] at h ⊢
          have h1 : L = pre ++ c :: suf := h
          rw [textR_at h1, if_neg (fun e => q1 (.inl e)), if_neg q4, if_neg (fun e => q1 (.inr e))]
          simp
theorem quote_read {L suf : List UInt8} : ∀ (t pre : List UInt8) (f : Nat) (acc : List UInt8), L = pre ++ (t.flatMap quoteB ++ 34 :: suf) → t.length < f → textR L f pre.length acc = some (acc ++ t, (pre ++ t.flatMap quoteB).length + 1)
  | [], pre, f, acc, h, hf => by
    obtain ⟨f, rfl⟩ : ∃ m, f = m + 1 := ⟨f - 1, by omega⟩
    have h1 : L = pre ++ 34 :: suf := by rw [h]; rfl
    rw [textR_at h1, if_pos rfl]
    simp
  | c :: t, pre, f, acc, h, hf => by
    obtain ⟨f, rfl⟩ : ∃ m, f = m + 1 := ⟨f - 1, by omega⟩
    have h1 : L = pre ++ (quoteB c ++ (t.flatMap quoteB ++ 34 :: suf)) := by rw [h]; simp
    rw [quoteB_read c h1, quote_read (suf := suf) t (pre ++ quoteB c) f (acc ++ [c]) (by rw [h1]; simp) (by simp at hf; omega)]
    simp
theorem nextR_quote {L pre suf : List UInt8} (t : List UInt8) (h : L = pre ++ (quoteR t ++ suf)) : nextR L pre.length = some (⟨7, t, 0, pre.length⟩, pre.length + (quoteR t).length) := by
  have h0 : L = pre ++ 34 :: (t.flatMap quoteB ++ 34 :: suf) := by rw [h, quoteR]; simp
  have hg : L[pre.length]? = some 34 := by rw [h0, List.getElem?_append_right (Nat.le_refl _)]; simp
  have hlen : t.length ≤ (t.flatMap quoteB).length := by
    clear h h0 hg
    induction t with
    | nil => simp
    | cons c t ih =>
      have hc : 1 ≤ (quoteB c).length := by
        unfold quoteB
        split
        · simp
        · split
          · simp
          · split
            · simp
            · split <;> simp
      simp only [List.flatMap_cons, List.length_append, List.length_cons]
      omega
  have hL : t.length < L.length + 1 := by rw [h0]; simp only [List.length_append, List.length_cons]; omega
  unfold nextR
  rw [hg]
  have hr := quote_read (L := L) (suf := suf) t (pre ++ [34]) (L.length + 1) [] (by rw [h0]; simp) hL
  have hpl : (pre ++ [(34 : UInt8)]).length = pre.length + 1 := by simp
  rw [hpl] at hr
  simp only [hr]
  rw [if_neg (by decide), if_neg (by decide), if_pos trivial]
  simp [quoteR]
  omega
theorem tokensR_quote (t : List UInt8) (h : (quoteR t).length ≤ 65536) : tokensR (quoteR t) = ([⟨7, t, 0, 0⟩], 0, 0) := by
  have hn := nextR_quote (L := quoteR t) (pre := []) (suf := []) t (by simp)
  have hlen : 2 ≤ (quoteR t).length := by simp [quoteR]
  have h0 : (quoteR t)[0]'(by omega) = 34 := rfl
  have hb : ((quoteR t).drop 0).takeWhile isBlank = [] := rfl
  unfold tokensR
  rw [if_neg (by omega)]
  have e1 : toksR (quoteR t) ((quoteR t).length + 1) 0 [] = toksR (quoteR t) (quoteR t).length (quoteR t).length [⟨7, t, 0, 0⟩] := by
    rw [toksR, hb]
    simp only [List.length_nil, Nat.add_zero] at hn ⊢
    rw [if_neg (by omega), hn]
    simp
  obtain ⟨f, hf⟩ : ∃ m, (quoteR t).length = m + 1 := ⟨(quoteR t).length - 1, by omega⟩
  have e2 : toksR (quoteR t) (quoteR t).length (quoteR t).length [⟨7, t, 0, 0⟩] = .inl [⟨7, t, 0, 0⟩] := by
    have hd : ((quoteR t).drop (quoteR t).length).takeWhile isBlank = [] := by rw [List.drop_eq_nil_of_le (Nat.le_refl _)]; rfl
    conv => lhs; arg 2; rw [hf]
    rw [toksR, hd, if_pos (by simp)]
  rw [e1, e2]
/-! ### More rounds, more text behind -/
theorem textR_mono {L : List UInt8} : ∀ {f i : Nat} {acc : List UInt8} {r : List UInt8 × Nat}, textR L f i acc = some r → ∀ g, f ≤ g → textR L g i acc = some r
  | 0, _, _, _, h, _, _ => by cases h
  | f + 1, i, acc, r, h, g, hg => by
    obtain ⟨g, rfl⟩ : ∃ m, g = m + 1 := ⟨g - 1, by omega⟩
    rw [textR] at h ⊢
    split at h
    · cases h
    · rename_i c hc
      split at h
      · rename_i q; rw [if_pos q]; exact h
      · rename_i q1
        rw [if_neg q1]
        split at h
        · cases h
        · rename_i q2
          rw [if_neg q2]
          split at h
          · rename_i q3
            rw [if_pos q3]
            split at h
            · cases h
            · exact textR_mono h g (by omega)
          · rename_i q3
            rw [if_neg q3]
            exact textR_mono h g (by omega)
theorem getElem?_app {L R : List UInt8} {i : Nat} {c : UInt8} (h : L[i]? = some c) : (L ++ R)[i]? = some c := by
  rw [List.getElem?_append_left (List.getElem?_eq_some_iff.1 h).1]
  exact h
theorem drop_app {L R : List UInt8} {i : Nat} (h : i ≤ L.length) : (L ++ R).drop i = L.drop i ++ R := by
  rw [List.drop_append_of_le_length h]
theorem escR_app {L R : List UInt8} {i : Nat} {r : List UInt8 × Nat} (h : escR L i = some r) : escR (L ++ R) i = some r := by
  unfold escR at h ⊢
  split at h
  · cases h
  · rename_i c hc
    rw [getElem?_app hc]
    simp only
    split at h
    · rename_i q; rw [if_pos q]; exact h
    · rename_i q
      rw [if_neg q]
      split at h
      · cases h
      · rename_i q2
        have q3 : ¬ (c ≠ 117 ∨ (L ++ R).length < i + 5) := fun hh => q2 (hh.imp id (fun hl => by rw [List.length_append] at hl; omega))
        have hle : i + 5 ≤ L.length := Nat.le_of_not_lt fun hl => q2 (.inr hl)
        rw [if_neg q3, drop_app (by omega), List.take_append_of_le_length (by rw [List.length_drop]; omega)]
        exact h
theorem textR_app {L R : List UInt8} : ∀ {f i : Nat} {acc : List UInt8} {r : List UInt8 × Nat}, textR L f i acc = some r → textR (L ++ R) f i acc = some r
  | 0, _, _, _, h => by cases h
  | f + 1, i, acc, r, h => by
    rw [textR] at h ⊢
    split at h
    · cases h
    · rename_i c hc
      rw [getElem?_app hc]
      simp only
      split at h
      · rename_i q; rw [if_pos q]; exact h
      · rename_i q1
        rw [if_neg q1]
        split at h
        · cases h
        · rename_i q2
          rw [if_neg q2]
          split at h
          · rename_i q3
            rw [if_pos q3]
            split at h
            · cases h
            · rename_i o a2 he
              rw [escR_app he]
              exact textR_app h
          · rename_i q3
            rw [if_neg q3]
            exact textR_app h
theorem takeWhile_app (p : UInt8 → Bool) (l : List UInt8) (c : UInt8) (r : List UInt8) (h : p c = false) : (l ++ c :: r).takeWhile p = l.takeWhile p := by
  induction l with
  | nil => simp [h]
  | cons a l ih =>
    simp only [List.cons_append, List.takeWhile_cons]
    split
    · rw [ih]
    · rfl
/-- Behind a text a blank may stand, and more. -/
theorem nextR_app {L R : List UInt8} {i : Nat} {r : Tk × Nat} (h : nextR L i = some r) : nextR (L ++ 32 :: R) i = some r := by
  unfold nextR at h ⊢
  split at h
  · cases h
  · rename_i c hc
    have hlt := (List.getElem?_eq_some_iff.1 hc).1
    rw [getElem?_app hc]
    simp only
    split at h
    · rename_i q; rw [if_pos q]; exact h
    · rename_i q1
      rw [if_neg q1]
      split at h
      · rename_i q; rw [if_pos q]; exact h
      · rename_i q2
        rw [if_neg q2]
        split at h
        · rename_i q3
          rw [if_pos q3]
          obtain ⟨x, h1, h2⟩ := Option.map_eq_some_iff.1 h
          rw [textR_mono (textR_app (R := 32 :: R) h1) _ (by rw [List.length_append]; omega)]
          exact congrArg some h2
        · rename_i q3
          rw [if_neg q3]
          split at h
          · rename_i q4
            rw [if_pos q4, drop_app (by omega), takeWhile_app isDigit _ 32 R rfl]
            exact h
          · rename_i q4
            rw [if_neg q4]
            split at h
            · rename_i q5
              rw [if_pos q5, drop_app (by omega), takeWhile_app isDigit _ 32 R rfl]
              exact h
            · rename_i q5
              rw [if_neg q5, drop_app (by omega), takeWhile_app isLow _ 32 R rfl]
              exact h
/-! ### A text behind another -/
/-- A token takes a byte at least. -/
theorem toksR_len' (l : List UInt8) : ∀ (f i : Nat) (acc ts : List Tk), toksR l f i acc = .inl ts → ts.length + i ≤ acc.length + max i l.length
  | 0, _, _, _, h => by cases h
  | f + 1, i, acc, ts, h => by
    rw [toksR] at h
    split at h
    · cases h
      omega
    · split at h
      · cases h
      · rename_i tk a2 hx
        have hst := nextR_step hx
        have := toksR_len' l f _ _ ts h
        rw [List.length_append] at this
        simp only [List.length_cons, List.length_nil] at this
        omega
def sh (n : Nat) (t : Tk) : Tk := ⟨t.kind, t.text, t.num, t.pos + n⟩
theorem getElem?_sh (P t : List UInt8) (i : Nat) : (P ++ t)[P.length + i]? = t[i]? := by
  rw [List.getElem?_append_right (by omega)]
  congr 1
  omega
theorem drop_sh (P t : List UInt8) (i : Nat) : (P ++ t).drop (P.length + i) = t.drop i := by
  rw [List.drop_append, List.drop_eq_nil_of_le (by omega), List.nil_append]
  congr 1
  omega
theorem escR_sh (P t : List UInt8) (i : Nat) : escR (P ++ t) (P.length + i) = (escR t i).map fun x => (x.1, P.length + x.2) := by
  unfold escR
  rw [getElem?_sh]
  cases t[i]? with
  | none => rfl
  | some c =>
    simp only
    by_cases q : 0 ≤ Lib.indexByte escTab c
    · rw [if_pos q, if_pos q]
      rfl
    · rw [if_neg q, if_neg q]
      by_cases q2 : c ≠ 117 ∨ t.length < i + 5
      · rw [if_pos q2, if_pos (q2.imp id (fun h => by rw [List.length_append]; omega))]
        rfl
      · rw [if_neg q2, if_neg (fun h => q2 (h.imp id (fun h => by rw [List.length_append] at h; omega))), show P.length + i + 1 = P.length + (i + 1) by omega, drop_sh]
        cases hexN 0 ((t.drop (i + 1)).take 4) with
        | none => rfl
        | some n =>
          simp only
          split
          · rfl
          · rfl
theorem textR_sh (P t : List UInt8) : ∀ (f i : Nat) (acc : List UInt8), textR (P ++ t) f (P.length + i) acc = (textR t f i acc).map fun x => (x.1, P.length + x.2)
  | 0, _, _ => rfl
  | f + 1, i, acc => by
    rw [textR, textR, getElem?_sh]
    cases t[i]? with
    | none => rfl
    | some c =>
      simp only
      by_cases q1 : c = 34
      · rw [if_pos q1, if_pos q1]; rfl
      · rw [if_neg q1, if_neg q1]
        by_cases q2 : c.toNat < 32
        · rw [if_pos q2, if_pos q2]; rfl
        · rw [if_neg q2, if_neg q2]
          by_cases q3 : c = 92
          · rw [if_pos q3, if_pos q3, show P.length + i + 1 = P.length + (i + 1) by omega, escR_sh]
            cases escR t (i + 1) with
            | none => rfl
            | some x => exact textR_sh P t f x.2 (acc ++ x.1)
          · rw [if_neg q3, if_neg q3]
            exact textR_sh P t f (i + 1) (acc ++ [c])
theorem nextR_sh (P t : List UInt8) (i : Nat) (r : Tk × Nat) (h : nextR t i = some r) : nextR (P ++ t) (P.length + i) = some (sh P.length r.1, P.length + r.2) := by
  unfold nextR at h ⊢
  rw [getElem?_sh]
  cases hc : t[i]? with
  | none => rw [hc] at h; cases h
  | some c =>
    rw [hc] at h
    simp only at h ⊢
    have e1 : P.length + i + 1 = P.length + (i + 1) := by omega
    split at h
    · rename_i q
      rw [if_pos q]
      cases h
      simp [sh]
      omega
    · rename_i q1
      rw [if_neg q1]
      split at h
      · rename_i q
        rw [if_pos q]
        cases h
        simp [sh]
        omega
      · rename_i q2
        rw [if_neg q2]
        split at h
        · rename_i q3
          rw [if_pos q3]
          obtain ⟨x, h1, h2⟩ := Option.map_eq_some_iff.1 h
          have h3 := textR_mono h1 ((P ++ t).length + 1) (by rw [List.length_append]; omega)
          rw [e1, textR_sh, h3]
          rw [← h2]
          simp [sh]
          omega
        · rename_i q3
          rw [if_neg q3]
          split at h
          · rename_i q4
            rw [if_pos q4, e1, drop_sh]
            obtain ⟨x, h1, h2⟩ := Option.map_eq_some_iff.1 h
            rw [h1, ← h2]
            simp [sh]
            omega
          · rename_i q4
            rw [if_neg q4]
            split at h
            · rename_i q5
              rw [if_pos q5, drop_sh]
              obtain ⟨x, h1, h2⟩ := Option.map_eq_some_iff.1 h
              rw [h1, ← h2]
              simp [sh]
              omega
            · rename_i q5
              rw [if_neg q5, drop_sh]
              split at h
              · rename_i q6
                rw [if_pos q6]
                cases h
                simp [sh]
                omega
              · cases h
theorem toksR_sh (P t : List UInt8) : ∀ (f i : Nat) (acc ts : List Tk), toksR t f i acc = .inl ts → ∃ ns, ts = acc ++ ns ∧ ∀ g, f ≤ g → ∀ acc2, toksR (P ++ t) g (P.length + i) acc2 = .inl (acc2 ++ ns.map (sh P.length))
  | 0, _, _, _, h => by cases h
  | f + 1, i, acc, ts, h => by
    rw [toksR] at h
    split at h
    · rename_i q
      cases h
      refine ⟨[], by simp, fun g hg acc2 => ?_⟩
      obtain ⟨g, rfl⟩ : ∃ m, g = m + 1 := ⟨g - 1, by omega⟩
      rw [toksR, drop_sh, if_pos (by rw [List.length_append]; omega)]
      simp
    · rename_i q
      split at h
      · cases h
      · rename_i tk a2 hx
        obtain ⟨ns, h1, h2⟩ := toksR_sh P t f a2 (acc ++ [tk]) ts h
        refine ⟨tk :: ns, by rw [h1]; simp, fun g hg acc2 => ?_⟩
        obtain ⟨g, rfl⟩ : ∃ m, g = m + 1 := ⟨g - 1, by omega⟩
        have hn := nextR_sh P t _ _ hx
        rw [toksR, drop_sh, if_neg (by rw [List.length_append]; omega), show P.length + i + ((t.drop i).takeWhile isBlank).length = P.length + (i + ((t.drop i).takeWhile isBlank).length) by omega, hn]
        simp only
        rw [h2 g (by omega)]
        simp
theorem takeWhile_all (p : UInt8 → Bool) (l : List UInt8) (r : List UInt8) (h : (l.takeWhile p).length = l.length) : (l ++ r).takeWhile p = l ++ r.takeWhile p := by
  induction l with
  | nil => rfl
  | cons a l ih =>
    rw [List.takeWhile_cons] at h
    split at h
    · rename_i q
      rw [List.cons_append, List.takeWhile_cons, if_pos q, ih (by simpa using h)]
      rfl
    · simp at h
theorem takeWhile_part (p : UInt8 → Bool) (l : List UInt8) (r : List UInt8) (h : (l.takeWhile p).length ≠ l.length) : (l ++ r).takeWhile p = l.takeWhile p := by
  induction l with
  | nil => exact absurd rfl h
  | cons a l ih =>
    rw [List.takeWhile_cons] at h
    rw [List.cons_append, List.takeWhile_cons, List.takeWhile_cons]
    split
    · rename_i q
      rw [if_pos q] at h
      rw [ih (by simpa using h)]
    · rfl
theorem toksR_app (L R : List UInt8) : ∀ (f i : Nat) (acc ts : List Tk), toksR L f i acc = .inl ts → i ≤ L.length → ∀ g, f ≤ g → ∃ g', g ≤ g' + (ts.length - acc.length) ∧ acc.length ≤ ts.length ∧ 1 ≤ g' ∧ toksR (L ++ 32 :: R) g i acc = toksR (L ++ 32 :: R) g' (L.length + 1) ts
  | 0, _, _, _, h, _, _, _ => by cases h
  | f + 1, i, acc, ts, h, hi, g, hg => by
    obtain ⟨g, rfl⟩ : ∃ m, g = m + 1 := ⟨g - 1, by omega⟩
    rw [toksR] at h
    have hdl : (L.drop i).length = L.length - i := List.length_drop
    split at h
    · rename_i q
      cases h
      refine ⟨g + 1, by omega, Nat.le_refl _, by omega, ?_⟩
      have e : ((L ++ 32 :: R).drop i).takeWhile isBlank = L.drop i ++ (32 :: R.takeWhile isBlank) := by
        rw [drop_app hi, takeWhile_all isBlank _ _ (by omega)]
        rfl
      have e2 : ((L ++ 32 :: R).drop (L.length + 1)).takeWhile isBlank = R.takeWhile isBlank := by
        rw [show L ++ 32 :: R = (L ++ [32]) ++ R by simp, show L.length + 1 = (L ++ [32]).length + 0 by simp, drop_sh]
        rfl
      have e3 : i + (L.drop i ++ (32 :: R.takeWhile isBlank)).length = L.length + 1 + (R.takeWhile isBlank).length := by
        simp only [List.length_append, List.length_cons, hdl]
        omega
      rw [toksR, toksR, e, e2, e3]
    · rename_i q
      split at h
      · cases h
      · rename_i tk a2 hx
        have hst := nextR_step hx
        obtain ⟨g', h1, h2, h3, h4⟩ := toksR_app L R f a2 (acc ++ [tk]) ts h hst.2 g (by omega)
        rw [List.length_append] at h1 h2
        simp only [List.length_cons, List.length_nil] at h1 h2
        refine ⟨g', by omega, by omega, h3, ?_⟩
        have hn := nextR_app (R := R) hx
        have e : ((L ++ 32 :: R).drop i).takeWhile isBlank = (L.drop i).takeWhile isBlank := by
          rw [drop_app hi, takeWhile_part isBlank _ _ (by omega)]
        rw [toksR, e, if_neg (by rw [List.length_append]; simp only [List.length_cons]; omega), hn]
        exact h4
/-- Two texts with a blank between have the tokens of both. -/
theorem tokensR_beside (s t : List UInt8) (a b : List Tk) (ha : tokensR s = (a, 0, 0)) (hb : tokensR t = (b, 0, 0)) (hl : s.length + t.length + 1 ≤ 65536) : tokensR (s ++ 32 :: t) = (a ++ b.map (sh (s.length + 1)), 0, 0) := by
  have inl : ∀ (l : List UInt8) (x : List Tk), tokensR l = (x, 0, 0) → l.length ≤ 65536 → toksR l (l.length + 1) 0 [] = .inl x := by
    intro l x h hl
    unfold tokensR at h
    rw [if_neg (by omega)] at h
    cases hx : toksR l (l.length + 1) 0 [] with
    | inl y =>
      rw [hx] at h
      simp only [Prod.mk.injEq, and_true] at h
      rw [h]
    | inr y =>
      rw [hx] at h
      simp at h
  have h1 := inl s a ha (by omega)
  have h2 := inl t b hb (by omega)
  have hal := toksR_len' s _ _ _ _ h1
  obtain ⟨g', k1, k2, k3, k4⟩ := toksR_app s t _ _ _ _ h1 (Nat.zero_le _) ((s ++ 32 :: t).length + 1) (by rw [List.length_append]; omega)
  obtain ⟨ns, n1, n2⟩ := toksR_sh (s ++ [32]) t _ _ _ _ h2
  have n1' : b = ns := by simpa using n1
  subst n1'
  have hpl : (s ++ [(32 : UInt8)]).length = s.length + 1 := by simp
  have hg : t.length + 1 ≤ g' := by
    rw [List.length_append] at k1
    simp only [List.length_cons, List.length_nil] at k1 hal
    omega
  have n3 := n2 g' hg a
  rw [hpl, Nat.add_zero, show (s ++ [32]) ++ t = s ++ 32 :: t by simp] at n3
  unfold tokensR
  rw [if_neg (by rw [List.length_append]; simp only [List.length_cons]; omega), k4, n3]
theorem nextR_pos {l : List UInt8} {i : Nat} {t : Tk} {a2 : Nat} (h : nextR l i = some (t, a2)) : t.pos = i := by
  unfold nextR at h
  split at h
  · cases h
  · split at h
    · cases h; rfl
    · split at h
      · cases h; rfl
      · split at h
        · obtain ⟨x, _, h2⟩ := Option.map_eq_some_iff.1 h
          cases h2; rfl
        · split at h
          · obtain ⟨x, _, h2⟩ := Option.map_eq_some_iff.1 h
            cases h2; rfl
          · split at h
            · obtain ⟨x, _, h2⟩ := Option.map_eq_some_iff.1 h
              cases h2; rfl
            · split at h
              · cases h; rfl
              · cases h
theorem toksR_pos (l : List UInt8) : ∀ (f i : Nat) (acc ts : List Tk), toksR l f i acc = .inl ts → (∀ x ∈ acc, x.pos ≤ l.length) → ∀ x ∈ ts, x.pos ≤ l.length
  | 0, _, _, _, h => by cases h
  | f + 1, i, acc, ts, h => fun ha => by
    rw [toksR] at h
    split at h
    · cases h
      exact ha
    · split at h
      · cases h
      · rename_i tk a2 hx
        have hst := nextR_step hx
        have hp := nextR_pos hx
        refine toksR_pos l f _ _ ts h fun x hx => ?_
        rcases List.mem_append.1 hx with hx | hx
        · exact ha x hx
        · simp only [List.mem_cons, List.not_mem_nil, or_false] at hx
          subst hx
          omega
theorem tokensR_pos (l : List UInt8) : ∀ x ∈ (tokensR l).1, x.pos ≤ 65536 := by
  unfold tokensR
  split
  · simp
  · split
    · rename_i ts h
      intro x hx
      have := toksR_pos l _ _ _ _ h (by simp) x hx
      omega
    · simp
end Go.Proofs.YtohlbnbfpcbpdaaDoor.Lx
