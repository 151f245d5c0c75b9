/- lex: what is joined is read again, in plain Lean; bare: the walk. -/
import Derived.Test.YtidkjiglmfhjpaaDoorLxR
import Derived.Test.YtidkjiglmfhjpaaDoorPSx0
import Derived.Test.YtidkjiglmfhjpaaDoorLexPrn
set_option linter.unusedVariables false
set_option linter.unusedSimpArgs false
namespace Go.Proofs.YtidkjiglmfhjpaaDoor.Lx
open Go

theorem nextR_at {L pre suf : List UInt8} {c : UInt8} (h : L = pre ++ c :: suf) : nextR L pre.length = if 0 ≤ Lib.indexByte singles c then some (⟨(Lib.indexByte singles c).toNat + 1, [], 0, pre.length⟩, pre.length + 1)
    else if c = 10 then some (⟨10, [], 0, pre.length⟩, pre.length + 1)
    else if c = 34 then (textR L (L.length + 1) (pre.length + 1) []).map fun x => (⟨7, x.1, 0, pre.length⟩, x.2)
    else if c = 45 then (numR true (suf.takeWhile isDigit)).map fun v => (⟨8, [], v, pre.length⟩, pre.length + 1 + (suf.takeWhile isDigit).length)
    else if isDigit c = true then (numR false ((c :: suf).takeWhile isDigit)).map fun v => (⟨8, [], v, pre.length⟩, pre.length + ((c :: suf).takeWhile isDigit).length)
    else if isWord ((c :: suf).takeWhile isLow) = true then some (⟨9, (c :: suf).takeWhile isLow, 0, pre.length⟩, pre.length + ((c :: suf).takeWhile isLow).length) else none := by
  have hg : L[pre.length]? = some c := by rw [h, List.getElem?_append_right (Nat.le_refl _)]; simp
  have hd0 : L.drop pre.length = c :: suf := by rw [h, List.drop_left]
  have hd : L.drop (pre.length + 1) = suf := by
    rw [h, show pre ++ c :: suf = (pre ++ [c]) ++ suf by simp, show pre.length + 1 = (pre ++ [c]).length by simp, List.drop_left]
  unfold nextR
  rw [hg, hd, hd0]
theorem takeWhile_end (p : UInt8 → Bool) (w suf : List UInt8) (hw : ∀ c ∈ w, p c = true) (hs : ∀ c r, suf = c :: r → p c = false) : (w ++ suf).takeWhile p = w := by
  induction w with
  | nil => cases suf with
    | nil => rfl
    | cons c r => simp [hs c r rfl]
  | cons a w ih => simp [hw a (by simp), ih (fun c hc => hw c (by simp [hc]))]
theorem dig_not' : ∀ n : Nat, n < 256 → isDigit (UInt8.ofNat n) = true → ¬ 0 ≤ Lib.indexByte singles (UInt8.ofNat n) ∧ UInt8.ofNat n ≠ 10 ∧ UInt8.ofNat n ≠ 34 ∧ UInt8.ofNat n ≠ 45 ∧ isBlank (UInt8.ofNat n) = false := by decide +kernel
theorem dig_not (c : UInt8) (h : isDigit c = true) : ¬ 0 ≤ Lib.indexByte singles c ∧ c ≠ 10 ∧ c ≠ 34 ∧ c ≠ 45 ∧ isBlank c = false := by
  have := dig_not' c.toNat (UInt8.toNat_lt c)
  rw [UInt8.ofNat_toNat] at this
  exact this h
/-- What may stand behind a token's text. -/
def sufOk (k : Int) (suf : List UInt8) : Prop := wordy k = true → ∀ c r, suf = c :: r → isDigit c = false ∧ isLow c = false
def tokOf (k : Int) (t : List UInt8) (n : Int) (pos : Nat) : Tk := ⟨k.toNat, if k = 7 ∨ k = 9 then t else [], if k = 8 then n else 0, pos⟩
theorem isWord_cases {t : List UInt8} (h : isWord t = true) : t = wTrue ∨ t = wFalse ∨ t = wNull := by
  unfold isWord at h
  simp only [Bool.or_eq_true, beq_iff_eq] at h
  rcases h with (h | h) | h
  · exact .inl h
  · exact .inr (.inl h)
  · exact .inr (.inr h)
/-- A token's text is read as the token. -/
theorem nextR_written {L pre suf w : List UInt8} {k : Int} {t : List UInt8} {n : Int} (hn : -9223372036854775808 ≤ n ∧ n ≤ 9223372036854775807) (h : writtenR k t n = some w) (hL : L = pre ++ (w ++ suf)) (hs : sufOk k suf) :
    nextR L pre.length = some (tokOf k t n pre.length, pre.length + w.length) := by
  unfold writtenR at h
  split at h
  · rename_i q
    cases h
    have hk : k = 1 ∨ k = 2 ∨ k = 3 ∨ k = 4 ∨ k = 5 ∨ k = 6 := by omega
    rcases hk with rfl | rfl | rfl | rfl | rfl | rfl <;> (rw [nextR_at (c := _) (suf := suf) hL, if_pos (by decide)]; rfl)
  · split at h
    · rename_i q
      subst q
      cases h
      rw [nextR_at (c := 10) (suf := suf) hL, if_neg (by decide), if_pos rfl]
      rfl
    · split at h
      · rename_i q
        subst q
        cases h
        exact nextR_quote t hL
      · split at h
        · rename_i q
          subst q
          cases h
          have hsf : ∀ c r, suf = c :: r → isDigit c = false := fun c r h => (hs (by rfl) c r h).1
          unfold Lib.itoa at hL ⊢
          by_cases hneg : n < 0
          · rw [if_pos hneg] at hL ⊢
            obtain ⟨f1, f2, f3, f4⟩ := decDigits_facts n.natAbs
            have hL' : L = pre ++ 45 :: (Lib.decDigits n.natAbs ++ suf) := hL
            rw [nextR_at hL', if_neg (by decide), if_neg (by decide), if_neg (by decide), if_pos rfl, takeWhile_end isDigit _ _ f2 hsf, numR_eq true _ f2, f1]
            rw [if_neg, if_pos rfl, if_pos (by omega)]
            · simp only [Option.map_some, tokOf, List.length_cons]
              have : -(n.natAbs : Int) = n := by omega
              rw [this]
              simp
              omega
            · rintro (hh | hh)
              · exact f3 hh
              · cases hd : Lib.decDigits n.natAbs with
                | nil => exact f3 hd
                | cons d r =>
                  rw [hd] at hh f4
                  have := ((badNum_iff true d r).1 hh).1
                  have := f4 (by rw [this]; rfl)
                  omega
          · rw [if_neg hneg] at hL ⊢
            obtain ⟨f1, f2, f3, f4⟩ := decDigits_facts n.toNat
            have hL1 := decDigits_len1 (u := n.toNat)
            generalize hds : Lib.decDigits n.toNat = ds at hL f1 f2 f3 f4 hL1 ⊢
            cases ds with
            | nil => exact absurd rfl f3
            | cons d r =>
              have hL' : L = pre ++ d :: (r ++ suf) := hL
              obtain ⟨g1, g2, g3, g4, _⟩ := dig_not d (f2 d (by simp))
              rw [nextR_at hL', if_neg g1, if_neg g2, if_neg g3, if_neg g4, if_pos (f2 d (by simp)), show d :: (r ++ suf) = (d :: r) ++ suf from rfl, takeWhile_end isDigit _ _ f2 hsf, numR_eq false _ f2, f1]
              rw [if_neg, if_neg (by decide), if_pos (by omega)]
              · simp only [Option.map_some, tokOf]
                have : (n.toNat : Int) = n := by omega
                rw [this]
                simp
              · rintro (hh | hh)
                · cases hh
                · obtain ⟨e1, e2⟩ := (badNum_iff false d r).1 hh
                  have := hL1 (by rw [e1]; rfl)
                  injection this with _ hr
                  rcases e2 with e2 | e2
                  · exact e2 hr
                  · cases e2
        · split at h
          · rename_i q
            obtain ⟨rfl, hw⟩ := q
            cases h
            have hsf : ∀ c r, suf = c :: r → isLow c = false := fun c r h => (hs (by rfl) c r h).2
            have KEY : ∀ (c : UInt8) (r : List UInt8), w = c :: r → ¬ 0 ≤ Lib.indexByte singles c → c ≠ 10 → c ≠ 34 → c ≠ 45 → ¬ isDigit c = true → (∀ x ∈ c :: r, isLow x = true) → nextR L pre.length = some (tokOf 9 w n pre.length, pre.length + w.length) := by
              rintro c r rfl g1 g2 g3 g4 g5 hall
              have hL' : L = pre ++ c :: (r ++ suf) := hL
              rw [nextR_at hL', if_neg g1, if_neg g2, if_neg g3, if_neg g4, if_neg g5, show c :: (r ++ suf) = (c :: r) ++ suf from rfl, takeWhile_end isLow _ _ hall hsf, if_pos hw]
              rfl
            rcases isWord_cases hw with e | e | e
            · exact KEY 116 [114, 117, 101] e (by decide) (by decide) (by decide) (by decide) (by decide) (by decide)
            · exact KEY 102 [97, 108, 115, 101] e (by decide) (by decide) (by decide) (by decide) (by decide) (by decide)
            · exact KEY 110 [117, 108, 108] e (by decide) (by decide) (by decide) (by decide) (by decide) (by decide)
          · cases h
/-- How a token's text begins. -/
theorem written_head {k : Int} {t : List UInt8} {n : Int} {w : List UInt8} (h : writtenR k t n = some w) : ∃ c r, w = c :: r ∧ isBlank c = false ∧ (wordy k = false → isDigit c = false ∧ isLow c = false) := by
  unfold writtenR at h
  split at h
  · rename_i q
    cases h
    have hk : k = 1 ∨ k = 2 ∨ k = 3 ∨ k = 4 ∨ k = 5 ∨ k = 6 := by omega
    rcases hk with rfl | rfl | rfl | rfl | rfl | rfl <;> exact ⟨_, _, rfl, by decide, fun _ => by decide⟩
  · split at h
    · cases h
      exact ⟨_, _, rfl, by decide, fun _ => by decide⟩
    · split at h
      · cases h
        exact ⟨_, _, rfl, by decide, fun _ => by decide⟩
      · split at h
        · rename_i q
          subst q
          cases h
          unfold Lib.itoa
          by_cases hneg : n < 0
          · rw [if_pos hneg]
            exact ⟨_, _, rfl, by decide, fun h => by cases h⟩
          · rw [if_neg hneg]
            obtain ⟨f1, f2, f3, f4⟩ := decDigits_facts n.toNat
            cases hds : Lib.decDigits n.toNat with
            | nil => exact absurd hds f3
            | cons d r =>
              rw [hds] at f2
              exact ⟨d, r, rfl, (dig_not d (f2 d (by simp))).2.2.2.2, fun h => by cases h⟩
        · split at h
          · rename_i q
            obtain ⟨rfl, hw⟩ := q
            cases h
            rcases isWord_cases hw with rfl | rfl | rfl <;> exact ⟨_, _, rfl, by decide, fun h => by cases h⟩
          · cases h
theorem joinF_head : ∀ (l : List JT) (o : List UInt8), joinF true l = some o → ∀ c r, o = c :: r → isDigit c = false ∧ isLow c = false
  | [], o, h, c, r, e => by cases h; cases e
  | x :: l, o, h, c, r, e => by
    rw [joinF] at h
    cases hw : writtenR x.k x.t x.n with
    | none => rw [hw] at h; cases h
    | some s =>
      rw [hw] at h
      simp only at h
      obtain ⟨o1, h1, rfl⟩ := Option.map_eq_some_iff.1 h
      cases hx : wordy x.k with
      | true =>
        rw [hx] at e
        have e' : (32 : UInt8) :: (s ++ o1) = c :: r := by simpa using e
        injection e' with e1 _
        subst e1
        decide
      | false =>
        rw [hx] at e
        have e' : s ++ o1 = c :: r := by simpa using e
        obtain ⟨c', r', rfl, _, h3⟩ := written_head hw
        injection e' with e1 _
        subst e1
        exact h3 hx
def bareT (t : Tk) : Nat × List UInt8 × Int := (t.kind, t.text, t.num)
def bareJ (x : JT) : Nat × List UInt8 × Int := (x.k.toNat, if x.k = 7 ∨ x.k = 9 then x.t else [], if x.k = 8 then x.n else 0)
def JT.nok (x : JT) : Prop := -9223372036854775808 ≤ x.n ∧ x.n ≤ 9223372036854775807
/-- What is joined is read again. -/
theorem toks_join {L : List UInt8} : ∀ (l : List JT) (pw : Bool) (pre o : List UInt8) (acc : List Tk) (f : Nat), (∀ x ∈ l, x.nok) → joinF pw l = some o → L = pre ++ o → l.length < f →
    ∃ ts, toksR L f pre.length acc = .inl (acc ++ ts) ∧ ts.map bareT = l.map bareJ
  | [], pw, pre, o, acc, f, _, h, hL, hf => by
    obtain ⟨f, rfl⟩ : ∃ m, f = m + 1 := ⟨f - 1, by omega⟩
    cases h
    refine ⟨[], ?_, rfl⟩
    have hl : L.length = pre.length := by rw [hL]; simp
    rw [toksR, List.drop_eq_nil_of_le (by omega)]
    rw [if_pos (by simp [hl])]
    simp
  | x :: l, pw, pre, o, acc, f, hn, h, hL, hf => by
    obtain ⟨f, rfl⟩ : ∃ m, f = m + 1 := ⟨f - 1, by omega⟩
    rw [joinF] at h
    cases hw : writtenR x.k x.t x.n with
    | none => rw [hw] at h; cases h
    | some s =>
      rw [hw] at h
      simp only at h
      obtain ⟨o1, h1, rfl⟩ := Option.map_eq_some_iff.1 h
      generalize hsep : (if pw && wordy x.k then [32] else ([] : List UInt8)) = sep at hL h
      have hsb : ∀ c ∈ sep, isBlank c = true := by
        intro c hc
        rw [← hsep] at hc
        split at hc
        · simp at hc; subst hc; decide
        · cases hc
      obtain ⟨c0, r0, hs0, hb0, _⟩ := written_head hw
      have hd : L.drop pre.length = sep ++ (s ++ o1) := by rw [hL, List.drop_left]; simp
      have htw : (L.drop pre.length).takeWhile isBlank = sep := by
        rw [hd]
        exact takeWhile_end isBlank _ _ hsb (fun c r e => by rw [hs0] at e; injection e with e _; rw [← e]; exact hb0)
      have hL1 : L = (pre ++ sep) ++ (s ++ o1) := by rw [hL]; simp
      have hlen : L.length = pre.length + sep.length + s.length + o1.length := by rw [hL]; simp only [List.length_append]; omega
      have hsl : s.length = r0.length + 1 := by rw [hs0]; rfl
      have hnx := nextR_written (hn x (by simp)) hw hL1 (fun hwd c r e => by
        rw [hwd] at h1
        exact joinF_head l o1 h1 c r e)
      have hpl : pre.length + sep.length = (pre ++ sep).length := by simp
      obtain ⟨ts, ht, hb⟩ := toks_join (L := L) l (wordy x.k) (pre ++ sep ++ s) o1 (acc ++ [tokOf x.k x.t x.n (pre ++ sep).length]) f (fun y hy => hn y (by simp [hy])) h1 (by rw [hL1]; simp) (by simp at hf; omega)
      refine ⟨tokOf x.k x.t x.n (pre ++ sep).length :: ts, ?_, ?_⟩
      · rw [toksR, htw, if_neg (by omega), hpl, hnx]
        simp only
        rw [show (pre ++ sep).length + s.length = (pre ++ sep ++ s).length by simp only [List.length_append], ht]
        simp
      · rw [List.map_cons, List.map_cons, hb]
        rfl
theorem joinF_len : ∀ (l : List JT) (pw : Bool) (o : List UInt8), joinF pw l = some o → l.length ≤ o.length
  | [], _, _, _ => by simp
  | x :: l, pw, o, h => by
    rw [joinF] at h
    cases hw : writtenR x.k x.t x.n with
    | none => rw [hw] at h; cases h
    | some s =>
      rw [hw] at h
      simp only at h
      obtain ⟨o1, h1, rfl⟩ := Option.map_eq_some_iff.1 h
      have := joinF_len l _ o1 h1
      obtain ⟨c0, r0, hs0, _, _⟩ := written_head hw
      rw [hs0]
      simp only [List.length_append, List.length_cons]
      omega
theorem tokensR_join (l : List JT) (o : List UInt8) (hn : ∀ x ∈ l, x.nok) (h : joinF false l = some o) (hl : o.length ≤ 65536) : ∃ ts, tokensR o = (ts, 0, 0) ∧ ts.map bareT = l.map bareJ := by
  have hll := joinF_len l _ o h
  obtain ⟨ts, ht, hb⟩ := toks_join (L := o) l false [] o [] (o.length + 1) hn h (by simp) (by omega)
  refine ⟨ts, ?_, hb⟩
  unfold tokensR
  rw [if_neg (by omega)]
  have ht' : toksR o (o.length + 1) 0 [] = .inl ([] ++ ts) := ht
  rw [ht']
  rfl
theorem joinF_mem : ∀ (l : List JT) (pw : Bool) (o : List UInt8), joinF pw l = some o → ∀ x ∈ l, (writtenR x.k x.t x.n).isSome = true
  | [], _, _, _ => by simp
  | x :: l, pw, o, h => by
    rw [joinF] at h
    cases hw : writtenR x.k x.t x.n with
    | none => rw [hw] at h; cases h
    | some s =>
      rw [hw] at h
      simp only at h
      obtain ⟨o1, h1, rfl⟩ := Option.map_eq_some_iff.1 h
      intro y hy
      rcases List.mem_cons.1 hy with rfl | hy
      · rw [hw]; rfl
      · exact joinF_mem l _ o1 h1 y hy
theorem written_pos {k : Int} {t : List UInt8} {n : Int} (h : (writtenR k t n).isSome = true) : 1 ≤ k := by
  unfold writtenR at h
  (repeat' split at h) <;> first | omega | cases h
theorem tokensR_bad {l : List UInt8} {ts : List Tk} {c p : Nat} (h : tokensR l = (ts, c, p)) (hc : c ≠ 0) : ts = [] := by
  unfold tokensR at h
  split at h
  · cases h; rfl
  · split at h
    · cases h; exact absurd rfl hc
    · cases h; rfl
/-! ### A token that was read has a text -/
def tkJ (t : Tk) : JT := ⟨t.kind, t.text, t.num, t.pos⟩
theorem singles_at (c : UInt8) (h : 0 ≤ Lib.indexByte singles c) : (Lib.indexByte singles c).toNat + 1 ≤ 6 := by
  have key : ∀ n : Nat, n < 256 → 0 ≤ Lib.indexByte singles (UInt8.ofNat n) → (Lib.indexByte singles (UInt8.ofNat n)).toNat + 1 ≤ 6 := by decide +kernel
  have := key c.toNat (UInt8.toNat_lt c)
  rw [UInt8.ofNat_toNat] at this
  exact this h
theorem runeB_len (n : Nat) : (runeB n).length ≤ 3 := by
  unfold runeB
  split
  · simp
  · split <;> simp
theorem escR_len {l : List UInt8} {a : Nat} {o : List UInt8} {a2 : Nat} (h : escR l a = some (o, a2)) : o.length ≤ 3 := by
  unfold escR at h
  split at h
  · cases h
  · split at h
    · cases h; simp
    · split at h
      · cases h
      · split at h
        · cases h
        · split at h
          · cases h
          · cases h
            exact runeB_len _
theorem textR_len {l : List UInt8} : ∀ {f a : Nat} {acc o : List UInt8} {a2 : Nat}, textR l f a acc = some (o, a2) → o.length ≤ acc.length + 3 * f
  | 0, _, _, _, _, h => by cases h
  | f + 1, a, acc, o, a2, h => by
    rw [textR] at h
    split at h
    · cases h
    · split at h
      · cases h; omega
      · split at h
        · cases h
        · split at h
          · split at h
            · cases h
            · rename_i o1 a3 he
              have := textR_len h
              have := escR_len he
              rw [List.length_append] at *
              omega
          · have := textR_len h
            rw [List.length_append] at this
            simp at this
            omega
/-- What a token that was read is like. -/
def TkOk (L : Nat) (t : Tk) : Prop := (writtenR t.kind t.text t.num).isSome = true ∧ (-9223372036854775808 ≤ t.num ∧ t.num ≤ 9223372036854775807) ∧ bareJ (tkJ t) = bareT t ∧ t.kind ≤ 10 ∧ t.text.length ≤ 3 * (L + 1)
theorem numR_range {neg : Bool} {ds : List UInt8} {v : Int} (hd : ∀ c ∈ ds, isDigit c = true) (h : numR neg ds = some v) : -9223372036854775808 ≤ v ∧ v ≤ 9223372036854775807 := by
  rw [numR_eq neg ds hd] at h
  (repeat' split at h) <;> first | (cases h; omega) | cases h
theorem takeWhile_mem (p : UInt8 → Bool) (l : List UInt8) : ∀ c ∈ l.takeWhile p, p c = true := by
  intro c hc
  induction l with
  | nil => cases hc
  | cons a l ih =>
    rw [List.takeWhile_cons] at hc
    split at hc
    · rcases List.mem_cons.1 hc with rfl | hc
      · assumption
      · exact ih hc
    · cases hc
theorem nextR_ok {l : List UInt8} {a : Nat} {t : Tk} {a2 : Nat} (h : nextR l a = some (t, a2)) : TkOk l.length t ∧ t.pos = a := by
  unfold nextR at h
  split at h
  · cases h
  · rename_i c hc
    split at h
    · rename_i q
      cases h
      have := singles_at c q
      have hk : (1 : Int) ≤ (((Lib.indexByte singles c).toNat + 1 : Nat) : Int) ∧ (((Lib.indexByte singles c).toNat + 1 : Nat) : Int) ≤ 6 := by omega
      refine ⟨⟨?_, by simp, ?_, by simp only; omega, by simp⟩, rfl⟩
      · show (writtenR (((Lib.indexByte singles c).toNat + 1 : Nat) : Int) _ _).isSome = true
        unfold writtenR
        rw [if_pos hk]
        rfl
      · unfold bareJ bareT tkJ
        simp only [Int.toNat_natCast, ite_self]
    · split at h
      · cases h
        exact ⟨⟨by rfl, by simp, by rfl, by simp, by simp⟩, rfl⟩
      · split at h
        · obtain ⟨x, h1, h2⟩ := Option.map_eq_some_iff.1 h
          cases h2
          have := textR_len (a2 := x.2) h1
          simp at this
          refine ⟨⟨by rfl, by simp, by rfl, by simp, by simpa using this⟩, rfl⟩
        · split at h
          · obtain ⟨v, h1, h2⟩ := Option.map_eq_some_iff.1 h
            cases h2
            exact ⟨⟨by rfl, numR_range (takeWhile_mem _ _) h1, by rfl, by simp, by simp⟩, rfl⟩
          · split at h
            · obtain ⟨v, h1, h2⟩ := Option.map_eq_some_iff.1 h
              cases h2
              exact ⟨⟨by rfl, numR_range (takeWhile_mem _ _) h1, by rfl, by simp, by simp⟩, rfl⟩
            · split at h
              · rename_i q
                cases h
                have hw : ∀ t : List UInt8, isWord t = true → (writtenR 9 t 0).isSome = true ∧ t.length ≤ 5 := fun t ht => by
                  unfold writtenR
                  rw [if_neg (by decide), if_neg (by decide), if_neg (by decide), if_neg (by decide), if_pos ⟨rfl, ht⟩]
                  refine ⟨rfl, ?_⟩
                  rcases isWord_cases ht with rfl | rfl | rfl <;> decide
                obtain ⟨w1, w2⟩ := hw _ q
                by_cases hz : 1 ≤ l.length
                · exact ⟨⟨w1, by simp, by rfl, by simp, by simp only; omega⟩, rfl⟩
                · have := (List.getElem?_eq_some_iff.1 hc).1
                  omega
              · cases h
/-- The places rise. -/
def rising : List Tk → Prop
  | [] => True
  | [_] => True
  | x :: y :: r => x.pos < y.pos ∧ rising (y :: r)
theorem toksR_ok (l : List UInt8) : ∀ (f i : Nat) (acc ts : List Tk), toksR l f i acc = .inl ts → ∃ rs, ts = acc ++ rs ∧ (∀ x ∈ rs, TkOk l.length x ∧ i ≤ x.pos ∧ x.pos < l.length) ∧ (∀ j (h : j + 1 < rs.length), rs[j].pos < rs[j + 1].pos)
  | 0, _, _, _, h => by cases h
  | f + 1, i, acc, ts, h => by
    rw [toksR] at h
    split at h
    · cases h
      exact ⟨[], by simp, by simp, by simp⟩
    · split at h
      · cases h
      · rename_i tk a2 hx
        have hst := nextR_step hx
        obtain ⟨ho, hp⟩ := nextR_ok hx
        obtain ⟨rs, h1, h2, h3⟩ := toksR_ok l f _ _ ts h
        refine ⟨tk :: rs, by rw [h1]; simp, ?_, ?_⟩
        · intro x hxm
          rcases List.mem_cons.1 hxm with rfl | hxm
          · exact ⟨ho, by omega, by omega⟩
          · obtain ⟨g1, g2, g3⟩ := h2 x hxm
            exact ⟨g1, by omega, g3⟩
        · intro j hj
          cases j with
          | zero =>
            have hl : 0 < rs.length := by simpa using hj
            have := (h2 (rs[0]) (List.getElem_mem hl)).2.1
            simp only [List.getElem_cons_zero, List.getElem_cons_succ, Nat.zero_add]
            omega
          | succ j =>
            simp only [List.getElem_cons_succ]
            exact h3 j (by simpa using hj)
theorem tokensR_ok {l : List UInt8} {ts : List Tk} {p : Nat} (h : tokensR l = (ts, 0, p)) : (∀ x ∈ ts, TkOk l.length x ∧ x.pos < l.length) ∧ (∀ j (h : j + 1 < ts.length), ts[j].pos < ts[j + 1].pos) ∧ l.length ≤ 65536 := by
  unfold tokensR at h
  split at h
  · cases h
  · split at h
    · rename_i rs hr
      cases h
      obtain ⟨qs, h1, h2, h3⟩ := toksR_ok l _ _ _ _ hr
      have : ts = qs := by simpa using h1
      subst this
      exact ⟨fun x hx => ⟨(h2 x hx).1, (h2 x hx).2.2⟩, h3, by omega⟩
    · cases h
theorem joinF_some : ∀ (l : List JT) (pw : Bool), (∀ x ∈ l, (writtenR x.k x.t x.n).isSome = true) → ∃ o, joinF pw l = some o
  | [], _, _ => ⟨[], rfl⟩
  | x :: l, pw, h => by
    obtain ⟨w, hw⟩ := Option.isSome_iff_exists.1 (h x (by simp))
    obtain ⟨o, ho⟩ := joinF_some l (wordy x.k) (fun y hy => h y (by simp [hy]))
    exact ⟨_, by rw [joinF, hw, ho]; rfl⟩
theorem joinF_bare : ∀ (a b : List Tk) (pw : Bool), a.map bareT = b.map bareT → joinF pw (a.map tkJ) = joinF pw (b.map tkJ)
  | [], [], _, _ => rfl
  | [], _ :: _, _, h => by cases h
  | _ :: _, [], _, h => by cases h
  | x :: a, y :: b, pw, h => by
    rw [List.map_cons, List.map_cons] at h
    injection h with h1 h2
    unfold bareT at h1
    injection h1 with k1 h1
    injection h1 with k2 k3
    rw [List.map_cons, List.map_cons, joinF, joinF]
    have e1 : (tkJ x).k = (tkJ y).k := by unfold tkJ; simp [k1]
    have e2 : (tkJ x).t = (tkJ y).t := k2
    have e3 : (tkJ x).n = (tkJ y).n := k3
    rw [e1, e2, e3, joinF_bare a b _ h2]
theorem mem_bare {ts : List Tk} (h : ∀ x ∈ ts, bareJ (tkJ x) = bareT x) : (ts.map tkJ).map bareJ = ts.map bareT := by
  rw [List.map_map]
  exact List.map_congr_left h
/-- A text's tokens joined, and read, and joined. -/
theorem again_plain {l : List UInt8} {ts : List Tk} {p : Nat} (h : tokensR l = (ts, 0, p)) : ∃ o, joinF false (ts.map tkJ) = some o ∧ (o.length ≤ 65536 → ∃ ms, tokensR o = (ms, 0, 0) ∧ ms.map bareT = ts.map bareT ∧ joinF false (ms.map tkJ) = some o) := by
  obtain ⟨h1, h2, h3⟩ := tokensR_ok h
  obtain ⟨o, ho⟩ := joinF_some (ts.map tkJ) false (fun x hx => by
    obtain ⟨t, ht, rfl⟩ := List.mem_map.1 hx
    exact (h1 t ht).1.1)
  refine ⟨o, ho, fun hl => ?_⟩
  obtain ⟨ms, hm, hb⟩ := tokensR_join (ts.map tkJ) o (fun x hx => by
    obtain ⟨t, ht, rfl⟩ := List.mem_map.1 hx
    exact (h1 t ht).1.2.1) ho hl
  rw [mem_bare (fun x hx => (h1 x hx).1.2.2.1)] at hb
  exact ⟨ms, hm, hb, by rw [joinF_bare ms ts false hb, ho]⟩
end Go.Proofs.YtidkjiglmfhjpaaDoor.Lx
namespace Go.Proofs.YtidkjiglmfhjpaaDoor.Lx
open Go.RowKit Go.Proofs.YtidkjiglmfhjpaaDoorW.PrintWords Go.Proofs.YtidkjiglmfhjpaaDoorW.PrintLast Go.Proofs.YtidkjiglmfhjpaaDoorW.PrintMore
open Go.Proofs.YtidkjiglmfhjpaaDoor.PS

def bareS (x : S33) : S33 := ⟨x.f0, if x.f0 = 7 ∨ x.f0 = 9 then x.f1 else ⟨#[]⟩, if x.f0 = 8 then x.f2 else 0, 0⟩
set_option maxRecDepth 100000 in
set_option maxHeartbeats 4000000 in
theorem bare_calls (l : List S33) (A : Option Addr) (c : Nat) (w : World) (hr : Kd.C k33 w A l.length l) (hl : l.length ≤ 100000000) :
    Calls Tryd.prog 17 #[.slice A l.length c] w fun e w' => ∃ v, e = .returned v ∧ Kd.R k33 33 w' w.heap.size (fun _ => True) v (l.map bareS) ∧ Below w.heap.size w w' := by
  have HR0 := Aside0.mk hr
  clear hr
  go_enter Tryd.func17, Tryd.ntmps17
  go_wp2
  go_loopg [3, 4] (l.length) (fun kq v3 v4 w2 => ∃ n : Nat, n + kq = l.length ∧ v4 = .int .i64 n ∧ Aside0 (Kd.R k33 33 w2 w.heap.size (fun _ => True) v3 ((l.take n).map bareS)) ∧ Aside0 (Below w.heap.size w w2))
  case atStart => exact ⟨0, by omega, rfl, Aside0.mk (Kd.R_nil _ _ _ _ _), Aside0.mk (Below.refl _ _)⟩
  case round =>
    obtain ⟨n, hn, rfl, HO, HB⟩ := hrel
    cases gk with
    | zero =>
      have hge : ¬ ((n : Nat) : Int) < (l.length : Int) := by omega
      have htk : l.take n = l := List.take_of_length_le (by omega)
      rw [htk] at HO
      go_wp2
      go_ret
      exact ⟨_, rfl, HO.out, HB.out⟩
    | succ k1 =>
      have hlt : n < l.length := by omega
      have hltz : ((n : Nat) : Int) < (l.length : Int) := by omega
      obtain ⟨ad, rfl, r0, r1, r2, r3⟩ := at_T33 (Kd.C_below HR0.out HB.out) (n : Int) (by omega) (by omega)
      rw [Int.toNat_natCast] at r0 r1 r2 r3
      have hrd : rd_T33 l (n : Int) = l[n] := by
        unfold rd_T33
        rw [List.getD_eq_getElem?_getD, Int.toNat_natCast, List.getElem?_eq_getElem hlt]
        rfl
      rw [hrd] at r0 r1 r2 r3
      generalize hx : l[n] = x at r0 r1 r2 r3
      obtain ⟨x0, x1, x2, x3⟩ := x
      have HX := Aside0.mk hx
      clear hrd hx
      have hsn : (l.take n).map bareS ++ [bareS l[n]] = (l.take (n + 1)).map bareS := by
        rw [List.take_add_one, List.map_append, List.getElem?_eq_getElem hlt]
        rfl
      rw [HX.out] at hsn
      by_cases q8 : x0 = 8
      · subst q8
        have g8 : ((8 : Int) == 8) = true := rfl
        have hbx : bareS ⟨(8 : Int), x1, x2, x3⟩ = ⟨(8 : Int), (⟨#[]⟩ : ByteArray), x2, 0⟩ := by simp [bareS, *]
        rw [hbx] at hsn
        have HSN := Aside0.mk hsn
        clear hsn hbx
        go_wp2_with (first | (with_reducible refine gate_builtin (b := .append) (xs := #[.tmp 30, .tmp 32]) rfl ?_); at_builtin; refine Kd.R_append k33 (w0 := w) w.heap.size rfl (.tmp 30) (.tmp 32) 23 33 (.agg #[(.int .i64 0), (.string ⟨#[]⟩), (.int .i64 0), (.int .i64 0)]) 40 rfl Tryd.underlying23 info33 rfl (by decide) (by omega) u3 ((l.take n).map bareS) (⟨(8 : Int), (⟨#[]⟩ : ByteArray), x2, 0⟩ : S33) [.int .i64 (8 : Int), .string (⟨#[]⟩ : ByteArray), .int .i64 x2, .int .i64 0] (fun _ => True) (fun _ => False) rfl (by first | (go_simp; done) | (go_simp; rfl)) ?aP (fun _ hk => hk.elim) (fun _ _ => trivial) ?aO ?aB ?aS ?aL ?_; (case aP => exact k33_mkM _ _ _ (⟨(8 : Int), (⟨#[]⟩ : ByteArray), x2, 0⟩ : S33)); (case aO => exact Kd.R_below HO.out (by repeat (first | exact Below.refl _ _ | apply below_alloc | apply pw_below_drewN | apply below_drew1 | refine below_set ?_ (by simp)))); (case aB => exact HB.out.trans (Below.mono (by repeat (first | exact Below.refl _ _ | apply below_alloc | apply pw_below_drewN | apply below_drew1 | refine below_set ?_ (by simp))) HB.out.size)); (case aS => exact Nat.le_trans HB.out.size (Below.size (B := wr.heap.size) (w := wr) (by repeat (first | exact Below.refl _ _ | apply below_alloc | apply pw_below_drewN | apply below_drew1 | refine below_set ?_ (by simp))))); (case aL => rw [List.length_map, List.length_take]; omega); intro v1 w1 ho hb1 hg hat; rw [HSN.out] at ho; have HO1 := Aside0.mk ho; have HB1 := Aside0.mk hb1; clear ho hb1 hg hat)
        go_roundg k1
        case measure => omega
        case rel => exact ⟨n + 1, by omega, by go_num, HO1, HB1⟩
      · have b8 : (x0 != 8) = true := by simp [q8]
        by_cases q7 : x0 = 7
        · subst q7
          have hbx : bareS ⟨(7 : Int), x1, x2, x3⟩ = ⟨(7 : Int), x1, 0, 0⟩ := by simp [bareS, *]
          rw [hbx] at hsn
          have HSN := Aside0.mk hsn
          clear hsn hbx
          go_wp2_with (first | (with_reducible refine gate_builtin (b := .append) (xs := #[.tmp 30, .tmp 32]) rfl ?_); at_builtin; refine Kd.R_append k33 (w0 := w) w.heap.size rfl (.tmp 30) (.tmp 32) 23 33 (.agg #[(.int .i64 0), (.string ⟨#[]⟩), (.int .i64 0), (.int .i64 0)]) 40 rfl Tryd.underlying23 info33 rfl (by decide) (by omega) u3 ((l.take n).map bareS) (⟨(7 : Int), x1, 0, 0⟩ : S33) [.int .i64 (7 : Int), .string x1, .int .i64 0, .int .i64 0] (fun _ => True) (fun _ => False) rfl (by first | (go_simp; done) | (go_simp; rfl)) ?aP (fun _ hk => hk.elim) (fun _ _ => trivial) ?aO ?aB ?aS ?aL ?_; (case aP => exact k33_mkM _ _ _ (⟨(7 : Int), x1, 0, 0⟩ : S33)); (case aO => exact Kd.R_below HO.out (by repeat (first | exact Below.refl _ _ | apply below_alloc | apply pw_below_drewN | apply below_drew1 | refine below_set ?_ (by simp)))); (case aB => exact HB.out.trans (Below.mono (by repeat (first | exact Below.refl _ _ | apply below_alloc | apply pw_below_drewN | apply below_drew1 | refine below_set ?_ (by simp))) HB.out.size)); (case aS => exact Nat.le_trans HB.out.size (Below.size (B := wr.heap.size) (w := wr) (by repeat (first | exact Below.refl _ _ | apply below_alloc | apply pw_below_drewN | apply below_drew1 | refine below_set ?_ (by simp))))); (case aL => rw [List.length_map, List.length_take]; omega); intro v1 w1 ho hb1 hg hat; rw [HSN.out] at ho; have HO1 := Aside0.mk ho; have HB1 := Aside0.mk hb1; clear ho hb1 hg hat)
          go_roundg k1
          case measure => omega
          case rel => exact ⟨n + 1, by omega, by go_num, HO1, HB1⟩
        · have b7 : (x0 != 7) = true := by simp [q7]
          by_cases q9 : x0 = 9
          · subst q9
            have hbx : bareS ⟨(9 : Int), x1, x2, x3⟩ = ⟨(9 : Int), x1, 0, 0⟩ := by simp [bareS, *]
            rw [hbx] at hsn
            have HSN := Aside0.mk hsn
            clear hsn hbx
            go_wp2_with (first | (with_reducible refine gate_builtin (b := .append) (xs := #[.tmp 30, .tmp 32]) rfl ?_); at_builtin; refine Kd.R_append k33 (w0 := w) w.heap.size rfl (.tmp 30) (.tmp 32) 23 33 (.agg #[(.int .i64 0), (.string ⟨#[]⟩), (.int .i64 0), (.int .i64 0)]) 40 rfl Tryd.underlying23 info33 rfl (by decide) (by omega) u3 ((l.take n).map bareS) (⟨(9 : Int), x1, 0, 0⟩ : S33) [.int .i64 (9 : Int), .string x1, .int .i64 0, .int .i64 0] (fun _ => True) (fun _ => False) rfl (by first | (go_simp; done) | (go_simp; rfl)) ?aP (fun _ hk => hk.elim) (fun _ _ => trivial) ?aO ?aB ?aS ?aL ?_; (case aP => exact k33_mkM _ _ _ (⟨(9 : Int), x1, 0, 0⟩ : S33)); (case aO => exact Kd.R_below HO.out (by repeat (first | exact Below.refl _ _ | apply below_alloc | apply pw_below_drewN | apply below_drew1 | refine below_set ?_ (by simp)))); (case aB => exact HB.out.trans (Below.mono (by repeat (first | exact Below.refl _ _ | apply below_alloc | apply pw_below_drewN | apply below_drew1 | refine below_set ?_ (by simp))) HB.out.size)); (case aS => exact Nat.le_trans HB.out.size (Below.size (B := wr.heap.size) (w := wr) (by repeat (first | exact Below.refl _ _ | apply below_alloc | apply pw_below_drewN | apply below_drew1 | refine below_set ?_ (by simp))))); (case aL => rw [List.length_map, List.length_take]; omega); intro v1 w1 ho hb1 hg hat; rw [HSN.out] at ho; have HO1 := Aside0.mk ho; have HB1 := Aside0.mk hb1; clear ho hb1 hg hat)
            go_roundg k1
            case measure => omega
            case rel => exact ⟨n + 1, by omega, by go_num, HO1, HB1⟩
          · have b9 : (x0 != 9) = true := by simp [q9]
            have hbx : bareS ⟨x0, x1, x2, x3⟩ = ⟨x0, (⟨#[]⟩ : ByteArray), 0, 0⟩ := by simp [bareS, *]
            rw [hbx] at hsn
            have HSN := Aside0.mk hsn
            clear hsn hbx
            go_wp2_with (first | (with_reducible refine gate_builtin (b := .append) (xs := #[.tmp 30, .tmp 32]) rfl ?_); at_builtin; refine Kd.R_append k33 (w0 := w) w.heap.size rfl (.tmp 30) (.tmp 32) 23 33 (.agg #[(.int .i64 0), (.string ⟨#[]⟩), (.int .i64 0), (.int .i64 0)]) 40 rfl Tryd.underlying23 info33 rfl (by decide) (by omega) u3 ((l.take n).map bareS) (⟨x0, (⟨#[]⟩ : ByteArray), 0, 0⟩ : S33) [.int .i64 x0, .string (⟨#[]⟩ : ByteArray), .int .i64 0, .int .i64 0] (fun _ => True) (fun _ => False) rfl (by first | (go_simp; done) | (go_simp; rfl)) ?aP (fun _ hk => hk.elim) (fun _ _ => trivial) ?aO ?aB ?aS ?aL ?_; (case aP => exact k33_mkM _ _ _ (⟨x0, (⟨#[]⟩ : ByteArray), 0, 0⟩ : S33)); (case aO => exact Kd.R_below HO.out (by repeat (first | exact Below.refl _ _ | apply below_alloc | apply pw_below_drewN | apply below_drew1 | refine below_set ?_ (by simp)))); (case aB => exact HB.out.trans (Below.mono (by repeat (first | exact Below.refl _ _ | apply below_alloc | apply pw_below_drewN | apply below_drew1 | refine below_set ?_ (by simp))) HB.out.size)); (case aS => exact Nat.le_trans HB.out.size (Below.size (B := wr.heap.size) (w := wr) (by repeat (first | exact Below.refl _ _ | apply below_alloc | apply pw_below_drewN | apply below_drew1 | refine below_set ?_ (by simp))))); (case aL => rw [List.length_map, List.length_take]; omega); intro v1 w1 ho hb1 hg hat; rw [HSN.out] at ho; have HO1 := Aside0.mk ho; have HB1 := Aside0.mk hb1; clear ho hb1 hg hat)
            go_roundg k1
            case measure => omega
            case rel => exact ⟨n + 1, by omega, by go_num, HO1, HB1⟩
/-- What a row of tokens that is handed in is like. -/
def ToksOk (l : List S33) : Prop := l.length ≤ 1048576 ∧ ∀ x ∈ l, (-9223372036854775808 ≤ x.f0 ∧ x.f0 ≤ 9223372036854775807) ∧ (-9223372036854775808 ≤ x.f2 ∧ x.f2 ≤ 9223372036854775807) ∧ x.f1.size ≤ 1048576
theorem jb_le : ∀ (l : List JT) (B : Nat), (∀ x ∈ l, x.t.length ≤ B) → jb l ≤ l.length * (6 * B + 30)
  | [], _, _ => by simp [jb]
  | x :: l, B, h => by
    have h1 := jb_le l B (fun y hy => h y (by simp [hy]))
    have h2 := h x (by simp)
    have e : jb (x :: l) = 6 * x.t.length + 30 + jb l := rfl
    rw [e, List.length_cons, Nat.add_mul, Nat.one_mul]
    omega
theorem toksOk_join {l : List S33} (h : ToksOk l) : joinOk (l.map toJ) = true := by
  obtain ⟨h1, h2⟩ := h
  have h3 := jb_le (l.map toJ) 1048576 (fun x hx => by
    obtain ⟨y, hy, rfl⟩ := List.mem_map.1 hx
    exact (h2 y hy).2.2)
  rw [List.length_map] at h3
  unfold joinOk
  simp only [Bool.and_eq_true, decide_eq_true_eq, List.all_eq_true, List.length_map]
  refine ⟨by omega, Nat.le_trans h3 (by omega), fun x hx => ?_⟩
  obtain ⟨y, hy, rfl⟩ := List.mem_map.1 hx
  obtain ⟨g1, g2, g3⟩ := h2 y hy
  unfold jtOk toJ
  simp only [Bool.and_eq_true, decide_eq_true_eq]
  exact ⟨g1, g2, Nat.le_trans g3 (by decide)⟩
def unb (p : Nat × List UInt8 × Int) : S33 := ⟨p.1, toB p.2.1, p.2.2, 0⟩
theorem toJ_toS (t : Tk) : toJ (toS t) = tkJ t := by
  unfold toJ toS tkJ
  simp [toB]
theorem bareS_unb (x : S33) (h : 0 ≤ x.f0) : bareS x = unb (bareJ (toJ x)) := by
  obtain ⟨x0, x1, x2, x3⟩ := x
  unfold bareS unb bareJ toJ
  simp only
  rw [Int.toNat_of_nonneg h]
  congr 1
  split
  · rfl
  · rfl
theorem bare_same {ts : List Tk} {l : List S33} (h : ts.map bareT = (l.map toJ).map bareJ) (ht : ∀ x ∈ ts, bareJ (tkJ x) = bareT x) (hl : ∀ x ∈ l, 0 ≤ x.f0) : (ts.map toS).map bareS = l.map bareS := by
  have e1 : (ts.map toS).map bareS = (ts.map bareT).map unb := by
    rw [List.map_map, List.map_map]
    refine List.map_congr_left fun x hx => ?_
    show bareS (toS x) = unb (bareT x)
    rw [bareS_unb _ (by show (0 : Int) ≤ (x.kind : Int); omega), toJ_toS, ht x hx]
  have e2 : l.map bareS = ((l.map toJ).map bareJ).map unb := by
    rw [List.map_map, List.map_map]
    exact List.map_congr_left fun x hx => bareS_unb x (hl x hx)
  rw [e1, e2, h]
end Go.Proofs.YtidkjiglmfhjpaaDoor.Lx
