/- dot: a line is read as the edge that it is the line of, in plain Lean. -/
import Derived.Test.YtohlbnbfpcbpdaaDoorDtD
import Derived.Test.YtohlbnbfpcbpdaaDoorLxR
import Derived.Lib.AtoiAll
set_option linter.unusedVariables false
set_option linter.unusedSimpArgs false
namespace Go.Proofs.YtohlbnbfpcbpdaaDoor.Dt
open Go Go.Proofs.YtohlbnbfpcbpdaaDoor.Lx

theorem isPrefixOf_iff {a b : List UInt8} : a.isPrefixOf b = true ↔ ∃ r, b = a ++ r := by
  rw [List.isPrefixOf_iff_prefix]
  exact ⟨fun ⟨r, h⟩ => ⟨r, h.symm⟩, fun ⟨r, h⟩ => ⟨r, h.symm⟩⟩
theorem index_first (c : UInt8) (q : List UInt8) : ∀ (a r : List UInt8), c ∉ a → Lib.index (a ++ (c :: q ++ r)) (c :: q) = a.length
  | [], r, _ => by
    have h : (c :: q).isPrefixOf (c :: (q ++ r)) = true := isPrefixOf_iff.2 ⟨r, rfl⟩
    show Lib.index (c :: (q ++ r)) (c :: q) = 0
    rw [Lib.index, if_pos h]
  | b :: a, r, hc => by
    have hb : ¬ c = b := fun h => hc (by simp [h])
    have ih := index_first c q a r (fun h => hc (by simp [h]))
    have h : ¬ (c :: q).isPrefixOf (b :: (a ++ (c :: q ++ r))) = true := by
      intro h
      obtain ⟨r', h'⟩ := isPrefixOf_iff.1 h
      injection h' with h' _
      exact hb h'.symm
    show Lib.index (b :: (a ++ (c :: q ++ r))) (c :: q) = _
    rw [Lib.index, if_neg h, ih]
    have : ((a.length : Int) == -1) = false := by simp
    rw [this]
    simp
theorem cut_first (c : UInt8) (q a r : List UInt8) (h : c ∉ a) : Lib.cut (a ++ (c :: q ++ r)) (c :: q) = (a, r, true) := by
  unfold Lib.cut
  rw [index_first c q a r h, if_pos (by omega), Int.toNat_natCast, List.take_left]
  congr 2
  rw [show a ++ (c :: q ++ r) = (a ++ c :: q) ++ r by simp, show a.length + (c :: q).length = (a ++ c :: q).length by simp, List.drop_left]
theorem index_hit : ∀ (s sub : List UInt8), 0 ≤ Lib.index s sub → ∃ r, s.drop (Lib.index s sub).toNat = sub ++ r
  | [], sub, h => by
    rw [Lib.index] at h ⊢
    cases sub with
    | nil => exact ⟨[], rfl⟩
    | cons c q => simp at h
  | b :: l, sub, h => by
    rw [Lib.index] at h ⊢
    by_cases hp : sub.isPrefixOf (b :: l) = true
    · rw [if_pos hp]
      obtain ⟨r, hr⟩ := isPrefixOf_iff.1 hp
      exact ⟨r, hr⟩
    · rw [if_neg hp] at h ⊢
      by_cases hm : (Lib.index l sub == -1) = true
      · rw [if_pos hm] at h
        simp at h
      · rw [if_neg hm] at h ⊢
        have hge : -1 ≤ Lib.index l sub := by
          have : ∀ l : List UInt8, -1 ≤ Lib.index l sub := by
            intro l
            induction l with
            | nil => rw [Lib.index]; split <;> omega
            | cons a l ih => rw [Lib.index]; (repeat' split) <;> omega
          exact this l
        have h0 : 0 ≤ Lib.index l sub := by
          have : ¬ Lib.index l sub = -1 := by simpa using hm
          omega
        obtain ⟨r, hr⟩ := index_hit l sub h0
        refine ⟨r, ?_⟩
        rw [show (Lib.index l sub + 1).toNat = (Lib.index l sub).toNat + 1 by omega, List.drop_succ_cons]
        exact hr
theorem cut_true {s sep a r : List UInt8} (h : Lib.cut s sep = (a, r, true)) : s = a ++ (sep ++ r) := by
  unfold Lib.cut at h
  by_cases h0 : 0 ≤ Lib.index s sep
  · rw [if_pos h0] at h
    obtain ⟨r', hr⟩ := index_hit s sep h0
    injection h with h1 h2
    injection h2 with h2 _
    rw [← h1, ← h2, ← List.drop_drop, hr, List.drop_left, ← hr, List.take_append_drop]
  · rw [if_neg h0] at h
    injection h with _ h
    injection h with _ h
    cases h
theorem prefix_true {s p : List UInt8} (h : Lib.hasPrefix s p = true) : s = p ++ Lib.trimPrefix s p := by
  obtain ⟨r, rfl⟩ := isPrefixOf_iff.1 h
  unfold Lib.trimPrefix
  rw [if_pos h, List.drop_left]
theorem prefix_app (p r : List UInt8) : Lib.hasPrefix (p ++ r) p = true ∧ Lib.trimPrefix (p ++ r) p = r := by
  have h : Lib.hasPrefix (p ++ r) p = true := isPrefixOf_iff.2 ⟨r, rfl⟩
  refine ⟨h, ?_⟩
  unfold Lib.trimPrefix
  rw [if_pos h, List.drop_left]
theorem suffix_true {s p : List UInt8} (h : Lib.hasSuffix s p = true) : s = Lib.trimSuffix s p ++ p := by
  obtain ⟨r, rfl⟩ := List.isSuffixOf_iff_suffix.1 h
  unfold Lib.trimSuffix
  rw [if_pos h]
  simp
theorem suffix_app (p r : List UInt8) : Lib.hasSuffix (r ++ p) p = true ∧ Lib.trimSuffix (r ++ p) p = r := by
  have h : Lib.hasSuffix (r ++ p) p = true := List.isSuffixOf_iff_suffix.2 ⟨r, rfl⟩
  refine ⟨h, ?_⟩
  unfold Lib.trimSuffix
  rw [if_pos h]
  simp
/-! ### The parts of a line -/
/-- A node's number, in its one form. -/
def numD (s : List UInt8) : Option Int := match Lib.atoiAll s with
  | .ok n => if 0 ≤ n ∧ n < 64 ∧ Lib.itoa n = s then some n else none
  | _ => none
theorem atoi_small : ∀ n : Nat, n < 64 → Lib.atoiAll (Lib.itoa (n : Int)) = .ok (n : Int) := by decide +kernel
theorem numD_iff (s : List UInt8) (n : Int) : numD s = some n ↔ 0 ≤ n ∧ n < 64 ∧ s = Lib.itoa n := by
  unfold numD
  constructor
  · intro h
    split at h
    · split at h
      · rename_i q
        cases h
        exact ⟨q.1, q.2.1, q.2.2.symm⟩
      · cases h
    · cases h
  · rintro ⟨h0, h1, rfl⟩
    obtain ⟨m, rfl⟩ := Int.eq_ofNat_of_zero_le h0
    rw [atoi_small m (by omega)]
    simp only
    rw [if_pos ⟨h0, h1, trivial⟩]
theorem itoa_dig {n : Int} (h : 0 ≤ n) : ∀ c ∈ Lib.itoa n, isDigit c = true := by
  unfold Lib.itoa
  rw [if_neg (by omega)]
  exact (decDigits_facts n.toNat).2.1
theorem no_blank {l : List UInt8} (h : ∀ c ∈ l, isDigit c = true) : (32 : UInt8) ∉ l := fun hm => by
  have := h 32 hm
  cases this
/-- A label's kind and key. -/
def kwI (w : List UInt8) : Option Nat := if w = kw 0 then some 0 else if w = kw 1 then some 1 else if w = kw 2 then some 2 else if w = kw 3 then some 3 else if w = kw 4 then some 4 else none
def labD (names : List (List UInt8)) (s : List UInt8) : Option (Int × Int) := match kwI (Lib.cut s [32]).1 with
  | none => none
  | some b => if (Lib.cut s [32]).2.2 = true then (if (Lib.cut s [32]).2.1 ∈ names then some ((2 : Int) ^ b, (names.idxOf (Lib.cut s [32]).2.1 : Int)) else none) else some ((2 : Int) ^ b, -1)
theorem kwI_some {w : List UInt8} {b : Nat} (h : kwI w = some b) : w = kw b ∧ b < 5 := by
  unfold kwI at h
  (repeat' split at h) <;> first | (cases h; exact ⟨by assumption, by decide⟩) | cases h
theorem kwI_kw {b : Nat} (h : b < 5) : kwI (kw b) = some b := by
  have hb : b = 0 ∨ b = 1 ∨ b = 2 ∨ b = 3 ∨ b = 4 := by omega
  rcases hb with rfl | rfl | rfl | rfl | rfl <;> decide
theorem kw_blank {b : Nat} (h : b < 5) : (32 : UInt8) ∉ kw b := by
  have hb : b = 0 ∨ b = 1 ∨ b = 2 ∨ b = 3 ∨ b = 4 := by omega
  rcases hb with rfl | rfl | rfl | rfl | rfl <;> decide
theorem bitOf_pow {b : Nat} (h : b < 5) : bitOf ((2 : Int) ^ b) = some b := by
  have hb : b = 0 ∨ b = 1 ∨ b = 2 ∨ b = 3 ∨ b = 4 := by omega
  rcases hb with rfl | rfl | rfl | rfl | rfl <;> decide
theorem bitOf_some {k : Int} {b : Nat} (h : bitOf k = some b) : k = (2 : Int) ^ b ∧ b < 5 := by
  unfold bitOf at h
  (repeat' split at h) <;> first | (cases h; rename_i q; exact ⟨by rw [q]; rfl, by decide⟩) | cases h
theorem cut_none {c : UInt8} {s : List UInt8} (h : c ∉ s) : Lib.cut s [c] = (s, [], false) := by
  have hi : ∀ s : List UInt8, c ∉ s → Lib.index s [c] = -1 := by
    intro s
    induction s with
    | nil => intro _; rfl
    | cons a s ih =>
      intro h
      have hp : ¬ ([c] : List UInt8).isPrefixOf (a :: s) = true := by
        intro hp
        obtain ⟨r, hr⟩ := isPrefixOf_iff.1 hp
        injection hr with hr _
        exact h (by rw [hr]; simp)
      rw [Lib.index, if_neg hp, ih (fun hm => h (by simp [hm]))]
      rfl
  unfold Lib.cut
  rw [hi s h, if_neg (by decide)]
theorem cut_false {s sep : List UInt8} (h : (Lib.cut s sep).2.2 = false) : Lib.cut s sep = (s, [], false) := by
  unfold Lib.cut at h ⊢
  split at h
  · cases h
  · rename_i q
    rw [if_neg q]
theorem labD_iff (names : List (List UInt8)) (hn : names.Nodup) (s : List UInt8) (k y : Int) : labD names s = some (k, y) ↔ ∃ b, bitOf k = some b ∧ -1 ≤ y ∧ y < names.length ∧ s = labR names b y := by
  unfold labD
  constructor
  · intro h
    cases hw : kwI (Lib.cut s [32]).1 with
    | none => rw [hw] at h; cases h
    | some b =>
      rw [hw] at h
      simp only at h
      obtain ⟨h1, h2⟩ := kwI_some hw
      cases hc : (Lib.cut s [32]).2.2 with
      | true =>
        rw [hc, if_pos rfl] at h
        have hs := cut_true (s := s) (sep := [32]) (a := (Lib.cut s [32]).1) (r := (Lib.cut s [32]).2.1) (by rw [← hc])
        by_cases hm : (Lib.cut s [32]).2.1 ∈ names
        · rw [if_pos hm] at h
          cases h
          have hlt := List.idxOf_lt_length_of_mem hm
          refine ⟨b, bitOf_pow h2, by omega, by omega, ?_⟩
          unfold labR
          rw [if_pos (by omega), Int.toNat_natCast, List.getD_eq_getElem?_getD, List.getElem?_eq_getElem hlt, List.getElem_idxOf, ← h1]
          exact hs
        · rw [if_neg hm] at h
          cases h
      | false =>
        rw [hc, if_neg (by decide)] at h
        cases h
        have hs := cut_false hc
        refine ⟨b, bitOf_pow h2, by omega, by omega, ?_⟩
        unfold labR
        rw [if_neg (by decide), List.append_nil, ← h1, hs]
  · rintro ⟨b, hb, h1, h2, rfl⟩
    obtain ⟨rfl, h5⟩ := bitOf_some hb
    unfold labR
    by_cases h0 : 0 ≤ y
    · rw [if_pos h0]
      have hc : Lib.cut (kw b ++ 32 :: names.getD y.toNat []) [32] = (kw b, names.getD y.toNat [], true) := cut_first 32 [] (kw b) _ (kw_blank h5)
      rw [hc, kwI_kw h5]
      have hlt : y.toNat < names.length := by omega
      have hg : names.getD y.toNat [] = names[y.toNat] := by rw [List.getD_eq_getElem?_getD, List.getElem?_eq_getElem hlt]; rfl
      simp only
      rw [if_pos trivial, hg, if_pos (List.getElem_mem hlt), hn.idxOf_getElem y.toNat hlt]
      congr 2
      omega
    · rw [if_neg h0, List.append_nil, cut_none (kw_blank h5), kwI_kw h5]
      simp only
      rw [if_neg (by decide), show y = -1 by omega]
/-! ### A line -/
/-- What a text in quotes, in its one form, stands for. -/
def quoD (q : List UInt8) : Option (List UInt8) := match tokensR q with
  | ([t], 0, _) => if t.kind = 7 ∧ quoteR t.text = q then some t.text else none
  | _ => none
theorem quoD_some {q t : List UInt8} (h : quoD q = some t) : q = quoteR t := by
  unfold quoD at h
  split at h
  · split at h
    · rename_i q1
      cases h
      exact q1.2.symm
    · cases h
  · cases h
theorem quoD_quote {t : List UInt8} (h : (quoteR t).length ≤ 65536) : quoD (quoteR t) = some t := by
  unfold quoD
  rw [tokensR_quote t h]
  simp
/-- The edge of a line without its end. -/
def edgeD (names : List (List UInt8)) (x : List UInt8) : Option Ed :=
  if (((Lib.hasPrefix x p1 && (Lib.cut (Lib.trimPrefix x p1) p2).2.2) && (Lib.cut (Lib.cut (Lib.trimPrefix x p1) p2).2.1 p3).2.2) && Lib.hasSuffix (Lib.cut (Lib.cut (Lib.trimPrefix x p1) p2).2.1 p3).2.1 p4) = true then
    match numD (Lib.cut (Lib.trimPrefix x p1) p2).1, numD (Lib.cut (Lib.cut (Lib.trimPrefix x p1) p2).2.1 p3).1, quoD (Lib.trimSuffix (Lib.cut (Lib.cut (Lib.trimPrefix x p1) p2).2.1 p3).2.1 p4) with
    | some a, some b, some t => (labD names t).map fun ky => ⟨a, b, ky.1, ky.2⟩
    | _, _, _ => none
  else none
theorem labR_len {names : List (List UInt8)} (hn : ∀ n ∈ names, n.length ≤ 32) {b : Nat} (hb : b < 5) (y : Int) : (labR names b y).length ≤ 35 := by
  have h1 : (kw b).length = 2 := by
    have hc : b = 0 ∨ b = 1 ∨ b = 2 ∨ b = 3 ∨ b = 4 := by omega
    rcases hc with rfl | rfl | rfl | rfl | rfl <;> rfl
  unfold labR
  rw [List.length_append, h1]
  split
  · rw [List.length_cons, List.getD_eq_getElem?_getD]
    cases hg : names[y.toNat]? with
    | none => simp
    | some n =>
      have := hn n (List.mem_of_getElem? hg)
      simp only [Option.getD_some]
      omega
  · simp
theorem edgeD_iff (names : List (List UInt8)) (hn : names.Nodup) (hl : ∀ n ∈ names, n.length ≤ 32) (x : List UInt8) (e : Ed) : edgeD names x = some e ↔ ∃ b, bitOf e.k = some b ∧ fairE names e ∧ x = lineX names e b := by
  unfold edgeD
  constructor
  · intro h
    split at h
    · rename_i hok
      simp only [Bool.and_eq_true] at hok
      obtain ⟨⟨⟨o1, o2⟩, o3⟩, o4⟩ := hok
      have e1 := prefix_true o1
      have e2 := cut_true (s := Lib.trimPrefix x p1) (sep := p2) (a := (Lib.cut (Lib.trimPrefix x p1) p2).1) (r := (Lib.cut (Lib.trimPrefix x p1) p2).2.1) (by rw [← o2])
      generalize (Lib.cut (Lib.trimPrefix x p1) p2).2.1 = r2 at *
      generalize (Lib.cut (Lib.trimPrefix x p1) p2).1 = a2 at *
      have e3 := cut_true (s := r2) (sep := p3) (a := (Lib.cut r2 p3).1) (r := (Lib.cut r2 p3).2.1) (by rw [← o3])
      generalize (Lib.cut r2 p3).2.1 = r3 at *
      generalize (Lib.cut r2 p3).1 = a3 at *
      have e4 := suffix_true o4
      split at h
      · rename_i a b t ha hb ht
        obtain ⟨⟨k, y⟩, hky, rfl⟩ := Option.map_eq_some_iff.1 h
        obtain ⟨b', hb', hy1, hy2, rfl⟩ := (labD_iff names hn t k y).1 hky
        obtain ⟨ha0, ha1, rfl⟩ := (numD_iff _ _).1 ha
        obtain ⟨hb0, hb1, rfl⟩ := (numD_iff _ _).1 hb
        have e5 := quoD_some ht
        refine ⟨b', hb', ⟨ha0, ha1, hb0, hb1, hy1, hy2⟩, ?_⟩
        unfold lineX
        rw [e1, e2, e3, e4, e5]
      · cases h
    · cases h
  · rintro ⟨b, hb, ⟨h1, h2, h3, h4, h5, h6⟩, rfl⟩
    obtain ⟨_, hb5⟩ := bitOf_some hb
    unfold lineX
    obtain ⟨g1, g2⟩ := prefix_app p1 (Lib.itoa e.f ++ (p2 ++ (Lib.itoa e.t ++ (p3 ++ (quoteR (labR names b e.y) ++ p4)))))
    have g3 : Lib.cut (Lib.itoa e.f ++ (p2 ++ (Lib.itoa e.t ++ (p3 ++ (quoteR (labR names b e.y) ++ p4))))) p2 = (Lib.itoa e.f, Lib.itoa e.t ++ (p3 ++ (quoteR (labR names b e.y) ++ p4)), true) :=
      cut_first 32 [45, 62, 32, 116] (Lib.itoa e.f) _ (no_blank (itoa_dig h1))
    have g4 : Lib.cut (Lib.itoa e.t ++ (p3 ++ (quoteR (labR names b e.y) ++ p4))) p3 = (Lib.itoa e.t, quoteR (labR names b e.y) ++ p4, true) :=
      cut_first 32 [91, 108, 97, 98, 101, 108, 61] (Lib.itoa e.t) _ (no_blank (itoa_dig h3))
    obtain ⟨g5, g6⟩ := suffix_app p4 (quoteR (labR names b e.y))
    have hlen := labR_len hl hb5 e.y
    have hq := quote_len (labR names b e.y)
    have g7 : quoD (quoteR (labR names b e.y)) = some (labR names b e.y) := quoD_quote (by
      simp only [quoteR, List.length_cons, List.length_append, List.length_nil]
      omega)
    rw [g1, g2, g3]
    simp only
    rw [g4]
    simp only
    rw [g5, g6, (numD_iff _ _).2 ⟨h1, h2, rfl⟩, (numD_iff _ _).2 ⟨h3, h4, rfl⟩, g7, if_pos (by rfl)]
    simp only
    rw [(labD_iff names hn _ e.k e.y).2 ⟨b, hb, h5, h6, rfl⟩]
    rfl
/-- Two lines that are the same are of one edge. -/
theorem lineX_inj {names : List (List UInt8)} (hn : names.Nodup) (hl : ∀ n ∈ names, n.length ≤ 32) {e e' : Ed} {b b' : Nat} (hb : bitOf e.k = some b) (hb' : bitOf e'.k = some b') (he : fairE names e) (he' : fairE names e') (h : lineX names e b = lineX names e' b') : e = e' := by
  have h1 := (edgeD_iff names hn hl _ e).2 ⟨b, hb, he, rfl⟩
  have h2 := (edgeD_iff names hn hl _ e').2 ⟨b', hb', he', rfl⟩
  rw [h] at h1
  exact Option.some.inj (h1.symm.trans h2)
/-! ### A text -/
/-- The edges of the lines from here on, behind those that there are. -/
def bodyD (names : List (List UInt8)) : Nat → List UInt8 → List Ed → Option (List Ed)
  | 0, _, _ => none
  | f + 1, rest, acc => if rest = [] then some acc else match edgeD names (Lib.cut rest [10]).1 with
    | none => none
    | some e => if acc.length = 262144 then none else bodyD names f (Lib.cut rest [10]).2.1 (acc ++ [e])
/-- What Read answers. -/
def readR (names : List (List UInt8)) (s : List UInt8) : List Ed × Int :=
  if wrongR names = 0 then
    (if ((Lib.hasPrefix s hd && Lib.hasSuffix (Lib.trimPrefix s hd) tl) && (Lib.trimSuffix (Lib.trimPrefix s hd) tl == [] || Lib.hasSuffix (Lib.trimSuffix (Lib.trimPrefix s hd) tl) [10])) = true then
      match bodyD names (s.length + 1) (Lib.trimSuffix (Lib.trimPrefix s hd) tl) [] with
      | none => ([], 230)
      | some l => (l, 0)
    else ([], 230))
  else ([], wrongR names)
theorem quote_no10 (t : List UInt8) : (10 : UInt8) ∉ quoteR t := by
  have hb' : ∀ n : Nat, n < 256 → (10 : UInt8) ∉ quoteB (UInt8.ofNat n) := by decide +kernel
  have hb : ∀ c : UInt8, (10 : UInt8) ∉ quoteB c := fun c => by
    have := hb' c.toNat (UInt8.toNat_lt c)
    rw [UInt8.ofNat_toNat] at this
    exact this
  unfold quoteR
  simp only [List.mem_cons, List.mem_append, List.mem_flatMap, List.not_mem_nil, or_false, not_or, not_exists, not_and]
  exact ⟨by decide, fun c _ => hb c, by decide⟩
theorem line_no10 {names : List (List UInt8)} {e : Ed} (h : fairE names e) (b : Nat) : (10 : UInt8) ∉ lineX names e b := by
  obtain ⟨h1, h2, h3, h4, _, _⟩ := h
  have hd10 : ∀ {l : List UInt8}, (∀ c ∈ l, isDigit c = true) → (10 : UInt8) ∉ l := fun hl hm => by
    have := hl 10 hm
    cases this
  unfold lineX
  simp only [List.mem_append, not_or]
  exact ⟨by decide, hd10 (itoa_dig h1), by decide, hd10 (itoa_dig h3), by decide, quote_no10 _, by decide⟩
theorem body_of_lines (names : List (List UInt8)) (hn : names.Nodup) (hl : ∀ n ∈ names, n.length ≤ 32) : ∀ (l : List Ed) (o : List UInt8) (f : Nat) (acc : List Ed), linesR names l = some o → o.length < f → acc.length + l.length ≤ 262144 → bodyD names f o acc = some (acc ++ l)
  | [], o, f, acc, h, hf, _ => by
    cases h
    obtain ⟨f, rfl⟩ : ∃ m, f = m + 1 := ⟨f - 1, by simp at hf; omega⟩
    rw [bodyD, if_pos rfl, List.append_nil]
  | e :: l, o, f, acc, h, hf, hc => by
    obtain ⟨f, rfl⟩ : ∃ m, f = m + 1 := ⟨f - 1, by omega⟩
    rw [linesR] at h
    cases hx : lineR names e with
    | none => rw [hx] at h; cases h
    | some x =>
      rw [hx] at h
      obtain ⟨o', ho, rfl⟩ := Option.map_eq_some_iff.1 h
      unfold lineR at hx
      split at hx
      · cases hx
      · rename_i b hb
        split at hx
        · rename_i hfair
          cases hx
          have hcut : Lib.cut (lineX names e b ++ [10] ++ o') [10] = (lineX names e b, o', true) := by
            have := cut_first 10 [] (lineX names e b) o' (line_no10 hfair b)
            simpa using this
          have hne : lineX names e b ++ [10] ++ o' ≠ [] := by simp
          rw [bodyD, if_neg hne, hcut]
          simp only
          rw [(edgeD_iff names hn hl _ e).2 ⟨b, hb, hfair, rfl⟩]
          simp only
          simp only [List.length_cons] at hc
          rw [if_neg (by omega), body_of_lines names hn hl l o' f (acc ++ [e]) ho (by simp only [List.length_append] at hf; simp at hf; omega) (by rw [List.length_append]; simp; omega)]
          simp
        · cases hx
theorem cut_mem {c : UInt8} {s : List UInt8} (h : c ∈ s) : ∃ a r, Lib.cut s [c] = (a, r, true) := by
  obtain ⟨a, r, rfl, hn⟩ : ∃ a r, s = a ++ c :: r ∧ c ∉ a := by
    induction s with
    | nil => cases h
    | cons b s ih =>
      by_cases hb : b = c
      · exact ⟨[], s, by rw [hb]; rfl, by simp⟩
      · have hm : c ∈ s := by
          rcases List.mem_cons.1 h with h | h
          · exact absurd h.symm hb
          · exact h
        obtain ⟨a, r, h1, h2⟩ := ih hm
        exact ⟨b :: a, r, by rw [h1]; rfl, by simp [h2]; exact fun h => hb h.symm⟩
  exact ⟨a, r, cut_first c [] a r hn⟩
theorem lines_of_body (names : List (List UInt8)) (hn : names.Nodup) (hl : ∀ n ∈ names, n.length ≤ 32) : ∀ (f : Nat) (rest : List UInt8) (acc L : List Ed), (rest = [] ∨ Lib.hasSuffix rest [10] = true) → acc.length ≤ 262144 → bodyD names f rest acc = some L → ∃ l, L = acc ++ l ∧ linesR names l = some rest ∧ L.length ≤ 262144
  | 0, _, _, _, _, _, h => by cases h
  | f + 1, rest, acc, L, hr, ha, h => by
    rw [bodyD] at h
    split at h
    · rename_i q
      cases h
      exact ⟨[], by simp, by rw [q]; rfl, ha⟩
    · rename_i q
      split at h
      · cases h
      · rename_i e he
        split at h
        · cases h
        · rename_i q2
          have hs := hr.resolve_left q
          have hm : (10 : UInt8) ∈ rest := by rw [suffix_true hs]; simp
          obtain ⟨a, r, hc⟩ := cut_mem hm
          rw [hc] at he h
          have hsplit := cut_true hc
          obtain ⟨b, hb, hfair, rfl⟩ := (edgeD_iff names hn hl a e).1 he
          have hr' : r = [] ∨ Lib.hasSuffix r [10] = true := by
            by_cases hr0 : r = []
            · exact .inl hr0
            · right
              obtain ⟨r1, z, rfl⟩ := snoc_cases r hr0
              have h1 := suffix_true hs
              generalize Lib.trimSuffix rest [10] = T at h1
              rw [hsplit, show lineX names e b ++ ([10] ++ (r1 ++ [z])) = (lineX names e b ++ ([10] ++ r1)) ++ [z] by simp] at h1
              rw [(List.append_inj' h1 rfl).2]
              exact (suffix_app [10] r1).1
          obtain ⟨l, h1, h2, h3⟩ := lines_of_body names hn hl f r (acc ++ [e]) L hr' (by rw [List.length_append]; simp; omega) h
          refine ⟨e :: l, by rw [h1]; simp, ?_, h3⟩
          have hlx : lineR names e = some (lineX names e b ++ [10]) := by
            unfold lineR
            rw [hb]
            simp only
            rw [if_pos hfair]
          rw [linesR, hlx]
          simp only
          rw [h2, hsplit]
          simp
theorem wrongR_zero {names : List (List UInt8)} (h : wrongR names = 0) : names.Nodup ∧ ∀ n ∈ names, n.length ≤ 32 := by
  unfold wrongR at h
  split at h
  · rename_i q
    split at h
    · cases h
    · rename_i q2
      exact ⟨q, fun n hn => by
        by_cases hl : 32 < n.length
        · exact absurd ⟨n, hn, hl⟩ q2
        · omega⟩
  · cases h
theorem lines_end (names : List (List UInt8)) : ∀ (l : List Ed) (o : List UInt8), linesR names l = some o → o = [] ∨ Lib.hasSuffix o [10] = true
  | [], o, h => by cases h; exact .inl rfl
  | e :: l, o, h => by
    rw [linesR] at h
    cases hx : lineR names e with
    | none => rw [hx] at h; cases h
    | some x =>
      rw [hx] at h
      obtain ⟨o', ho, rfl⟩ := Option.map_eq_some_iff.1 h
      right
      rcases lines_end names l o' ho with rfl | h'
      · rw [List.append_nil]
        unfold lineR at hx
        split at hx
        · cases hx
        · split at hx
          · cases hx
            exact (suffix_app [10] _).1
          · cases hx
      · rw [suffix_true h', ← List.append_assoc]
        exact (suffix_app [10] _).1
theorem lines_len (names : List (List UInt8)) : ∀ (l : List Ed) (o : List UInt8), linesR names l = some o → l.length ≤ o.length
  | [], _, _ => by simp
  | e :: l, o, h => by
    rw [linesR] at h
    cases hx : lineR names e with
    | none => rw [hx] at h; cases h
    | some x =>
      rw [hx] at h
      obtain ⟨o', ho, rfl⟩ := Option.map_eq_some_iff.1 h
      have := lines_len names l o' ho
      unfold lineR at hx
      split at hx
      · cases hx
      · split at hx
        · cases hx
          simp only [List.length_append, List.length_cons]
          omega
        · cases hx
/-- What is printed is read again. -/
theorem read_of_print {names : List (List UInt8)} {l : List Ed} {t : List UInt8} (h : printR names l = (t, 0)) : readR names t = (l, 0) := by
  unfold printR at h
  split at h
  · rename_i hw
    obtain ⟨hn, hl⟩ := wrongR_zero hw
    split at h
    · cases h
    · rename_i hlen
      split at h
      · cases h
      · rename_i o ho
        cases h
        obtain ⟨g1, g2⟩ := prefix_app hd (o ++ tl)
        obtain ⟨g3, g4⟩ := suffix_app tl o
        have hb := body_of_lines names hn hl l o ((hd ++ o ++ tl).length + 1) [] ho (by simp only [List.length_append]; omega) (by simp; omega)
        have hend : (o == [] || Lib.hasSuffix o [10]) = true := by
          rcases lines_end names l o ho with h | h
          · rw [h]; rfl
          · rw [h]; simp
        unfold readR
        rw [List.append_assoc] at hb
        rw [if_pos hw, List.append_assoc, g1, g2, g3, g4, hend, if_pos (by rfl), hb]
        rfl
  · rename_i hw
    injection h with _ h
    exact absurd h hw
/-- What is read is printed again. -/
theorem print_of_read {names : List (List UInt8)} {s : List UInt8} {l : List Ed} (h : readR names s = (l, 0)) : printR names l = (s, 0) := by
  unfold readR at h
  split at h
  · rename_i hw
    obtain ⟨hn, hl⟩ := wrongR_zero hw
    split at h
    · rename_i hok
      simp only [Bool.and_eq_true, Bool.or_eq_true, beq_iff_eq] at hok
      obtain ⟨⟨o1, o2⟩, o3⟩ := hok
      split at h
      · cases h
      · rename_i L hL
        cases h
        obtain ⟨l', h1, h2, h3⟩ := lines_of_body names hn hl _ _ _ _ o3 (by simp) hL
        have h1' : l = l' := by simpa using h1
        subst h1'
        unfold printR
        rw [if_pos hw, if_neg (by omega), h2]
        simp only
        rw [List.append_assoc, ← suffix_true o2, ← prefix_true o1]
    · cases h
  · rename_i hw
    injection h with _ h
    exact absurd h hw
/-- A refused text has no edges. -/
theorem read_bad {names : List (List UInt8)} {s : List UInt8} (h : (readR names s).2 ≠ 0) : (readR names s).1 = [] := by
  unfold readR at h ⊢
  split at h
  · rename_i hw
    rw [if_pos hw]
    split at h
    · rename_i hok
      rw [if_pos hok]
      split at h
      · rfl
      · exact absurd rfl h
    · rename_i hok
      rw [if_neg hok]
  · rename_i hw
    rw [if_neg hw]
theorem linesR_app (names : List (List UInt8)) : ∀ l m : List Ed, linesR names (l ++ m) = (linesR names l).bind fun a => (linesR names m).map fun b => a ++ b
  | [], m => by simp [linesR]
  | e :: l, m => by
    rw [List.cons_append, linesR, linesR, linesR_app names l m]
    cases lineR names e with
    | none => rfl
    | some x =>
      cases linesR names l with
      | none => rfl
      | some a => cases linesR names m <;> simp
end Go.Proofs.YtohlbnbfpcbpdaaDoor.Dt

/- dot: the reference's reading, in plain Lean: it is the program's. -/
namespace Go.Proofs.YtohlbnbfpcbpdaaDoor.Dt
open Go Go.Proofs.YtohlbnbfpcbpdaaDoor.Lx

/-- The number that begins at a place, two digits at most, and the place behind it. -/
def numF (l : List UInt8) (i : Nat) : Int × Nat :=
  if isDigit (l.getD i 0) = true then
    (if isDigit (l.getD (i + 1) 0) = true then (10 * (((l.getD i 0).toNat : Int) - 48) + (((l.getD (i + 1) 0).toNat : Int) - 48), i + 2) else (((l.getD i 0).toNat : Int) - 48, i + 1))
  else (0, i)
/-- The kinds and keys that are tried, in their order. -/
def candF (n : Nat) : List (Int × Int) := [1, 2, 4, 8, 16].flatMap fun k => (List.range (n + 1)).map fun j : Nat => (k, (j : Int) - 1)
def edgeF (names : List (List UInt8)) (s : List UInt8) : Option Ed :=
  if s.length < 3 then none else
  ((candF names.length).find? fun c => decide (lineR names ⟨(numF s 3).1, (numF s ((numF s 3).2 + 5)).1, c.1, c.2⟩ = some s)).map fun c => ⟨(numF s 3).1, (numF s ((numF s 3).2 + 5)).1, c.1, c.2⟩
theorem numF_small' : ∀ n : Nat, n < 64 → (Lib.itoa (n : Int) = [UInt8.ofNat (48 + n)] ∧ n < 10) ∨ (Lib.itoa (n : Int) = [UInt8.ofNat (48 + n / 10), UInt8.ofNat (48 + n % 10)]) := by decide +kernel
theorem getD_pre (a b : List UInt8) (i : Nat) : (a ++ b).getD (a.length + i) 0 = b.getD i 0 := by
  rw [List.getD_eq_getElem?_getD, List.getD_eq_getElem?_getD, List.getElem?_append_right (by omega)]
  congr 2
  omega
theorem numF_itoa (a : List UInt8) (n : Int) (h0 : 0 ≤ n) (h1 : n < 64) (c : UInt8) (r : List UInt8) (hc : isDigit c = false) : numF (a ++ (Lib.itoa n ++ c :: r)) a.length = (n, a.length + (Lib.itoa n).length) := by
  obtain ⟨m, rfl⟩ := Int.eq_ofNat_of_zero_le h0
  have hm : m < 64 := by omega
  have hof : ∀ d, d < 10 → (UInt8.ofNat (48 + d)).toNat = 48 + d := fun d hd => by
    rw [UInt8.toNat_ofNat']
    omega
  have hdg : ∀ d, d < 10 → isDigit (UInt8.ofNat (48 + d)) = true := fun d hd => by
    rw [isDigit_iff, hof d hd]
    omega
  have e0 := getD_pre a (Lib.itoa (m : Int) ++ c :: r) 0
  have e1 := getD_pre a (Lib.itoa (m : Int) ++ c :: r) 1
  rw [Nat.add_zero] at e0
  unfold numF
  rw [e0, e1]
  rcases numF_small' m hm with ⟨h, hlt⟩ | h
  · rw [h]
    have g0 : ([UInt8.ofNat (48 + m)] ++ c :: r).getD 0 0 = UInt8.ofNat (48 + m) := rfl
    have g1 : ([UInt8.ofNat (48 + m)] ++ c :: r).getD 1 0 = c := rfl
    rw [g0, g1, if_pos (hdg m hlt), if_neg (by rw [hc]; decide), hof m hlt]
    simp
    omega
  · rw [h]
    have g0 : ([UInt8.ofNat (48 + m / 10), UInt8.ofNat (48 + m % 10)] ++ c :: r).getD 0 0 = UInt8.ofNat (48 + m / 10) := rfl
    have g1 : ([UInt8.ofNat (48 + m / 10), UInt8.ofNat (48 + m % 10)] ++ c :: r).getD 1 0 = UInt8.ofNat (48 + m % 10) := rfl
    rw [g0, g1, if_pos (hdg _ (by omega)), if_pos (hdg _ (by omega)), hof _ (by omega), hof _ (by omega)]
    simp
    omega
theorem lineR_some {names : List (List UInt8)} {e : Ed} {s : List UInt8} (h : lineR names e = some s) : ∃ b, bitOf e.k = some b ∧ fairE names e ∧ s = lineX names e b ++ [10] := by
  unfold lineR at h
  split at h
  · cases h
  · rename_i b hb
    split at h
    · rename_i hf
      cases h
      exact ⟨b, hb, hf, rfl⟩
    · cases h
theorem lineR_of {names : List (List UInt8)} {e : Ed} {b : Nat} (hb : bitOf e.k = some b) (hf : fairE names e) : lineR names e = some (lineX names e b ++ [10]) := by
  unfold lineR
  rw [hb]
  simp only
  rw [if_pos hf]
theorem edgeF_iff (names : List (List UInt8)) (hn : names.Nodup) (hl : ∀ n ∈ names, n.length ≤ 32) (s : List UInt8) (e : Ed) : edgeF names s = some e ↔ lineR names e = some s := by
  unfold edgeF
  constructor
  · intro h
    split at h
    · cases h
    · obtain ⟨c, hc, rfl⟩ := Option.map_eq_some_iff.1 h
      have := List.find?_some hc
      simpa using this
  · intro h
    obtain ⟨b, hb, hf, rfl⟩ := lineR_some h
    have hf' := hf
    obtain ⟨h1, h2, h3, h4, h5, h6⟩ := hf'
    have hlen : ¬ (lineX names e b ++ [10]).length < 3 := by
      unfold lineX p1
      simp only [List.length_append, List.length_cons]
      omega
    have n1 : numF (lineX names e b ++ [10]) 3 = (e.f, 3 + (Lib.itoa e.f).length) := by
      have := numF_itoa p1 e.f h1 h2 32 ([45, 62, 32, 116] ++ (Lib.itoa e.t ++ (p3 ++ (quoteR (labR names b e.y) ++ p4))) ++ [10]) (by decide)
      have e1 : p1 ++ (Lib.itoa e.f ++ 32 :: ([45, 62, 32, 116] ++ (Lib.itoa e.t ++ (p3 ++ (quoteR (labR names b e.y) ++ p4))) ++ [10])) = lineX names e b ++ [10] := by
        unfold lineX p2
        simp
      rw [e1] at this
      exact this
    have n2 : numF (lineX names e b ++ [10]) (3 + (Lib.itoa e.f).length + 5) = (e.t, (p1 ++ Lib.itoa e.f ++ p2).length + (Lib.itoa e.t).length) := by
      have := numF_itoa (p1 ++ Lib.itoa e.f ++ p2) e.t h3 h4 32 ([91, 108, 97, 98, 101, 108, 61] ++ (quoteR (labR names b e.y) ++ p4) ++ [10]) (by decide)
      have e1 : (p1 ++ Lib.itoa e.f ++ p2) ++ (Lib.itoa e.t ++ 32 :: ([91, 108, 97, 98, 101, 108, 61] ++ (quoteR (labR names b e.y) ++ p4) ++ [10])) = lineX names e b ++ [10] := by
        unfold lineX p3
        simp
      have e2 : (p1 ++ Lib.itoa e.f ++ p2).length = 3 + (Lib.itoa e.f).length + 5 := by
        simp only [List.length_append]
        rfl
      rw [e1] at this
      rw [← e2]
      exact this
    rw [if_neg hlen, n1]
    simp only
    rw [n2]
    simp only
    cases hx : (candF names.length).find? (fun c => decide (lineR names ⟨e.f, e.t, c.1, c.2⟩ = some (lineX names e b ++ [10]))) with
    | none =>
      exfalso
      have := List.find?_eq_none.1 hx (e.k, e.y) (by
        unfold candF
        obtain ⟨hk, hb5⟩ := bitOf_some hb
        refine List.mem_flatMap.2 ⟨e.k, ?_, List.mem_map.2 ⟨(e.y + 1).toNat, by simp; omega, ?_⟩⟩
        · rw [hk]
          have hc : b = 0 ∨ b = 1 ∨ b = 2 ∨ b = 3 ∨ b = 4 := by omega
          rcases hc with rfl | rfl | rfl | rfl | rfl <;> decide
        · simp only [Prod.mk.injEq, true_and]
          omega)
      exact this (by simp [h])
    | some c =>
      have h2 := List.find?_some hx
      have h3 : lineR names ⟨e.f, e.t, c.1, c.2⟩ = some (lineX names e b ++ [10]) := by simpa using h2
      obtain ⟨b', hb', hf', he'⟩ := lineR_some h3
      have := lineX_inj hn hl hb hb' hf hf' (List.append_cancel_right he')
      rw [Option.map_some, this]
theorem edgeF_eq (names : List (List UInt8)) (hn : names.Nodup) (hl : ∀ n ∈ names, n.length ≤ 32) (x : List UInt8) : edgeF names (x ++ [10]) = edgeD names x := by
  apply Option.ext
  intro e
  constructor
  · intro h
    obtain ⟨b, hb, hf, he⟩ := lineR_some ((edgeF_iff names hn hl _ e).1 h)
    exact (edgeD_iff names hn hl x e).2 ⟨b, hb, hf, List.append_cancel_right he⟩
  · intro h
    obtain ⟨b, hb, hf, rfl⟩ := (edgeD_iff names hn hl x e).1 h
    exact (edgeF_iff names hn hl _ e).2 (lineR_of hb hf)
/-! ### The reference's Read -/
def bodyF (names : List (List UInt8)) : Nat → List UInt8 → List Ed → Option (List Ed)
  | 0, _, _ => none
  | f + 1, rest, acc => if (Lib.cut rest [10]).2.2 = true then
      match edgeF names ((Lib.cut rest [10]).1 ++ [10]) with
      | none => none
      | some e => if 262144 ≤ acc.length then none else bodyF names f (Lib.cut rest [10]).2.1 (acc ++ [e])
    else if rest = [] then some acc else none
theorem bodyF_eq (names : List (List UInt8)) (hn : names.Nodup) (hl : ∀ n ∈ names, n.length ≤ 32) : ∀ (f : Nat) (rest : List UInt8) (acc : List Ed), rest.length < f → acc.length ≤ 262144 →
    bodyF names f rest acc = if (rest == [] || Lib.hasSuffix rest [10]) = true then bodyD names f rest acc else none
  | 0, _, _, h, _ => by omega
  | f + 1, rest, acc, h, ha => by
    rw [bodyF, bodyD]
    by_cases hm : (10 : UInt8) ∈ rest
    · obtain ⟨a, r, hc⟩ := cut_mem hm
      have hs := cut_true hc
      have hne : rest ≠ [] := by rw [hs]; simp
      rw [hc, if_pos (by rfl), if_neg hne]
      simp only
      rw [edgeF_eq names hn hl]
      have hlen : r.length < f := by
        rw [hs] at h
        simp only [List.length_append, List.length_cons, List.length_nil] at h
        omega
      have hsuf : (rest == [] || Lib.hasSuffix rest [10]) = (r == [] || Lib.hasSuffix r [10]) := by
        have e1 : (rest == []) = false := beq_eq_false_iff_ne.2 hne
        rw [e1, Bool.false_or]
        by_cases hr : r = []
        · rw [hs, hr]
          have := (suffix_app [10] a).1
          simpa using this
        · have e2 : (r == []) = false := beq_eq_false_iff_ne.2 hr
          rw [e2, Bool.false_or, hs]
          obtain ⟨r1, z, rfl⟩ := snoc_cases r hr
          have k1 : ∀ (u : List UInt8) (z : UInt8), Lib.hasSuffix (u ++ [z]) [10] = (z == 10) := by
            intro u z
            cases hz : (z == 10) with
            | true => rw [beq_iff_eq.1 hz]; exact (suffix_app [10] u).1
            | false =>
              cases hx : Lib.hasSuffix (u ++ [z]) [10] with
              | false => rfl
              | true =>
                have h1 := suffix_true hx
                have := (List.append_inj' h1 rfl).2
                injection this with this _
                rw [this] at hz
                cases hz
          rw [show a ++ ([10] ++ (r1 ++ [z])) = (a ++ ([10] ++ r1)) ++ [z] by simp, k1, k1]
      rw [hsuf]
      cases he : edgeD names a with
      | none =>
        simp only
        split <;> rfl
      | some e =>
        simp only
        by_cases h2 : acc.length = 262144
        · rw [if_pos (by omega), if_pos h2]
          split <;> rfl
        · rw [if_neg (by omega), if_neg h2, bodyF_eq names hn hl f r (acc ++ [e]) hlen (by rw [List.length_append]; simp; omega)]
    · rw [cut_none hm]
      simp only
      rw [if_neg (by decide)]
      by_cases hr : rest = []
      · rw [if_pos hr, if_pos hr, hr]
        rfl
      · rw [if_neg hr]
        have e1 : (rest == []) = false := beq_eq_false_iff_ne.2 hr
        have e2 : Lib.hasSuffix rest [10] = false := by
          cases hx : Lib.hasSuffix rest [10] with
          | false => rfl
          | true => exact absurd (by rw [suffix_true hx]; simp) hm
        rw [e1, e2]
        rfl
/-- What the reference's Read answers. -/
def readF (names : List (List UInt8)) (s : List UInt8) : List Ed × Int :=
  if wrongR names = 0 then
    (if (Lib.hasPrefix s hd && Lib.hasSuffix (Lib.trimPrefix s hd) tl) = true then
      match bodyF names (s.length + 1) (Lib.trimSuffix (Lib.trimPrefix s hd) tl) [] with
      | none => ([], 230)
      | some l => (l, 0)
    else ([], 230))
  else ([], wrongR names)
theorem readF_eq (names : List (List UInt8)) (s : List UInt8) : readF names s = readR names s := by
  unfold readF readR
  by_cases hw : wrongR names = 0
  · obtain ⟨hn, hl⟩ := wrongR_zero hw
    rw [if_pos hw, if_pos hw]
    by_cases h1 : (Lib.hasPrefix s hd && Lib.hasSuffix (Lib.trimPrefix s hd) tl) = true
    · rw [if_pos h1, h1, Bool.true_and]
      have hlen : (Lib.trimSuffix (Lib.trimPrefix s hd) tl).length < s.length + 1 := by
        have k1 : ∀ a b : List UInt8, (Lib.trimSuffix a b).length ≤ a.length := fun a b => by unfold Lib.trimSuffix; split <;> simp
        have k2 : ∀ a b : List UInt8, (Lib.trimPrefix a b).length ≤ a.length := fun a b => by unfold Lib.trimPrefix; split <;> simp
        have := k1 (Lib.trimPrefix s hd) tl
        have := k2 s hd
        omega
      rw [bodyF_eq names hn hl _ _ [] hlen (by simp)]
      cases (Lib.trimSuffix (Lib.trimPrefix s hd) tl == [] || Lib.hasSuffix (Lib.trimSuffix (Lib.trimPrefix s hd) tl) [10]) <;> rfl
    · rw [if_neg h1]
      have : (Lib.hasPrefix s hd && Lib.hasSuffix (Lib.trimPrefix s hd) tl) = false := by simpa using h1
      rw [this, Bool.false_and]
      rfl
  · rw [if_neg hw, if_neg hw]
end Go.Proofs.YtohlbnbfpcbpdaaDoor.Dt
