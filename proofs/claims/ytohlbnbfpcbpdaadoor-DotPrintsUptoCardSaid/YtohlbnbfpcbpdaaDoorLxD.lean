/- lex: what its functions come to, in plain Lean. -/
import Derived.Lib.ParseIntB
import Derived.Lib.IndexLaws
import Derived.Lib.ItoaLen
set_option linter.unusedVariables false
set_option linter.unusedSimpArgs false
namespace Go.Proofs.YtohlbnbfpcbpdaaDoor.Lx
open Go

def isBlank (c : UInt8) : Bool := c == 32 || c == 9 || c == 13
def isDigit (c : UInt8) : Bool := decide (48 ≤ c.toNat) && decide (c.toNat ≤ 57)
def isLow (c : UInt8) : Bool := decide (97 ≤ c.toNat) && decide (c.toNat ≤ 122)
def wTrue : List UInt8 := [116, 114, 117, 101]
def wFalse : List UInt8 := [102, 97, 108, 115, 101]
def wNull : List UInt8 := [110, 117, 108, 108]
def isWord (t : List UInt8) : Bool := t == wTrue || t == wFalse || t == wNull
def badNum (neg : Bool) (ds : List UInt8) : Bool := (ds != [48] && [48].isPrefixOf ds) || (ds == [48] && neg)
def numR (neg : Bool) (ds : List UInt8) : Option Int := match Lib.parseIntB 64 ((if neg then [45] else []) ++ ds) with
  | .ok v => if badNum neg ds then none else some v
  | _ => none
def hexD (n : Nat) : Option Nat := if 48 ≤ n ∧ n ≤ 57 then some (n - 48) else if 97 ≤ (n ||| 32) ∧ (n ||| 32) ≤ 102 then some ((n ||| 32) - 87) else none
def hexN : Nat → List UInt8 → Option Nat
  | acc, [] => some acc
  | acc, c :: r => match hexD c.toNat with
    | none => none
    | some d => hexN (acc * 16 + d) r
/-- The bytes of a rune below 65536. -/
def runeB (n : Nat) : List UInt8 := if n < 128 then [UInt8.ofNat n] else if n < 2048 then [UInt8.ofNat (192 + n / 64), UInt8.ofNat (128 + n % 64)] else [UInt8.ofNat (224 + n / 4096), UInt8.ofNat (128 + n / 64 % 64), UInt8.ofNat (128 + n % 64)]
def escTab : List UInt8 := [34, 92, 47, 98, 102, 110, 114, 116]
def escOut : List UInt8 := [34, 92, 47, 8, 12, 10, 13, 9]
/-- What an escape stands for, and the place behind it. -/
def escR (l : List UInt8) (at' : Nat) : Option (List UInt8 × Nat) :=
  match l[at']? with
  | none => none
  | some c => if 0 ≤ Lib.indexByte escTab c then some ([escOut.getD (Lib.indexByte escTab c).toNat 0], at' + 1) else
    if c ≠ 117 ∨ l.length < at' + 5 then none else
    match hexN 0 ((l.drop (at' + 1)).take 4) with
    | none => none
    | some n => if 55296 ≤ n ∧ n ≤ 57343 then none else some (runeB n, at' + 5)
/-- A text in quotes from behind its first quote on: what it stands for, and the place behind it. -/
def textR (l : List UInt8) : Nat → Nat → List UInt8 → Option (List UInt8 × Nat)
  | 0, _, _ => none
  | f + 1, at', acc => match l[at']? with
    | none => none
    | some c => if c = 34 then some (acc, at' + 1) else if c.toNat < 32 then none else if c = 92 then
        match escR l (at' + 1) with
        | none => none
        | some (o, a2) => textR l f a2 (acc ++ o)
      else textR l f (at' + 1) (acc ++ [c])
/-- A token. -/
structure Tk where
  kind : Nat
  text : List UInt8
  num : Int
  pos : Nat
def singles : List UInt8 := [123, 125, 91, 93, 58, 44]
/-- The token at a place where one begins, and the place behind it. -/
def nextR (l : List UInt8) (at' : Nat) : Option (Tk × Nat) :=
  match l[at']? with
  | none => none
  | some c => if 0 ≤ Lib.indexByte singles c then some (⟨(Lib.indexByte singles c).toNat + 1, [], 0, at'⟩, at' + 1)
    else if c = 10 then some (⟨10, [], 0, at'⟩, at' + 1)
    else if c = 34 then (textR l (l.length + 1) (at' + 1) []).map fun x => (⟨7, x.1, 0, at'⟩, x.2)
    else if c = 45 then (numR true ((l.drop (at' + 1)).takeWhile isDigit)).map fun v => (⟨8, [], v, at'⟩, at' + 1 + ((l.drop (at' + 1)).takeWhile isDigit).length)
    else if isDigit c = true then (numR false ((l.drop at').takeWhile isDigit)).map fun v => (⟨8, [], v, at'⟩, at' + ((l.drop at').takeWhile isDigit).length)
    else if isWord ((l.drop at').takeWhile isLow) = true then some (⟨9, (l.drop at').takeWhile isLow, 0, at'⟩, at' + ((l.drop at').takeWhile isLow).length) else none
/-- The tokens from a place on, behind those that there are; or the place where there is none. -/
def toksR (l : List UInt8) : Nat → Nat → List Tk → List Tk ⊕ Nat
  | 0, at', _ => .inr at'
  | f + 1, at', acc => if at' + ((l.drop at').takeWhile isBlank).length = l.length then .inl acc else
    match nextR l (at' + ((l.drop at').takeWhile isBlank).length) with
    | none => .inr (at' + ((l.drop at').takeWhile isBlank).length)
    | some (t, a2) => toksR l f a2 (acc ++ [t])
/-- Tokens: the tokens, the fault's code and place. -/
def tokensR (l : List UInt8) : List Tk × Nat × Nat :=
  if 65536 < l.length then ([], 2, 0) else
  match toksR l (l.length + 1) 0 [] with
  | .inl ts => (ts, 0, 0)
  | .inr a => ([], 10, a)
def hexC (n : Nat) : UInt8 := [48, 49, 50, 51, 52, 53, 54, 55, 56, 57, 97, 98, 99, 100, 101, 102].getD n 0
/-- A byte of a text in quotes. -/
def quoteB (c : UInt8) : List UInt8 := if c = 34 ∨ c = 92 then [92, c] else if c = 10 then [92, 110] else if c = 9 then [92, 116] else
  if c.toNat < 32 then [92, 117, 48, 48, hexC (c.toNat / 16), hexC (c.toNat % 16)] else [c]
def quoteR (l : List UInt8) : List UInt8 := 34 :: (l.flatMap quoteB ++ [34])
end Go.Proofs.YtohlbnbfpcbpdaaDoor.Lx
/- lex: numerals, in plain Lean: what is parsed is what is formatted, and back. -/
namespace Go.Proofs.YtohlbnbfpcbpdaaDoor.Lx
open Go

/-- What digits spell. -/
def dval (acc : Nat) (l : List UInt8) : Nat := l.foldl (fun a c => a * 10 + (c.toNat - 48)) acc
theorem dval_nil (acc : Nat) : dval acc [] = acc := by
  unfold dval
  rw [List.foldl_nil]
theorem dval_cons (acc : Nat) (c : UInt8) (r : List UInt8) : dval acc (c :: r) = dval (acc * 10 + (c.toNat - 48)) r := by
  unfold dval
  rw [List.foldl_cons]
theorem isDigit_iff (c : UInt8) : isDigit c = true ↔ 48 ≤ c.toNat ∧ c.toNat ≤ 57 := by unfold isDigit; simp
theorem dval_snoc (l : List UInt8) (c : UInt8) : ∀ acc, dval acc (l ++ [c]) = dval acc l * 10 + (c.toNat - 48) := by
  induction l with
  | nil => intro acc; rw [List.nil_append, dval_cons, dval_nil, dval_nil]
  | cons a l ih => intro acc; rw [List.cons_append, dval_cons, dval_cons, ih]
theorem dval_ge (l : List UInt8) : ∀ acc, acc ≤ dval acc l := by
  induction l with
  | nil => intro acc; rw [dval_nil]; exact Nat.le_refl _
  | cons a l ih => intro acc; have := ih (acc * 10 + (a.toNat - 48)); rw [dval_cons]; omega
/-- A number at M or below is told; one above is out of range. -/
theorem parseUintM_digits (M : Nat) (hM : M ≤ 18446744073709551615) : ∀ (l : List UInt8) (acc : Nat), (∀ c ∈ l, isDigit c = true) → acc ≤ M → Lib.parseUintM M acc l = if dval acc l ≤ M then .ok (dval acc l) else .range
  | [], acc, _, ha => by unfold Lib.parseUintM; rw [dval_nil, if_pos ha]
  | c :: r, acc, hd, ha => by
    have hc := (isDigit_iff c).1 (hd c (by simp))
    unfold Lib.parseUintM
    rw [if_pos hc, dval_cons]
    have hge := dval_ge r (acc * 10 + (c.toNat - 48))
    by_cases h1 : 1844674407370955162 ≤ acc
    · rw [if_pos h1, if_neg (by omega)]
    · rw [if_neg h1]
      by_cases h2 : M < acc * 10 + (c.toNat - 48)
      · rw [if_pos h2, if_neg (by omega)]
      · rw [if_neg h2]
        exact parseUintM_digits M hM r _ (fun x hx => hd x (by simp [hx])) (by omega)
theorem parseIntB_digits (neg : Bool) (ds : List UInt8) (hd : ∀ c ∈ ds, isDigit c = true) (hne : ds ≠ []) :
    Lib.parseIntB 64 ((if neg then [45] else []) ++ ds) = if neg = true then (if dval 0 ds ≤ 9223372036854775808 then .ok (-(dval 0 ds : Int)) else .range) else if dval 0 ds < 9223372036854775808 then .ok (dval 0 ds : Int) else .range := by
  have key : Lib.parseUintB 64 ds = if dval 0 ds ≤ 18446744073709551615 then .ok (dval 0 ds) else .range := by
    unfold Lib.parseUintB
    rw [if_neg hne]
    exact parseUintM_digits _ (by decide) ds 0 hd (by decide)
  cases neg with
  | true =>
    have e : (if true = true then [45] else []) ++ ds = (45 : UInt8) :: ds := rfl
    rw [e]
    unfold Lib.parseIntB
    simp only []
    rw [if_pos (Or.inr (by decide)), key]
    by_cases h : dval 0 ds ≤ 18446744073709551615
    · rw [if_pos h]
      simp only []
      rw [if_neg (fun hh => hh.1 (by decide))]
      by_cases h2 : dval 0 ds ≤ 9223372036854775808
      · rw [if_neg (fun hh => by have := hh.2; simp at this; omega), if_pos (by decide)]
        simp [h2]
      · rw [if_pos ⟨by decide, by simp; omega⟩]
        simp [h2]
    · rw [if_neg h]
      have h2 : ¬ dval 0 ds ≤ 9223372036854775808 := by omega
      simp [h2]
  | false =>
    have e : (if false = true then [45] else []) ++ ds = ds := rfl
    rw [e]
    cases ds with
    | nil => exact absurd rfl hne
    | cons c r =>
      have hc := (isDigit_iff c).1 (hd c (by simp))
      unfold Lib.parseIntB
      simp only []
      rw [if_neg (by omega), key]
      by_cases h : dval 0 (c :: r) ≤ 18446744073709551615
      · rw [if_pos h]
        simp only []
        by_cases h2 : dval 0 (c :: r) < 9223372036854775808
        · rw [if_neg (fun hh => by have := hh.2; simp at this; omega), if_neg (fun hh => by omega), if_neg (by omega)]
          simp [h2]
        · rw [if_pos ⟨by omega, by simp; omega⟩]
          simp [h2]
      · rw [if_neg h]
        have h2 : ¬ dval 0 (c :: r) < 9223372036854775808 := by omega
        simp [h2]
theorem parseIntB_sign (neg : Bool) : Lib.parseIntB 64 ((if neg then [45] else []) ++ []) = Lib.parseIntB 64 [] := by cases neg <;> decide
theorem snoc_cases {α : Type} (l : List α) (h : l ≠ []) : ∃ r c, l = r ++ [c] := ⟨l.dropLast, l.getLast h, (List.dropLast_concat_getLast h).symm⟩
/-- Digits without a nought ahead are the numeral of what they spell. -/
theorem decDigits_dval : ∀ (n : Nat) (ds : List UInt8), ds.length = n → (∀ c ∈ ds, isDigit c = true) → ds ≠ [] → (ds.head? = some 48 → ds = [48]) → Lib.decDigits (dval 0 ds) = ds
  | 0, ds, hn, _, hne, _ => absurd (List.length_eq_zero_iff.1 hn) hne
  | n + 1, ds, hn, hd, hne, hz => by
    obtain ⟨r, c, rfl⟩ := snoc_cases ds hne
    have hc := (isDigit_iff c).1 (hd c (by simp))
    have hb10 : c.toNat - 48 < 10 := by omega
    have hb48 : 48 + (c.toNat - 48) = c.toNat := by omega
    rw [dval_snoc]
    by_cases hr : r = []
    · subst hr
      have e : dval 0 [] * 10 + (c.toNat - 48) = c.toNat - 48 := by rw [dval_nil, Nat.zero_mul, Nat.zero_add]
      rw [e, Lib.decDigits, dif_pos hb10, hb48]
      simp
    · have hlr : r.length = n := by simpa using hn
      have hdr : ∀ x ∈ r, isDigit x = true := fun x hx => hd x (by simp [hx])
      have hzr : r.head? = some 48 → r = [48] := fun h => by
        have := hz (by cases r with | nil => exact absurd rfl hr | cons a r => simpa using h)
        have : (r ++ [c]).length = 1 := by rw [this]; rfl
        simp at this
        exact absurd this hr
      have ih := decDigits_dval n r hlr hdr hr hzr
      have hpos : 0 < dval 0 r := by
        rcases Nat.eq_zero_or_pos (dval 0 r) with h0 | h0
        · rw [h0] at ih
          have hr48 : r = [48] := by rw [← ih, Lib.decDigits, dif_pos (by decide)]; rfl
          have := hz (by rw [hr48]; rfl)
          rw [hr48] at this
          simp at this
        · exact h0
      rw [Lib.decDigits, dif_neg (by omega)]
      rw [show (dval 0 r * 10 + (c.toNat - 48)) / 10 = dval 0 r by omega, show 48 + (dval 0 r * 10 + (c.toNat - 48)) % 10 = c.toNat by omega, ih]
      simp
/-- What is formatted spells the number. -/
theorem decDigits_facts : ∀ u : Nat, dval 0 (Lib.decDigits u) = u ∧ (∀ c ∈ Lib.decDigits u, isDigit c = true) ∧ Lib.decDigits u ≠ [] ∧ ((Lib.decDigits u).head? = some 48 → u = 0) := by
  intro u
  induction u using Nat.strongRecOn with
  | _ u ih =>
    have hof : ∀ d, d < 10 → (UInt8.ofNat (48 + d)).toNat = 48 + d := fun d hd => by
      rw [UInt8.toNat_ofNat']
      omega
    by_cases h : u < 10
    · rw [Lib.decDigits, dif_pos h]
      refine ⟨?_, ?_, by simp, ?_⟩
      · rw [dval_cons, dval_nil, hof u h, Nat.zero_mul, Nat.zero_add]
        omega
      · intro c hc
        simp only [List.mem_cons, List.not_mem_nil, or_false] at hc
        subst hc
        rw [isDigit_iff, hof u h]
        omega
      · intro hh
        simp only [List.head?_cons, Option.some.injEq] at hh
        have := congrArg UInt8.toNat hh
        rw [hof u h] at this
        have h48 : (48 : UInt8).toNat = 48 := rfl
        omega
    · obtain ⟨h1, h2, h3, h4⟩ := ih (u / 10) (by omega)
      rw [Lib.decDigits, dif_neg h]
      refine ⟨?_, ?_, by simp, ?_⟩
      · rw [dval_snoc, h1, hof _ (by omega)]
        omega
      · intro c hc
        rcases List.mem_append.1 hc with hc | hc
        · exact h2 c hc
        · simp only [List.mem_cons, List.not_mem_nil, or_false] at hc
          subst hc
          rw [isDigit_iff, hof _ (by omega)]
          omega
      · intro hh
        have hh' : (Lib.decDigits (u / 10)).head? = some 48 := by
          cases hx : Lib.decDigits (u / 10) with
          | nil => exact absurd hx h3
          | cons a r => rw [hx] at hh; simpa using hh
        have := h4 hh'
        omega
theorem decDigits_len1 {u : Nat} (h : (Lib.decDigits u).head? = some 48) : Lib.decDigits u = [48] := by
  rw [(decDigits_facts u).2.2.2 h, Lib.decDigits, dif_pos (by decide)]
  rfl
theorem badNum_iff (neg : Bool) (d : UInt8) (r : List UInt8) : badNum neg (d :: r) = true ↔ d = 48 ∧ (r ≠ [] ∨ neg = true) := by
  unfold badNum
  simp only [Bool.or_eq_true, Bool.and_eq_true, bne_iff_ne, beq_iff_eq, List.isPrefixOf, Bool.and_true, ne_eq]
  constructor
  · rintro (⟨h1, h2⟩ | ⟨h1, h2⟩)
    · have : d = 48 := h2.symm
      exact ⟨this, .inl (fun h => h1 (by rw [this, h]))⟩
    · injection h1 with h1 h3
      exact ⟨h1, .inr h2⟩
  · rintro ⟨h1, h2⟩
    by_cases hr : r = []
    · exact .inr ⟨by rw [h1, hr], h2.resolve_left (fun h => h hr)⟩
    · exact .inl ⟨fun h => by injection h with _ h; exact hr h, h1.symm⟩
/-- A number's digits. -/
theorem numR_eq (neg : Bool) (ds : List UInt8) (hd : ∀ c ∈ ds, isDigit c = true) :
    numR neg ds = if ds = [] ∨ badNum neg ds = true then none else if neg = true then (if dval 0 ds ≤ 9223372036854775808 then some (-(dval 0 ds : Int)) else none) else if dval 0 ds < 9223372036854775808 then some (dval 0 ds : Int) else none := by
  unfold numR
  by_cases h : ds = []
  · subst h
    rw [parseIntB_sign, if_pos (Or.inl rfl)]
    rfl
  · rw [parseIntB_digits neg ds hd h]
    cases neg with
    | true =>
      rw [if_pos rfl, if_pos rfl]
      by_cases h2 : dval 0 ds ≤ 9223372036854775808
      · rw [if_pos h2, if_pos h2]
        by_cases hb : badNum true ds = true
        · rw [if_pos (Or.inr hb)]
          exact if_pos hb
        · rw [if_neg (fun hh => Or.elim hh h hb)]
          exact if_neg hb
      · rw [if_neg h2, if_neg h2]
        simp
    | false =>
      rw [if_neg (show ¬ (false = true) by decide), if_neg (show ¬ (false = true) by decide)]
      by_cases h2 : dval 0 ds < 9223372036854775808
      · rw [if_pos h2, if_pos h2]
        by_cases hb : badNum false ds = true
        · rw [if_pos (Or.inr hb)]
          exact if_pos hb
        · rw [if_neg (fun hh => Or.elim hh h hb)]
          exact if_neg hb
      · rw [if_neg h2, if_neg h2]
        simp
theorem no_syn (neg : Bool) (ds : List UInt8) (hd : ∀ c ∈ ds, isDigit c = true) (hne : ds ≠ []) : Lib.parseIntB 64 ((if neg then [45] else []) ++ ds) ≠ Lib.parseIntB 64 [] := by
  rw [parseIntB_digits neg ds hd hne]
  have h1 : ∀ v, Lib.NumEnd.ok v ≠ Lib.parseIntB 64 [] := fun v => by simp [Lib.parseIntB]
  have h2 : Lib.NumEnd.range ≠ Lib.parseIntB 64 [] := by simp [Lib.parseIntB]
  (repeat' split) <;> first | exact h1 _ | exact h2
theorem head48 {d : UInt8} {r : List UInt8} (h : badNum false (d :: r) = false) : (d :: r).head? = some 48 → d :: r = [48] := fun hh => by
  have hd : d = 48 := by simpa using hh
  by_cases hr : r = []
  · rw [hd, hr]
  · have := (badNum_iff false d r).2 ⟨hd, .inl hr⟩
    rw [h] at this
    cases this
theorem bad_mono {ds : List UInt8} (neg : Bool) (h : badNum neg ds = false) : badNum false ds = false := by
  unfold badNum at *
  cases neg <;> simp_all
/-- A good numeral in range: what is parsed is formatted back. -/
theorem canon_ok (neg : Bool) (ds : List UInt8) (hd : ∀ c ∈ ds, isDigit c = true) (hne : ds ≠ []) (hb : badNum neg ds = false) (v : Int) (h : Lib.parseIntB 64 ((if neg then [45] else []) ++ ds) = .ok v) :
    Lib.itoa v = (if neg then [45] else []) ++ ds ∧ numR neg ds = some v ∧ -9223372036854775808 ≤ v ∧ v ≤ 9223372036854775807 := by
  obtain ⟨d, r, rfl⟩ : ∃ d r, ds = d :: r := by cases ds with | nil => exact absurd rfl hne | cons d r => exact ⟨d, r, rfl⟩
  have hdd := decDigits_dval _ (d :: r) rfl hd hne (head48 (bad_mono neg hb))
  have hn := numR_eq neg (d :: r) hd
  rw [if_neg (fun hh => Or.elim hh hne (fun hh => by rw [hb] at hh; cases hh))] at hn
  rw [parseIntB_digits neg _ hd hne] at h
  cases neg with
  | true =>
    rw [if_pos rfl] at h hn
    by_cases h2 : dval 0 (d :: r) ≤ 9223372036854775808
    · rw [if_pos h2] at h hn
      cases h
      have hpos : 0 < dval 0 (d :: r) := by
        rcases Nat.eq_zero_or_pos (dval 0 (d :: r)) with h0 | h0
        · rw [h0] at hdd
          rw [Lib.decDigits, dif_pos (by decide)] at hdd
          have hdr : d = 48 := by injection hdd with h1 _; exact h1.symm
          have := (badNum_iff true d r).2 ⟨hdr, .inr rfl⟩
          rw [hb] at this
          cases this
        · exact h0
      refine ⟨?_, hn, by omega, by omega⟩
      unfold Lib.itoa
      rw [if_pos (by omega), Int.natAbs_neg, Int.natAbs_natCast, hdd]
      rfl
    · rw [if_neg h2] at h
      cases h
  | false =>
    rw [if_neg (show ¬ (false = true) by decide)] at h hn
    by_cases h2 : dval 0 (d :: r) < 9223372036854775808
    · rw [if_pos h2] at h hn
      cases h
      refine ⟨?_, hn, by omega, by omega⟩
      unfold Lib.itoa
      rw [if_neg (by omega), Int.toNat_natCast, hdd]
      rfl
    · rw [if_neg h2] at h
      cases h
theorem itoa_neg {u : Nat} (hu : 0 < u) : Lib.itoa (-(u : Int)) = 45 :: Lib.decDigits u := by
  unfold Lib.itoa
  rw [if_pos (by omega), Int.natAbs_neg, Int.natAbs_natCast]
theorem itoa_nat (u : Nat) : Lib.itoa (u : Int) = Lib.decDigits u := by
  unfold Lib.itoa
  rw [if_neg (by omega), Int.toNat_natCast]
/-- A numeral out of range is none that is formatted. -/
theorem canon_range (neg : Bool) (ds : List UInt8) (hd : ∀ c ∈ ds, isDigit c = true) (hne : ds ≠ []) (h : Lib.parseIntB 64 ((if neg then [45] else []) ++ ds) = .range) :
    Lib.itoa (Lib.intSat 64 ((if neg then [45] else []) ++ ds)) ≠ (if neg then [45] else []) ++ ds ∧ numR neg ds = none ∧ -9223372036854775808 ≤ Lib.intSat 64 ((if neg then [45] else []) ++ ds) ∧ Lib.intSat 64 ((if neg then [45] else []) ++ ds) ≤ 9223372036854775807 := by
  have hnum : numR neg ds = none := by unfold numR; rw [h]
  rw [parseIntB_digits neg _ hd hne] at h
  cases neg with
  | true =>
    have hs : Lib.intSat 64 ((if true = true then [45] else []) ++ ds) = -((9223372036854775808 : Nat) : Int) := by
      unfold Lib.intSat
      rw [if_pos (by simp)]
    rw [hs]
    refine ⟨fun he => ?_, hnum, by decide, by decide⟩
    rw [itoa_neg (by decide)] at he
    have hds : Lib.decDigits 9223372036854775808 = ds := by simpa using he
    have := (decDigits_facts 9223372036854775808).1
    rw [hds] at this
    rw [if_pos rfl, if_pos (by omega)] at h
    cases h
  | false =>
    have hs : Lib.intSat 64 ((if false = true then [45] else []) ++ ds) = ((9223372036854775807 : Nat) : Int) := by
      unfold Lib.intSat
      have hno : ¬ ((if false = true then ([45] : List UInt8) else []) ++ ds).head?.map (·.toNat) = some 45 := by
        cases ds with
        | nil => simp
        | cons c r =>
          have hc := (isDigit_iff c).1 (hd c (by simp))
          simp
          omega
      rw [if_neg hno]
    rw [hs]
    refine ⟨fun he => ?_, hnum, by decide, by decide⟩
    rw [itoa_nat] at he
    have hds : Lib.decDigits 9223372036854775807 = ds := by simpa using he
    have := (decDigits_facts 9223372036854775807).1
    rw [hds] at this
    rw [if_neg (show ¬ (false = true) by decide), if_pos (by omega)] at h
    cases h
end Go.Proofs.YtohlbnbfpcbpdaaDoor.Lx
