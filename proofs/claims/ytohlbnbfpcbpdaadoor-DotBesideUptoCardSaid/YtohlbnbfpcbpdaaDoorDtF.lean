/- dot: the reference's reading, in plain Lean: it is the program's. -/
import Derived.Test.YtohlbnbfpcbpdaaDoorDtP
set_option linter.unusedVariables false
set_option linter.unusedSimpArgs false
namespace Go.Proofs.YtohlbnbfpcbpdaaDoor.Dt
open Go Go.Proofs.YtohlbnbfpcbpdaaDoor.Lx

/-- The number that begins at a place, two digits at most, and the place behind it. -/
def numF (l : List UInt8) (i : Nat) : Int × Nat :=
  if isDigit (l.getD i 0) = true then
    (if isDigit (l.getD (i + 1) 0) = true then (10 * (((l.getD i 0).toNat : Int) - 48) + (((l.getD (i + 1) 0).toNat : Int) - 48), i + 2) else (((l.getD i 0).toNat : Int) - 48, i + 1))
  else (0, i)
/-- The kinds and keys that are tried, in their order. -/
def candF (n : Nat) : List (Int × Int) := [1, 2, 4, 8, 16].flatMap fun k => (List.range (n + 1)).map fun j : Nat => (k, (j : Int) - 1)
def edgeF (names : List (List UInt8)) (s : List UInt8) : Option Ed :=
  if s.length < 3 then none else
  ((candF names.length).find? fun c => decide (lineR names ⟨(numF s 3).1, (numF s ((numF s 3).2 + 5)).1, c.1, c.2⟩ = some s)).map fun c => ⟨(numF s 3).1, (numF s ((numF s 3).2 + 5)).1, c.1, c.2⟩
theorem numF_small' : ∀ n : Nat, n < 64 → (Lib.itoa (n : Int) = [UInt8.ofNat (48 + n)] ∧ n < 10) ∨ (Lib.itoa (n : Int) = [UInt8.ofNat (48 + n / 10), UInt8.ofNat (48 + n % 10)]) := by decide +kernel
theorem getD_pre (a b : List UInt8) (i : Nat) : (a ++ b).getD (a.length + i) 0 = b.getD i 0 := by
  rw [List.getD_eq_getElem?_getD, List.getD_eq_getElem?_getD, List.getElem?_append_right (by omega)]
  congr 2
  omega
theorem numF_itoa (a : List UInt8) (n : Int) (h0 : 0 ≤ n) (h1 : n < 64) (c : UInt8) (r : List UInt8) (hc : isDigit c = false) : numF (a ++ (Lib.itoa n ++ c :: r)) a.length = (n, a.length + (Lib.itoa n).length) := by
  obtain ⟨m, rfl⟩ := Int.eq_ofNat_of_zero_le h0
  have hm : m < 64 := by omega
  have hof : ∀ d, d < 10 → (UInt8.ofNat (48 + d)).toNat = 48 + d := fun d hd => by
    rw [UInt8.toNat_ofNat']
    omega
  have hdg : ∀ d, d < 10 → isDigit (UInt8.ofNat (48 + d)) = true := fun d hd => by
    rw [isDigit_iff, hof d hd]
    omega
  have e0 := getD_pre a (Lib.itoa (m : Int) ++ c :: r) 0
  have e1 := getD_pre a (Lib.itoa (m : Int) ++ c :: r) 1
  rw [Nat.add_zero] at e0
  unfold numF
  rw [e0, e1]
  rcases numF_small' m hm with ⟨h, hlt⟩ | h
  · rw [h]
    have g0 : ([UInt8.ofNat (48 + m)] ++ c :: r).getD 0 0 = UInt8.ofNat (48 + m) := rfl
    have g1 : ([UInt8.ofNat (48 + m)] ++ c :: r).getD 1 0 = c := rfl
    rw [g0, g1, if_pos (hdg m hlt), if_neg (by rw [hc]; decide), hof m hlt]
    simp
    omega
  · rw [h]
    have g0 : ([UInt8.ofNat (48 + m / 10), UInt8.ofNat (48 + m % 10)] ++ c :: r).getD 0 0 = UInt8.ofNat (48 + m / 10) := rfl
    have g1 : ([UInt8.ofNat (48 + m / 10), UInt8.ofNat (48 + m % 10)] ++ c :: r).getD 1 0 = UInt8.ofNat (48 + m % 10) := rfl
    rw [g0, g1, if_pos (hdg _ (by omega)), if_pos (hdg _ (by omega)), hof _ (by omega), hof _ (by omega)]
    simp
    omega
theorem lineR_some {names : List (List UInt8)} {e : Ed} {s : List UInt8} (h : lineR names e = some s) : ∃ b, bitOf e.k = some b ∧ fairE names e ∧ s = lineX names e b ++ [10] := by
  unfold lineR at h
  split at h
  · cases h
  · rename_i b hb
    split at h
    · rename_i hf
      cases h
      exact ⟨b, hb, hf, rfl⟩
    · cases h
theorem lineR_of {names : List (List UInt8)} {e : Ed} {b : Nat} (hb : bitOf e.k = some b) (hf : fairE names e) : lineR names e = some (lineX names e b ++ [10]) := by
  unfold lineR
  rw [hb]
  simp only
  rw [if_pos hf]
theorem edgeF_iff (names : List (List UInt8)) (hn : names.Nodup) (hl : ∀ n ∈ names, n.length ≤ 32) (s : List UInt8) (e : Ed) : edgeF names s = some e ↔ lineR names e = some s := by
  unfold edgeF
  constructor
  · intro h
    split at h
    · cases h
    · obtain ⟨c, hc, rfl⟩ := Option.map_eq_some_iff.1 h
      have := List.find?_some hc
      simpa using this
  · intro h
    obtain ⟨b, hb, hf, rfl⟩ := lineR_some h
    have hf' := hf
    obtain ⟨h1, h2, h3, h4, h5, h6⟩ := hf'
    have hlen : ¬ (lineX names e b ++ [10]).length < 3 := by
      unfold lineX p1
      simp only [List.length_append, List.length_cons]
      omega
    have n1 : numF (lineX names e b ++ [10]) 3 = (e.f, 3 + (Lib.itoa e.f).length) := by
      have := numF_itoa p1 e.f h1 h2 32 ([45, 62, 32, 116] ++ (Lib.itoa e.t ++ (p3 ++ (quoteR (labR names b e.y) ++ p4))) ++ [10]) (by decide)
      have e1 : p1 ++ (Lib.itoa e.f ++ 32 :: ([45, 62, 32, 116] ++ (Lib.itoa e.t ++ (p3 ++ (quoteR (labR names b e.y) ++ p4))) ++ [10])) = lineX names e b ++ [10] := by
        unfold lineX p2
        simp
      rw [e1] at this
      exact this
    have n2 : numF (lineX names e b ++ [10]) (3 + (Lib.itoa e.f).length + 5) = (e.t, (p1 ++ Lib.itoa e.f ++ p2).length + (Lib.itoa e.t).length) := by
      have := numF_itoa (p1 ++ Lib.itoa e.f ++ p2) e.t h3 h4 32 ([91, 108, 97, 98, 101, 108, 61] ++ (quoteR (labR names b e.y) ++ p4) ++ [10]) (by decide)
      have e1 : (p1 ++ Lib.itoa e.f ++ p2) ++ (Lib.itoa e.t ++ 32 :: ([91, 108, 97, 98, 101, 108, 61] ++ (quoteR (labR names b e.y) ++ p4) ++ [10])) = lineX names e b ++ [10] := by
        unfold lineX p3
        simp
      have e2 : (p1 ++ Lib.itoa e.f ++ p2).length = 3 + (Lib.itoa e.f).length + 5 := by
        simp only [List.length_append]
        rfl
      rw [e1] at this
      rw [← e2]
      exact this
    rw [if_neg hlen, n1]
    simp only
    rw [n2]
    simp only
    cases hx : (candF names.length).find? (fun c => decide (lineR names ⟨e.f, e.t, c.1, c.2⟩ = some (lineX names e b ++ [10]))) with
    | none =>
      exfalso
      have := List.find?_eq_none.1 hx (e.k, e.y) (by
        unfold candF
        obtain ⟨hk, hb5⟩ := bitOf_some hb
        refine List.mem_flatMap.2 ⟨e.k, ?_, List.mem_map.2 ⟨(e.y + 1).toNat, by simp; omega, ?_⟩⟩
        · rw [hk]
          have hc : b = 0 ∨ b = 1 ∨ b = 2 ∨ b = 3 ∨ b = 4 := by omega
          rcases hc with rfl | rfl | rfl | rfl | rfl <;> decide
        · simp only [Prod.mk.injEq, true_and]
          omega)
      exact this (by simp [h])
    | some c =>
      have h2 := List.find?_some hx
      have h3 : lineR names ⟨e.f, e.t, c.1, c.2⟩ = some (lineX names e b ++ [10]) := by simpa using h2
      obtain ⟨b', hb', hf', he'⟩ := lineR_some h3
      have := lineX_inj hn hl hb hb' hf hf' (List.append_cancel_right he')
      rw [Option.map_some, this]
theorem edgeF_eq (names : List (List UInt8)) (hn : names.Nodup) (hl : ∀ n ∈ names, n.length ≤ 32) (x : List UInt8) : edgeF names (x ++ [10]) = edgeD names x := by
  apply Option.ext
  intro e
  constructor
  · intro h
    obtain ⟨b, hb, hf, he⟩ := lineR_some ((edgeF_iff names hn hl _ e).1 h)
    exact (edgeD_iff names hn hl x e).2 ⟨b, hb, hf, List.append_cancel_right he⟩
  · intro h
    obtain ⟨b, hb, hf, rfl⟩ := (edgeD_iff names hn hl x e).1 h
    exact (edgeF_iff names hn hl _ e).2 (lineR_of hb hf)
/-! ### The reference's Read -/
def bodyF (names : List (List UInt8)) : Nat → List UInt8 → List Ed → Option (List Ed)
  | 0, _, _ => none
  | f + 1, rest, acc => if (Lib.cut rest [10]).2.2 = true then
      match edgeF names ((Lib.cut rest [10]).1 ++ [10]) with
      | none => none
      | some e => if 262144 ≤ acc.length then none else bodyF names f (Lib.cut rest [10]).2.1 (acc ++ [e])
    else if rest = [] then some acc else none
theorem bodyF_eq (names : List (List UInt8)) (hn : names.Nodup) (hl : ∀ n ∈ names, n.length ≤ 32) : ∀ (f : Nat) (rest : List UInt8) (acc : List Ed), rest.length < f → acc.length ≤ 262144 →
    bodyF names f rest acc = if (rest == [] || Lib.hasSuffix rest [10]) = true then bodyD names f rest acc else none
  | 0, _, _, h, _ => by omega
  | f + 1, rest, acc, h, ha => by
    rw [bodyF, bodyD]
    by_cases hm : (10 : UInt8) ∈ rest
    · obtain ⟨a, r, hc⟩ := cut_mem hm
      have hs := cut_true hc
      have hne : rest ≠ [] := by rw [hs]; simp
      rw [hc, if_pos (by rfl), if_neg hne]
      simp only
      rw [edgeF_eq names hn hl]
      have hlen : r.length < f := by
        rw [hs] at h
        simp only [List.length_append, List.length_cons, List.length_nil] at h
        omega
      have hsuf : (rest == [] || Lib.hasSuffix rest [10]) = (r == [] || Lib.hasSuffix r [10]) := by
        have e1 : (rest == []) = false := beq_eq_false_iff_ne.2 hne
        rw [e1, Bool.false_or]
        by_cases hr : r = []
        · rw [hs, hr]
          have := (suffix_app [10] a).1
          simpa using this
        · have e2 : (r == []) = false := beq_eq_false_iff_ne.2 hr
          rw [e2, Bool.false_or, hs]
          obtain ⟨r1, z, rfl⟩ := snoc_cases r hr
          have k1 : ∀ (u : List UInt8) (z : UInt8), Lib.hasSuffix (u ++ [z]) [10] = (z == 10) := by
            intro u z
            cases hz : (z == 10) with
            | true => rw [beq_iff_eq.1 hz]; exact (suffix_app [10] u).1
            | false =>
              cases hx : Lib.hasSuffix (u ++ [z]) [10] with
              | false => rfl
              | true =>
                have h1 := suffix_true hx
                have := (List.append_inj' h1 rfl).2
                injection this with this _
                rw [this] at hz
                cases hz
          rw [show a ++ ([10] ++ (r1 ++ [z])) = (a ++ ([10] ++ r1)) ++ [z] by simp, k1, k1]
      rw [hsuf]
      cases he : edgeD names a with
      | none =>
        simp only
        split <;> rfl
      | some e =>
        simp only
        by_cases h2 : acc.length = 262144
        · rw [if_pos (by omega), if_pos h2]
          split <;> rfl
        · rw [if_neg (by omega), if_neg h2, bodyF_eq names hn hl f r (acc ++ [e]) hlen (by rw [List.length_append]; simp; omega)]
    · rw [cut_none hm]
      simp only
      rw [if_neg (by decide)]
      by_cases hr : rest = []
      · rw [if_pos hr, if_pos hr, hr]
        rfl
      · rw [if_neg hr]
        have e1 : (rest == []) = false := beq_eq_false_iff_ne.2 hr
        have e2 : Lib.hasSuffix rest [10] = false := by
          cases hx : Lib.hasSuffix rest [10] with
          | false => rfl
          | true => exact absurd (by rw [suffix_true hx]; simp) hm
        rw [e1, e2]
        rfl
/-- What the reference's Read answers. -/
def readF (names : List (List UInt8)) (s : List UInt8) : List Ed × Int :=
  if wrongR names = 0 then
    (if (Lib.hasPrefix s hd && Lib.hasSuffix (Lib.trimPrefix s hd) tl) = true then
      match bodyF names (s.length + 1) (Lib.trimSuffix (Lib.trimPrefix s hd) tl) [] with
      | none => ([], 230)
      | some l => (l, 0)
    else ([], 230))
  else ([], wrongR names)
theorem readF_eq (names : List (List UInt8)) (s : List UInt8) : readF names s = readR names s := by
  unfold readF readR
  by_cases hw : wrongR names = 0
  · obtain ⟨hn, hl⟩ := wrongR_zero hw
    rw [if_pos hw, if_pos hw]
    by_cases h1 : (Lib.hasPrefix s hd && Lib.hasSuffix (Lib.trimPrefix s hd) tl) = true
    · rw [if_pos h1, h1, Bool.true_and]
      have hlen : (Lib.trimSuffix (Lib.trimPrefix s hd) tl).length < s.length + 1 := by
        have k1 : ∀ a b : List UInt8, (Lib.trimSuffix a b).length ≤ a.length := fun a b => by unfold Lib.trimSuffix; split <;> simp
        have k2 : ∀ a b : List UInt8, (Lib.trimPrefix a b).length ≤ a.length := fun a b => by unfold Lib.trimPrefix; split <;> simp
        have := k1 (Lib.trimPrefix s hd) tl
        have := k2 s hd
        omega
      rw [bodyF_eq names hn hl _ _ [] hlen (by simp)]
      cases (Lib.trimSuffix (Lib.trimPrefix s hd) tl == [] || Lib.hasSuffix (Lib.trimSuffix (Lib.trimPrefix s hd) tl) [10]) <;> rfl
    · rw [if_neg h1]
      have : (Lib.hasPrefix s hd && Lib.hasSuffix (Lib.trimPrefix s hd) tl) = false := by simpa using h1
      rw [this, Bool.false_and]
      rfl
  · rw [if_neg hw, if_neg hw]
end Go.Proofs.YtohlbnbfpcbpdaaDoor.Dt
