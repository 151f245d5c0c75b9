/- The contracts of lex's functions and of the reference's number, in the form that the printed texts call. -/
import Derived.Test.YtidkjiglmfhjpaaDoorPSx0
import Derived.Test.YtidkjiglmfhjpaaDoorLxK
import Derived.Test.YtidkjiglmfhjpaaDoorLxG
import Derived.Test.YtidkjiglmfhjpaaDoorLxN
set_option linter.unusedVariables false
set_option linter.unusedSimpArgs false
namespace Go.Proofs.YtidkjiglmfhjpaaDoor.Lx
open Go.RowKit Go.Proofs.YtidkjiglmfhjpaaDoorW.PrintWords Go.Proofs.YtidkjiglmfhjpaaDoorW.PrintLast Go.Proofs.YtidkjiglmfhjpaaDoorW.PrintMore
theorem gPow : ∃ g, Tryd.prog.globalNamed "internal/strconv.uint64pow10" = some g := by
  have h : (Tryd.prog.globalNamed "internal/strconv.uint64pow10").isSome = true := by kernel_rfl
  exact Option.isSome_iff_exists.1 h
theorem P10.below {w w' : World} (h : P10 w) (hb : Below w.heap.size w w') : P10 w' := by
  obtain ⟨g, hg⟩ := gPow
  unfold P10 Lib.TabIs World.var? at h ⊢
  rw [hg] at h ⊢
  simp only [Option.bind_some] at h ⊢
  have hlt : g < w.heap.size := by
    rcases Nat.lt_or_ge g w.heap.size with h' | h'
    · exact h'
    · rw [Array.getElem?_eq_none h'] at h; cases h
  rw [hb.block g hlt]
  exact h
theorem LW.below {w w' : World} (h : LW w) (hb : Below w.heap.size w w') : LW w' := ⟨h.te.below hb, h.deb.below hb, h.p10.below hb⟩
end Go.Proofs.YtidkjiglmfhjpaaDoor.Lx
namespace Go.Proofs.YtidkjiglmfhjpaaDoor.PS
open Go.RowKit Go.Proofs.YtidkjiglmfhjpaaDoorW.PrintWords Go.Proofs.YtidkjiglmfhjpaaDoorW.PrintLast Go.Proofs.YtidkjiglmfhjpaaDoorW.PrintMore
open Go.Proofs.YtidkjiglmfhjpaaDoor.Lx

def toB (l : List UInt8) : ByteArray := ⟨l.toArray⟩
def toS (t : Tk) : S33 := ⟨t.kind, toB t.text, t.num, t.pos⟩
theorem reps_toks (w : World) (base : Nat) (ok : Nat → Prop) : ∀ (n : Nat) (ts : List Tk), ts.length = n → Reps (k33.M w base ok) 4 (ts.map toS) (tksCs ts)
  | 0, ts, h => by
    rw [List.length_eq_zero_iff.1 h]
    exact Reps.none _ _
  | n + 1, ts, h => by
    obtain ⟨r, t, rfl⟩ := snoc_cases ts (by intro e; rw [e] at h; cases h)
    rw [List.map_append, ← tksCs_snoc]
    exact Reps.snoc (reps_toks w base ok n r (by simpa using h)) (k33_mkM w base ok (toS t)) rfl
def lex_Tokens.f (_ : Nat) (a0 : ByteArray) : Option (List S33 × Int × Int) := some ((tokensR a0.data.toList).1.map toS, (tokensR a0.data.toList).2.1, (tokensR a0.data.toList).2.2)
theorem lex_Tokens.mono (a0 : ByteArray) (k : Nat) : LeO (lex_Tokens.f k a0) (lex_Tokens.f (k + 1) a0) := LeO.refl _
theorem lex_Tokens.calls (k : Nat) (a0 : ByteArray) (r1 : List S33) (r2 r3 : Int) (w : World) (h : lex_Tokens.f k a0 = some (r1, r2, r3)) (htab : LW w) :
    Calls Tryd.prog 10 #[.string a0] w fun e w' => ∃ v0_ : Value, e = .returned (.tuple #[v0_, .agg #[.int .i64 r2, .int .i64 r3]]) ∧ Kd.R k33 33 w' w.heap.size (fun _ => True) v0_ r1 ∧ Below w.heap.size w w' := by
  unfold lex_Tokens.f at h
  have h2 := Option.some.inj h
  simp only [Prod.mk.injEq] at h2
  obtain ⟨rfl, rfl, rfl⟩ := h2
  unfold tokensR
  by_cases hl : 65536 < a0.data.toList.length
  · rw [if_pos hl]
    refine (Tokens_long a0.data.toList w hl).mono ?_
    rintro e w' ⟨rfl, hb⟩
    exact ⟨_, rfl, Kd.R_nil _ _ _ _ _, hb⟩
  · rw [if_neg hl]
    refine (Tokens_short a0.data.toList w (by omega) (fun w1 h1 => (htab.below h1).te)).mono ?_
    rintro e w' ⟨hb, h1, h2⟩
    cases hx : toksR a0.data.toList (a0.data.toList.length + 1) 0 [] with
    | inl ts =>
      obtain ⟨v, rfl, ho⟩ := h1 ts hx
      refine ⟨v, rfl, ⟨fun _ _ => trivial, tksCs ts, ?_, reps_toks _ _ _ _ ts rfl⟩, hb⟩
      rw [List.length_map]
      exact ho
    | inr a =>
      have := h2 a hx
      subst this
      exact ⟨_, rfl, Kd.R_nil _ _ _ _ _, hb⟩
def lex_Quote.f (_ : Nat) (a0 : ByteArray) : Option ByteArray := bif decide (a0.size ≤ 10000000000000) then some (toB (quoteR a0.data.toList)) else none
theorem lex_Quote.mono (a0 : ByteArray) (k : Nat) : LeO (lex_Quote.f k a0) (lex_Quote.f (k + 1) a0) := LeO.refl _
theorem lex_Quote.calls (k : Nat) (a0 : ByteArray) (r : ByteArray) (w : World) (h : lex_Quote.f k a0 = some r) (htab : LW w) :
    Calls Tryd.prog 13 #[.string a0] w fun e w' => e = .returned (.string r) ∧ Below w.heap.size w w' := by
  unfold lex_Quote.f at h
  by_cases hk : a0.size ≤ 10000000000000
  · rw [decide_eq_true hk] at h
    have h2 := Option.some.inj h
    subst h2
    exact Quote_calls a0.data.toList w hk (fun w1 h1 => (htab.below h1).deb)
  · rw [decide_eq_false hk] at h
    cases h
def toJ (x : S33) : JT := ⟨x.f0, x.f1.data.toList, x.f2, x.f3⟩
def jtOk (x : JT) : Bool := (decide (-9223372036854775808 ≤ x.k) && decide (x.k ≤ 9223372036854775807)) && ((decide (-9223372036854775808 ≤ x.n) && decide (x.n ≤ 9223372036854775807)) && decide (x.t.length ≤ 10000000000000))
theorem jtOk_of {x : JT} (h : jtOk x = true) : x.ok := by
  unfold jtOk at h
  simp only [Bool.and_eq_true, decide_eq_true_eq] at h
  exact ⟨h.1, h.2.1, h.2.2⟩
def joinOk (l : List JT) : Bool := decide (l.length ≤ 10000000000000) && (decide (jb l ≤ 100000000000000) && l.all jtOk)
def joinA (l : List JT) : List UInt8 × Int := match joinF false l with
  | some o => (o, 0)
  | none => ([], 1)
def lex_Join.f (_ : Nat) (l0 : List S33) : Option (ByteArray × Int) := bif joinOk (l0.map toJ) then some (toB (joinA (l0.map toJ)).1, (joinA (l0.map toJ)).2) else none
theorem lex_Join.mono (l0 : List S33) (k : Nat) : LeO (lex_Join.f k l0) (lex_Join.f (k + 1) l0) := LeO.refl _
theorem lex_Join.calls (k : Nat) (A0 : Option Addr) (c0 : Nat) (l0 : List S33) (r1 : ByteArray) (r2 : Int) (w : World) (hr : Kd.C k33 w A0 l0.length l0) (hc : l0.length ≤ c0) (h : lex_Join.f k l0 = some (r1, r2)) (htab : LW w) :
    Calls Tryd.prog 15 #[.slice A0 l0.length c0] w fun e w' => e = .returned (.tuple #[.string r1, .int .i64 r2]) ∧ Below w.heap.size w w' := by
  unfold lex_Join.f at h
  cases hk : joinOk (l0.map toJ) with
  | false => rw [hk] at h; cases h
  | true =>
    rw [hk] at h
    have h2 := Option.some.inj h
    simp only [Prod.mk.injEq] at h2
    obtain ⟨rfl, rfl⟩ := h2
    unfold joinOk at hk
    simp only [Bool.and_eq_true, decide_eq_true_eq, List.all_eq_true] at hk
    have hrow : TRow w A0 (l0.map toJ) := by
      intro i hi
      have hi' : i < l0.length := by simpa using hi
      obtain ⟨ad, hA, h0, h1, h2, h3⟩ := at_T33 hr (i : Int) (by omega) (by omega)
      rw [Int.toNat_natCast] at h0 h1 h2 h3
      have e : rd_T33 l0 (i : Int) = l0[i] := by unfold rd_T33; simp [hi']
      rw [e] at h0 h1 h2 h3
      refine ⟨ad, hA, ?_, ?_, ?_, ?_, ?_⟩
      · rcases Nat.lt_or_ge (ad.add (i * 4)).block w.heap.size with h' | h'
        · exact h'
        · simp [World.cell?, Array.getElem?_eq_none h'] at h0
      · simpa [toJ] using h0
      · simpa [toJ] using h1
      · simpa [toJ] using h2
      · simpa [toJ] using h3
    have hm := Join_calls (l0.map toJ) A0 c0 w hrow (fun x hx => jtOk_of (hk.2.2 x hx)) hk.1 hk.2.1 (fun w1 h1 => htab.below h1)
    rw [List.length_map] at hm
    refine hm.mono ?_
    rintro e w' ⟨hb, h1, h2⟩
    refine ⟨?_, hb⟩
    unfold joinA
    cases hx : joinF false (l0.map toJ) with
    | some o => exact h1 o hx
    | none => exact h2 hx
def numAt (l : List UInt8) (i : Nat) : Int × Int :=
  if l.getD i 0 = 45 then numA true ((l.drop (i + 1)).takeWhile isDigit) (i + 1 + ((l.drop (i + 1)).takeWhile isDigit).length)
  else numA false ((l.drop i).takeWhile isDigit) (i + ((l.drop i).takeWhile isDigit).length)
def assizeref01_number.f (_ : Nat) (a0 : ByteArray) (a1 : Int) : Option (Int × Int) := bif decide (0 ≤ a1) && (decide (a1 < a0.size) && decide (a0.size ≤ 1000000000000)) then some (numAt a0.data.toList a1.toNat) else none
theorem assizeref01_number.mono (a0 : ByteArray) (a1 : Int) (k : Nat) : LeO (assizeref01_number.f k a0 a1) (assizeref01_number.f (k + 1) a0 a1) := LeO.refl _
theorem assizeref01_number.calls (k : Nat) (a0 : ByteArray) (a1 : Int) (r1 r2 : Int) (w : World) (h : assizeref01_number.f k a0 a1 = some (r1, r2)) (htab : LW w) :
    Calls Tryd.prog 37 #[.string a0, .int .i64 a1] w fun e w' => e = .returned (.tuple #[.int .i64 r1, .int .i64 r2]) ∧ Below w.heap.size w w' := by
  unfold assizeref01_number.f at h
  cases hk : decide (0 ≤ a1) && (decide (a1 < a0.size) && decide (a0.size ≤ 1000000000000)) with
  | false => rw [hk] at h; cases h
  | true =>
    rw [hk] at h
    have h2 := Option.some.inj h
    simp only [Bool.and_eq_true, decide_eq_true_eq] at hk
    obtain ⟨i, rfl⟩ := Int.eq_ofNat_of_zero_le hk.1
    rw [Int.toNat_natCast] at h2
    have hi : i < a0.data.toList.length := by
      have := hk.2.1
      have e : a0.size = a0.data.toList.length := rfl
      omega
    have hl : a0.data.toList.length ≤ 1000000000000 := by
      have := hk.2.2
      have e : a0.size = a0.data.toList.length := rfl
      omega
    have hg : a0.data.toList.getD i 0 = a0.data.toList[i] := by
      rw [List.getD_eq_getElem?_getD, List.getElem?_eq_getElem hi]
      rfl
    unfold numAt at h2
    rw [hg] at h2
    by_cases hc : a0.data.toList[i] = 45
    · rw [if_pos hc] at h2
      refine (refnum_neg a0.data.toList i w hi hc hl (fun w1 h1 => htab.below h1)).mono ?_
      rintro e w' ⟨hb, rfl⟩
      rw [h2]
      exact ⟨rfl, hb⟩
    · rw [if_neg hc] at h2
      refine (refnum_pos a0.data.toList i w hi hc hl (fun w1 h1 => htab.below h1)).mono ?_
      rintro e w' ⟨hb, rfl⟩
      rw [h2]
      exact ⟨rfl, hb⟩
def strconv_FormatInt.f (_ : Nat) (a0 a1 : Int) : Option ByteArray := bif decide (a1 = 10) && (decide (-9223372036854775808 ≤ a0) && decide (a0 ≤ 9223372036854775807)) then some (toB (Lib.itoa a0)) else none
theorem strconv_FormatInt.mono (a0 a1 : Int) (k : Nat) : LeO (strconv_FormatInt.f k a0 a1) (strconv_FormatInt.f (k + 1) a0 a1) := LeO.refl _
theorem strconv_FormatInt.calls (k : Nat) (a0 a1 : Int) (r : ByteArray) (w : World) (h : strconv_FormatInt.f k a0 a1 = some r) (htab : LW w) :
    Calls Tryd.prog 25 #[.int .i64 a0, .int .i64 a1] w fun e w' => e = .returned (.string r) ∧ Below w.heap.size w w' := by
  unfold strconv_FormatInt.f at h
  cases hk : decide (a1 = 10) && (decide (-9223372036854775808 ≤ a0) && decide (a0 ≤ 9223372036854775807)) with
  | false => rw [hk] at h; cases h
  | true =>
    rw [hk] at h
    have h2 := Option.some.inj h
    subst h2
    simp only [Bool.and_eq_true, decide_eq_true_eq] at hk
    obtain ⟨rfl, h1, h3⟩ := hk
    refine (Tryd.strconv_FormatInt_10 a0 h1 h3 w htab.p10).mono ?_
    rintro e w' ⟨rfl, kk, os, rfl⟩
    exact ⟨rfl, Lib.below_grow _ _ (Nat.le_refl _) _ _⟩
end Go.Proofs.YtidkjiglmfhjpaaDoor.PS
