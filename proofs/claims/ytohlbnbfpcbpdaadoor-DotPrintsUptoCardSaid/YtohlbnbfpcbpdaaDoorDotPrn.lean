/- The contracts of dot's Print and Read, of the reference's wrong, and of Itoa, in the form that the printed texts call. -/
import Derived.Test.YtohlbnbfpcbpdaaDoorPSx0
import Derived.Test.YtohlbnbfpcbpdaaDoorDtR
import Derived.Test.YtohlbnbfpcbpdaaDoorDtT
set_option linter.unusedVariables false
set_option linter.unusedSimpArgs false
namespace Go.Proofs.YtohlbnbfpcbpdaaDoor.PS
open Go.RowKit Go.Proofs.YtohlbnbfpcbpdaaDoorW.PrintWords Go.Proofs.YtohlbnbfpcbpdaaDoorW.PrintLast Go.Proofs.YtohlbnbfpcbpdaaDoorW.PrintMore
open Go.Proofs.YtohlbnbfpcbpdaaDoor.Lx Go.Proofs.YtohlbnbfpcbpdaaDoor.Dt

def toB (l : List UInt8) : ByteArray := ⟨l.toArray⟩
def lists (l : List ByteArray) : List (List UInt8) := l.map fun a => a.data.toList
theorem lists_len (l : List ByteArray) : (lists l).length = l.length := by simp [lists]
def toE (x : S34) : Ed := ⟨x.f0, x.f1, x.f2, x.f3⟩
def ofE (x : Ed) : S34 := ⟨x.f, x.t, x.k, x.y⟩
theorem toE_ofE (x : Ed) : toE (ofE x) = x := rfl
theorem ofE_toE (x : S34) : ofE (toE x) = x := rfl
theorem map_ofE_toE (l : List S34) : (l.map toE).map ofE = l := by
  rw [List.map_map]
  conv => rhs; rw [← List.map_id l]
  exact List.map_congr_left fun x _ => rfl
theorem map_toE_ofE (l : List Ed) : (l.map ofE).map toE = l := by
  rw [List.map_map]
  conv => rhs; rw [← List.map_id l]
  exact List.map_congr_left fun x _ => rfl
theorem nrow_of {w : World} {A : Option Addr} {l : List ByteArray} (h : Kd.C Kd.string w A l.length l) : NRow w A (lists l) := by
  intro i hi
  have hi' : i < l.length := by rw [lists_len] at hi; exact hi
  obtain ⟨ad, hA, hc⟩ := Kd.at_string h (i : Int) (by omega) (by omega)
  rw [Int.toNat_natCast] at hc
  have e1 : rdOf ByteArray.empty l (i : Int) = toB (lists l)[i] := by simp [rdOf, lists, toB, hi']
  rw [e1] at hc
  exact ⟨ad, hA, World.block_lt_of_cell? w _ hc, hc⟩
theorem erow_of {w : World} {A : Option Addr} {l : List S34} (h : Kd.C k34 w A l.length l) : ERow w A (l.map toE) := by
  intro i hi
  have hi' : i < l.length := by simpa using hi
  obtain ⟨ad, hA, h0, h1, h2, h3⟩ := at_T34 h (i : Int) (by omega) (by omega)
  rw [Int.toNat_natCast] at h0 h1 h2 h3
  have e : rd_T34 l (i : Int) = l[i] := by unfold rd_T34; simp [hi']
  rw [e] at h0 h1 h2 h3
  exact ⟨ad, hA, World.block_lt_of_cell? w _ h0, by simpa [toE] using h0, by simpa [toE] using h1, by simpa [toE] using h2, by simpa [toE] using h3⟩
theorem reps_eds (w : World) (base : Nat) (ok : Nat → Prop) : ∀ (n : Nat) (ts : List Ed), ts.length = n → Reps (k34.M w base ok) 4 (ts.map ofE) (edCs ts)
  | 0, ts, h => by
    rw [List.length_eq_zero_iff.1 h]
    exact Reps.none _ _
  | n + 1, ts, h => by
    obtain ⟨r, t, rfl⟩ := snoc_cases ts (by intro e; rw [e] at h; cases h)
    rw [List.map_append, ← edCs_snoc]
    exact Reps.snoc (reps_eds w base ok n r (by simpa using h)) (k34_mkM w base ok (ofE t)) rfl
def namesOk (l : List ByteArray) : Bool := decide (l.length ≤ 1000000000000) && l.all fun n => decide (n.size ≤ 1000000000000)
theorem namesOk_of {l : List ByteArray} (h : namesOk l = true) : (lists l).length ≤ 1000000000000 ∧ ∀ n ∈ lists l, n.length ≤ 1000000000000 := by
  unfold namesOk at h
  simp only [Bool.and_eq_true, decide_eq_true_eq, List.all_eq_true] at h
  refine ⟨by rw [lists_len]; exact h.1, fun n hn => ?_⟩
  obtain ⟨a, ha, rfl⟩ := List.mem_map.1 hn
  exact h.2 a ha
def intB (n : Int) : Bool := decide (-9223372036854775808 ≤ n) && decide (n ≤ 9223372036854775807)
theorem intB_of {n : Int} (h : intB n = true) : i64R n := by
  unfold intB at h
  unfold i64R
  simpa using h
def edB (x : S34) : Bool := (intB x.f0 && intB x.f1) && (intB x.f2 && intB x.f3)
def edsOk (l : List S34) : Bool := decide (l.length ≤ 1000000000000) && l.all edB
theorem edsOk_of {l : List S34} (h : edsOk l = true) : (l.map toE).length ≤ 1000000000000 ∧ ∀ e ∈ l.map toE, e.ok := by
  unfold edsOk at h
  simp only [Bool.and_eq_true, decide_eq_true_eq, List.all_eq_true] at h
  refine ⟨by rw [List.length_map]; exact h.1, fun n hn => ?_⟩
  obtain ⟨a, ha, rfl⟩ := List.mem_map.1 hn
  have := h.2 a ha
  unfold edB at this
  simp only [Bool.and_eq_true] at this
  exact ⟨intB_of this.1.1, intB_of this.1.2, intB_of this.2.1, intB_of this.2.2⟩
def dot_Print.f (_ : Nat) (l0 : List ByteArray) (l1 : List S34) : Option (ByteArray × Int) := bif namesOk l0 && edsOk l1 then some (toB (printR (lists l0) (l1.map toE)).1, (printR (lists l0) (l1.map toE)).2) else none
theorem dot_Print.mono (l0 : List ByteArray) (l1 : List S34) (k : Nat) : LeO (dot_Print.f k l0 l1) (dot_Print.f (k + 1) l0 l1) := LeO.refl _
theorem dot_Print.calls (k : Nat) (A0 : Option Addr) (c0 : Nat) (l0 : List ByteArray) (A1 : Option Addr) (c1 : Nat) (l1 : List S34) (r1 : ByteArray) (r2 : Int) (w : World) (hr0 : Kd.C Kd.string w A0 l0.length l0) (hc0 : l0.length ≤ c0) (hr1 : Kd.C k34 w A1 l1.length l1) (hc1 : l1.length ≤ c1) (h : dot_Print.f k l0 l1 = some (r1, r2)) (htab : DW w) :
    Calls Tryd.prog 9 #[.slice A0 l0.length c0, .slice A1 l1.length c1] w fun e w' => e = .returned (.tuple #[.string r1, .int .i64 r2]) ∧ Below w.heap.size w w' := by
  unfold dot_Print.f at h
  cases hk : namesOk l0 && edsOk l1 with
  | false => rw [hk] at h; cases h
  | true =>
    rw [hk] at h
    have h2 := Option.some.inj h
    simp only [Prod.mk.injEq] at h2
    obtain ⟨rfl, rfl⟩ := h2
    rw [Bool.and_eq_true] at hk
    obtain ⟨n1, n2⟩ := namesOk_of hk.1
    obtain ⟨n3, n4⟩ := edsOk_of hk.2
    have := Print_calls (lists l0) (l1.map toE) A0 A1 c0 c1 w (nrow_of hr0) (erow_of hr1) n4 n1 n3 n2 htab
    rw [lists_len, List.length_map] at this
    exact this
def dot_Read.f (_ : Nat) (l0 : List ByteArray) (a1 : ByteArray) : Option (List S34 × Int) := bif namesOk l0 && decide (a1.size < 4294967281) then some ((readR (lists l0) a1.data.toList).1.map ofE, (readR (lists l0) a1.data.toList).2) else none
theorem dot_Read.mono (l0 : List ByteArray) (a1 : ByteArray) (k : Nat) : LeO (dot_Read.f k l0 a1) (dot_Read.f (k + 1) l0 a1) := LeO.refl _
theorem dot_Read.calls (k : Nat) (A0 : Option Addr) (c0 : Nat) (l0 : List ByteArray) (a1 : ByteArray) (r1 : List S34) (r2 : Int) (w : World) (hr0 : Kd.C Kd.string w A0 l0.length l0) (hc0 : l0.length ≤ c0) (h : dot_Read.f k l0 a1 = some (r1, r2)) (htab : DW w) :
    Calls Tryd.prog 13 #[.slice A0 l0.length c0, .string a1] w fun e w' => ∃ v0_ : Value, e = .returned (.tuple #[v0_, .int .i64 r2]) ∧ Kd.R k34 34 w' w.heap.size (fun _ => True) v0_ r1 ∧ Below w.heap.size w w' := by
  unfold dot_Read.f at h
  cases hk : namesOk l0 && decide (a1.size < 4294967281) with
  | false => rw [hk] at h; cases h
  | true =>
    rw [hk] at h
    have h2 := Option.some.inj h
    simp only [Prod.mk.injEq] at h2
    obtain ⟨rfl, rfl⟩ := h2
    rw [Bool.and_eq_true, decide_eq_true_eq] at hk
    obtain ⟨n1, n2⟩ := namesOk_of hk.1
    have := Read_calls (lists l0) a1.data.toList A0 c0 w (nrow_of hr0) n1 n2 hk.2 htab
    rw [lists_len] at this
    refine this.mono ?_
    rintro e w' ⟨v, rfl, ho, hb⟩
    refine ⟨v, rfl, ⟨fun _ _ => trivial, edCs (readR (lists l0) a1.data.toList).1, ?_, reps_eds _ _ _ _ _ rfl⟩, hb⟩
    rw [List.length_map]
    exact ho
def assizeref23_wrong.f (_ : Nat) (l0 : List ByteArray) : Option Int := bif namesOk l0 then some (wrongR (lists l0)) else none
theorem assizeref23_wrong.mono (l0 : List ByteArray) (k : Nat) : LeO (assizeref23_wrong.f k l0) (assizeref23_wrong.f (k + 1) l0) := LeO.refl _
theorem assizeref23_wrong.calls (k : Nat) (A0 : Option Addr) (c0 : Nat) (l0 : List ByteArray) (r : Int) (w : World) (hr0 : Kd.C Kd.string w A0 l0.length l0) (hc0 : l0.length ≤ c0) (h : assizeref23_wrong.f k l0 = some r) :
    Calls Tryd.prog 23 #[.slice A0 l0.length c0] w fun e w' => e = .returned (.int .i64 r) ∧ Below w.heap.size w w' := by
  unfold assizeref23_wrong.f at h
  cases hk : namesOk l0 with
  | false => rw [hk] at h; cases h
  | true =>
    rw [hk] at h
    have h2 := Option.some.inj h
    subst h2
    obtain ⟨n1, n2⟩ := namesOk_of hk
    have := wrong_calls (lists l0) A0 c0 w (nrow_of hr0) n1 n2
    rw [lists_len] at this
    exact this
def strconv_Itoa.f (_ : Nat) (a0 : Int) : Option ByteArray := bif intB a0 then some (toB (Lib.itoa a0)) else none
theorem strconv_Itoa.mono (a0 : Int) (k : Nat) : LeO (strconv_Itoa.f k a0) (strconv_Itoa.f (k + 1) a0) := LeO.refl _
theorem strconv_Itoa.calls (k : Nat) (a0 : Int) (r : ByteArray) (w : World) (h : strconv_Itoa.f k a0 = some r) (htab : DW w) :
    Calls Tryd.prog 20 #[.int .i64 a0] w fun e w' => e = .returned (.string r) ∧ Below w.heap.size w w' := by
  unfold strconv_Itoa.f at h
  cases hk : intB a0 with
  | false => rw [hk] at h; cases h
  | true =>
    rw [hk] at h
    have h2 := Option.some.inj h
    subst h2
    obtain ⟨h1, h3⟩ := intB_of hk
    refine (Tryd.strconv_Itoa a0 h1 h3 w htab.lw.p10).mono ?_
    rintro e w' ⟨rfl, kk, os, rfl⟩
    exact ⟨rfl, Lib.below_grow _ _ (Nat.le_refl _) _ _⟩
end Go.Proofs.YtohlbnbfpcbpdaaDoor.PS
