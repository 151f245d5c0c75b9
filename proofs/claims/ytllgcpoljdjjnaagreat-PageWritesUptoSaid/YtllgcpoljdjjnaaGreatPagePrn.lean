/- The contracts of page's functions, in the form that the printed texts call. -/
import Derived.Test.YtllgcpoljdjjnaaGreatPage
import Derived.Test.YtllgcpoljdjjnaaGreatWords
import Derived.Test.YtllgcpoljdjjnaaGreatWMore
set_option linter.unusedVariables false
set_option linter.unusedSimpArgs false
namespace Go.Proofs.YtllgcpoljdjjnaaGreat.PS
open Go.RowKit Go.Proofs.YtllgcpoljdjjnaaGreatW.PrintWords Go.Proofs.YtllgcpoljdjjnaaGreatW.PrintLast Go.Proofs.YtllgcpoljdjjnaaGreatW.PrintMore
open Go.Proofs.YtllgcpoljdjjnaaGreat.Pg

def toB (l : List UInt8) : ByteArray := ⟨l.toArray⟩
theorem toB_list (a : ByteArray) : toB a.data.toList = a := rfl
theorem size_list (a : ByteArray) : a.size = a.data.toList.length := rfl
def page_Tags.f (_ : Nat) (a0 : ByteArray) : Option (List ByteArray × Int) := bif decide (a0.size < 4294967281) then some ((tagsOf a0.data.toList).1.map toB, (tagsOf a0.data.toList).2) else none
theorem page_Tags.mono (a0 : ByteArray) (k : Nat) : LeO (page_Tags.f k a0) (page_Tags.f (k + 1) a0) := LeO.refl _
theorem page_Tags.calls (k : Nat) (a0 : ByteArray) (r1 : List ByteArray) (r2 : Int) (w : World) (h : page_Tags.f k a0 = some (r1, r2)) :
    Calls Tryz.prog 8 #[.string a0] w fun e w' => ∃ v0_ : Value, e = .returned (.tuple #[v0_, .int .i64 r2]) ∧ Kd.R Kd.string 9 w' w.heap.size (fun _ => True) v0_ r1 ∧ Below w.heap.size w w' := by
  unfold page_Tags.f at h
  by_cases hk : a0.size < 4294967281
  · rw [decide_eq_true hk] at h
    have h2 := Option.some.inj h
    simp only [Prod.mk.injEq] at h2
    obtain ⟨rfl, rfl⟩ := h2
    refine (Tags_calls a0.data.toList w hk).mono ?_
    rintro e w' ⟨v, rfl, ho, hb⟩
    refine ⟨v, rfl, Kd.R_of_own ?_ (fun _ _ => trivial), hb⟩
    have e1 : strV (tagsOf a0.data.toList).1 = encs Value.string ((tagsOf a0.data.toList).1.map toB) := by simp [strV, toB, encs]
    rw [← e1, List.length_map]
    exact ho
  · rw [decide_eq_false hk] at h
    cases h
def page_Words.f (_ : Nat) (a0 : ByteArray) : Option (ByteArray × Int) := bif decide (a0.size < 4294967281) then some (toB (if (wordsOf a0.data.toList).2 = 0 then (wordsOf a0.data.toList).1 else []), (wordsOf a0.data.toList).2) else none
theorem page_Words.mono (a0 : ByteArray) (k : Nat) : LeO (page_Words.f k a0) (page_Words.f (k + 1) a0) := LeO.refl _
theorem page_Words.calls (k : Nat) (a0 : ByteArray) (r1 : ByteArray) (r2 : Int) (w : World) (h : page_Words.f k a0 = some (r1, r2)) :
    Calls Tryz.prog 9 #[.string a0] w fun e w' => e = .returned (.tuple #[.string r1, .int .i64 r2]) ∧ Below w.heap.size w w' := by
  unfold page_Words.f at h
  by_cases hk : a0.size < 4294967281
  · rw [decide_eq_true hk] at h
    have h2 := Option.some.inj h
    simp only [Prod.mk.injEq] at h2
    obtain ⟨rfl, rfl⟩ := h2
    exact Words_calls a0.data.toList w hk
  · rw [decide_eq_false hk] at h
    cases h
def page_Escape.f (_ : Nat) (a0 : ByteArray) : Option ByteArray := bif decide (a0.size ≤ 1000000000000) then some (toB (escL a0.data.toList)) else none
theorem page_Escape.mono (a0 : ByteArray) (k : Nat) : LeO (page_Escape.f k a0) (page_Escape.f (k + 1) a0) := LeO.refl _
theorem page_Escape.calls (k : Nat) (a0 : ByteArray) (r : ByteArray) (w : World) (h : page_Escape.f k a0 = some r) :
    Calls Tryz.prog 12 #[.string a0] w fun e w' => e = .returned (.string r) ∧ Below w.heap.size w w' := by
  unfold page_Escape.f at h
  by_cases hk : a0.size ≤ 1000000000000
  · rw [decide_eq_true hk] at h
    have h2 := Option.some.inj h
    subst h2
    exact Escape_calls a0.data.toList w hk
  · rw [decide_eq_false hk] at h
    cases h
def lists (l : List ByteArray) : List (List UInt8) := l.map fun a => a.data.toList
def pageOk (t : List UInt8) (ls : List (List UInt8)) : Bool := decide (t.length ≤ 1000000000000) && ls.all (fun l => decide (l.length ≤ 1000000000000)) && decide ((pageL t ls).length ≤ 140737488355328)
def page_Page.f (_ : Nat) (a0 : ByteArray) (a1 : List ByteArray) : Option ByteArray := bif pageOk a0.data.toList (lists a1) then some (toB (pageL a0.data.toList (lists a1))) else none
theorem page_Page.mono (a0 : ByteArray) (a1 : List ByteArray) (k : Nat) : LeO (page_Page.f k a0 a1) (page_Page.f (k + 1) a0 a1) := LeO.refl _
theorem page_Page.calls (k : Nat) (a0 : ByteArray) (A1 : Option Addr) (c1 : Nat) (l1 : List ByteArray) (r : ByteArray) (w : World) (hr1 : Kd.C Kd.string w A1 l1.length l1) (hc1 : l1.length ≤ c1) (h : page_Page.f k a0 l1 = some r) :
    Calls Tryz.prog 14 #[.string a0, .slice A1 l1.length c1] w fun e w' => e = .returned (.string r) ∧ Below w.heap.size w w' := by
  unfold page_Page.f at h
  cases hk : pageOk a0.data.toList (lists l1) with
  | false => rw [hk] at h; cases h
  | true =>
    rw [hk] at h
    have h2 := Option.some.inj h
    subst h2
    unfold pageOk at hk
    simp only [Bool.and_eq_true, decide_eq_true_eq, List.all_eq_true] at hk
    have hlen : (lists l1).length = l1.length := by simp [lists]
    have hrow : ∀ i (hi : i < (lists l1).length), ∃ a, A1 = some a ∧ a.block < w.heap.size ∧ w.cell? (a.add i) = some (.string ⟨(lists l1)[i].toArray⟩) := by
      intro i hi
      obtain ⟨ad, hA, hc⟩ := Kd.at_string hr1 (i : Int) (by omega) (by omega)
      rw [Int.toNat_natCast] at hc
      have e1 : rdOf ByteArray.empty l1 (i : Int) = toB (lists l1)[i] := by
        unfold rdOf
        rw [hlen] at hi
        simp [lists, hi, toB]
      rw [e1] at hc
      refine ⟨ad, hA, ?_, hc⟩
      have hb : (ad.add i).block = ad.block := by unfold Addr.add; split <;> rfl
      rcases Nat.lt_or_ge ad.block w.heap.size with h' | h'
      · exact h'
      · simp [World.cell?, hb, Array.getElem?_eq_none h'] at hc
    have hm := Page_calls a0.data.toList (lists l1) A1 c1 w hk.1.1 hk.1.2 hk.2 hrow
    rw [hlen] at hm
    exact hm
end Go.Proofs.YtllgcpoljdjjnaaGreat.PS
