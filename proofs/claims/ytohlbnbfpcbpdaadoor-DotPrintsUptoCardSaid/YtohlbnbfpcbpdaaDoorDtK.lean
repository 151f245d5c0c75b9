/- dot: what the plain laws share. -/
import Derived.Test.YtohlbnbfpcbpdaaDoorPSxA
import Derived.Test.YtohlbnbfpcbpdaaDoorDtP
set_option linter.unusedVariables false
set_option linter.unusedSimpArgs false
namespace Go.Proofs.YtohlbnbfpcbpdaaDoor.PS
open Go.RowKit Go.Proofs.YtohlbnbfpcbpdaaDoorW.PrintWords Go.Proofs.YtohlbnbfpcbpdaaDoorW.PrintLast Go.Proofs.YtohlbnbfpcbpdaaDoorW.PrintMore
open Go.Proofs.YtohlbnbfpcbpdaaDoor.Lx Go.Proofs.YtohlbnbfpcbpdaaDoor.Dt

def KK : Nat := 1500000
theorem w64 (n : Int) (h0 : -9223372036854775808 ≤ n) (h1 : n < 9223372036854775808) : wrap64 n = n := by unfold wrap64; omega
theorem toL (a : ByteArray) : a.toList = a.data.toList := Lib.toList_data a
theorem toL_B (l : List UInt8) : (toB l).toList = l := by rw [toL]; rfl
theorem size_B (l : List UInt8) : (toB l).size = l.length := by simp [toB, ByteArray.size]
theorem data_B (l : List UInt8) : (toB l).data.toList = l := rfl
theorem alive_pure : assizelaw23_alive.f KK = some true := by kernel_rfl
theorem same_loop (l : List S34) (hl : l.length < 4611686018427387904) : ∀ (n k i : Nat), n = l.length - i → i ≤ l.length → n < k → assizeref06_SameEdges.l0 k l l (i : Int) = some true
  | 0, k + 1, i, hn, hi, _ => by
    simp only [assizeref06_SameEdges.l0]
    rw [if_neg (by omega)]
  | n + 1, k + 1, i, hn, hi, hk => by
    simp only [assizeref06_SameEdges.l0]
    rw [if_pos (by omega), if_pos (by omega), if_pos (by omega), if_neg (by simp), w64 _ (by omega) (by omega)]
    exact same_loop l hl n k (i + 1) (by omega) (by omega) (by omega)
theorem same_pure (l : List S34) (hl : l.length < 4611686018427387904) (k : Nat) (hk : l.length < k) : assizeref06_SameEdges.f k l l = some true := by
  unfold assizeref06_SameEdges.f
  rw [if_pos rfl]
  exact same_loop l hl l.length k 0 (by omega) (by omega) hk
theorem printR_cases (names : List (List UInt8)) (l : List Ed) : ((printR names l).2 ≠ 0 ∧ (printR names l).1 = []) ∨ (wrongR names = 0 ∧ l.length ≤ 262144 ∧ ∃ o, linesR names l = some o ∧ printR names l = (hd ++ o ++ tl, 0)) := by
  unfold printR
  by_cases q : wrongR names = 0
  · rw [if_pos q]
    by_cases q2 : 262144 < l.length
    · rw [if_pos q2]
      exact .inl ⟨by decide, rfl⟩
    · rw [if_neg q2]
      cases h : linesR names l with
      | none => exact .inl ⟨by decide, rfl⟩
      | some o => exact .inr ⟨q, by omega, o, rfl, rfl⟩
  · rw [if_neg q]
    exact .inl ⟨q, rfl⟩
theorem lines_fair (names : List (List UInt8)) : ∀ (l : List Ed) (o : List UInt8), linesR names l = some o → ∀ e ∈ l, fairE names e ∧ ∃ b, bitOf e.k = some b
  | [], _, _ => by simp
  | e :: l, o, h => by
    rw [linesR] at h
    cases hx : lineR names e with
    | none => rw [hx] at h; cases h
    | some x =>
      rw [hx] at h
      obtain ⟨o', ho, rfl⟩ := Option.map_eq_some_iff.1 h
      obtain ⟨b, hb, hf, _⟩ := lineR_some hx
      intro e' he
      rcases List.mem_cons.1 he with rfl | he
      · exact ⟨hf, b, hb⟩
      · exact lines_fair names l o' ho e' he
theorem lineX_len {names : List (List UInt8)} (hn : ∀ n ∈ names, n.length ≤ 32) {e : Ed} {b : Nat} (hb : bitOf e.k = some b) (hf : fairE names e) : (lineX names e b ++ [10]).length ≤ 300 := by
  obtain ⟨f1, f2, t1, t2, y1, y2⟩ := hf
  have h1 := quoteR_len (labR_len hn (bitOf_some hb).2 e.y)
  have h2 := Lib.itoa_length_le e.f (by omega) (by omega)
  have h3 := Lib.itoa_length_le e.t (by omega) (by omega)
  unfold lineX p1 p2 p3 p4
  simp only [List.length_append, List.length_cons, List.length_nil]
  omega
theorem lines_size {names : List (List UInt8)} (hn : ∀ n ∈ names, n.length ≤ 32) : ∀ (l : List Ed) (o : List UInt8), linesR names l = some o → o.length ≤ 300 * l.length
  | [], o, h => by cases h; simp
  | e :: l, o, h => by
    rw [linesR] at h
    cases hx : lineR names e with
    | none => rw [hx] at h; cases h
    | some x =>
      rw [hx] at h
      obtain ⟨o', ho, rfl⟩ := Option.map_eq_some_iff.1 h
      obtain ⟨b, hb, hf, rfl⟩ := lineR_some hx
      have h1 := lineX_len hn hb hf
      have h2 := lines_size hn l o' ho
      rw [List.length_append, List.length_cons]
      omega
theorem print_size {names : List (List UInt8)} {l : List Ed} (h : (printR names l).2 = 0) : (printR names l).1.length ≤ 100000000 := by
  rcases printR_cases names l with ⟨h1, _⟩ | ⟨hw, hl, o, ho, he⟩
  · exact absurd h h1
  · have := lines_size (wrongR_zero hw).2 l o ho
    rw [he]
    simp only [List.length_append]
    unfold hd tl
    simp only [List.length_cons, List.length_nil]
    omega
theorem edsOk_print {names : List (List UInt8)} (hn : names.length ≤ 1000000000000) {l : List Ed} (h : (printR names l).2 = 0) : edsOk (l.map ofE) = true := by
  rcases printR_cases names l with ⟨h1, _⟩ | ⟨hw, hl, o, ho, he⟩
  · exact absurd h h1
  · unfold edsOk
    rw [Bool.and_eq_true, decide_eq_true_eq, List.all_eq_true, List.length_map]
    refine ⟨by omega, fun x hx => ?_⟩
    obtain ⟨e, hm, rfl⟩ := List.mem_map.1 hx
    obtain ⟨⟨f1, f2, t1, t2, y1, y2⟩, b, hb⟩ := lines_fair names l o ho e hm
    obtain ⟨hk, hb5⟩ := bitOf_some hb
    have hk2 : 0 ≤ e.k ∧ e.k ≤ 16 := by
      have hb4 : b = 0 ∨ b = 1 ∨ b = 2 ∨ b = 3 ∨ b = 4 := by omega
      rcases hb4 with rfl | rfl | rfl | rfl | rfl <;> rw [hk] <;> decide
    unfold edB intB ofE
    simp only [Bool.and_eq_true, decide_eq_true_eq]
    omega
theorem Read_f {l0 : List ByteArray} {a1 : ByteArray} (k : Nat) (h : namesOk l0 = true) (hs : a1.size < 4294967281) : dot_Read.f k l0 a1 = some ((readR (lists l0) a1.data.toList).1.map ofE, (readR (lists l0) a1.data.toList).2) := by
  unfold dot_Read.f
  rw [h, decide_eq_true hs]
  rfl
theorem Print_f {l0 : List ByteArray} {l1 : List S34} (k : Nat) (h : namesOk l0 = true) (hs : edsOk l1 = true) : dot_Print.f k l0 l1 = some (toB (printR (lists l0) (l1.map toE)).1, (printR (lists l0) (l1.map toE)).2) := by
  unfold dot_Print.f
  rw [h, hs]
  rfl
end Go.Proofs.YtohlbnbfpcbpdaaDoor.PS
