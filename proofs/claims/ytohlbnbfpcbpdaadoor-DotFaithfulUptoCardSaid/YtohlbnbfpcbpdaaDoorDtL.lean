/- dot: DotAgain, DotBeside: the plain laws. -/
import Derived.Test.YtohlbnbfpcbpdaaDoorPSxB
import Derived.Test.YtohlbnbfpcbpdaaDoorDtP
set_option linter.unusedVariables false
set_option linter.unusedSimpArgs false
namespace Go.Proofs.YtohlbnbfpcbpdaaDoor.PS
open Go.RowKit Go.Proofs.YtohlbnbfpcbpdaaDoorW.PrintWords Go.Proofs.YtohlbnbfpcbpdaaDoorW.PrintLast Go.Proofs.YtohlbnbfpcbpdaaDoorW.PrintMore
open Go.Proofs.YtohlbnbfpcbpdaaDoor.Lx Go.Proofs.YtohlbnbfpcbpdaaDoor.Dt

def KK : Nat := 1500000
theorem w64 (n : Int) (h0 : -9223372036854775808 ≤ n) (h1 : n < 9223372036854775808) : wrap64 n = n := by unfold wrap64; omega
theorem toL (a : ByteArray) : a.toList = a.data.toList := Lib.toList_data a
theorem toL_B (l : List UInt8) : (toB l).toList = l := by rw [toL]; rfl
theorem size_B (l : List UInt8) : (toB l).size = l.length := by simp [toB, ByteArray.size]
theorem data_B (l : List UInt8) : (toB l).data.toList = l := rfl
theorem alive_pure : assizelaw23_alive.f KK = some true := by kernel_rfl
theorem same_loop (l : List S34) (hl : l.length < 4611686018427387904) : ∀ (n k i : Nat), n = l.length - i → i ≤ l.length → n < k → assizeref06_SameEdges.l0 k l l (i : Int) = some true
  | 0, k + 1, i, hn, hi, _ => by
    simp only [assizeref06_SameEdges.l0]
    rw [if_neg (by omega)]
  | n + 1, k + 1, i, hn, hi, hk => by
    simp only [assizeref06_SameEdges.l0]
    rw [if_pos (by omega), if_pos (by omega), if_pos (by omega), if_neg (by simp), w64 _ (by omega) (by omega)]
    exact same_loop l hl n k (i + 1) (by omega) (by omega) (by omega)
theorem same_pure (l : List S34) (hl : l.length < 4611686018427387904) (k : Nat) (hk : l.length < k) : assizeref06_SameEdges.f k l l = some true := by
  unfold assizeref06_SameEdges.f
  rw [if_pos rfl]
  exact same_loop l hl l.length k 0 (by omega) (by omega) hk
theorem printR_cases (names : List (List UInt8)) (l : List Ed) : ((printR names l).2 ≠ 0 ∧ (printR names l).1 = []) ∨ (wrongR names = 0 ∧ l.length ≤ 262144 ∧ ∃ o, linesR names l = some o ∧ printR names l = (hd ++ o ++ tl, 0)) := by
  unfold printR
  by_cases q : wrongR names = 0
  · rw [if_pos q]
    by_cases q2 : 262144 < l.length
    · rw [if_pos q2]
      exact .inl ⟨by decide, rfl⟩
    · rw [if_neg q2]
      cases h : linesR names l with
      | none => exact .inl ⟨by decide, rfl⟩
      | some o => exact .inr ⟨q, by omega, o, rfl, rfl⟩
  · rw [if_neg q]
    exact .inl ⟨q, rfl⟩
theorem lines_fair (names : List (List UInt8)) : ∀ (l : List Ed) (o : List UInt8), linesR names l = some o → ∀ e ∈ l, fairE names e ∧ ∃ b, bitOf e.k = some b
  | [], _, _ => by simp
  | e :: l, o, h => by
    rw [linesR] at h
    cases hx : lineR names e with
    | none => rw [hx] at h; cases h
    | some x =>
      rw [hx] at h
      obtain ⟨o', ho, rfl⟩ := Option.map_eq_some_iff.1 h
      obtain ⟨b, hb, hf, _⟩ := lineR_some hx
      intro e' he
      rcases List.mem_cons.1 he with rfl | he
      · exact ⟨hf, b, hb⟩
      · exact lines_fair names l o' ho e' he
theorem lineX_len {names : List (List UInt8)} (hn : ∀ n ∈ names, n.length ≤ 32) {e : Ed} {b : Nat} (hb : bitOf e.k = some b) (hf : fairE names e) : (lineX names e b ++ [10]).length ≤ 300 := by
  obtain ⟨f1, f2, t1, t2, y1, y2⟩ := hf
  have h1 := quoteR_len (labR_len hn (bitOf_some hb).2 e.y)
  have h2 := Lib.itoa_length_le e.f (by omega) (by omega)
  have h3 := Lib.itoa_length_le e.t (by omega) (by omega)
  unfold lineX p1 p2 p3 p4
  simp only [List.length_append, List.length_cons, List.length_nil]
  omega
theorem lines_size {names : List (List UInt8)} (hn : ∀ n ∈ names, n.length ≤ 32) : ∀ (l : List Ed) (o : List UInt8), linesR names l = some o → o.length ≤ 300 * l.length
  | [], o, h => by cases h; simp
  | e :: l, o, h => by
    rw [linesR] at h
    cases hx : lineR names e with
    | none => rw [hx] at h; cases h
    | some x =>
      rw [hx] at h
      obtain ⟨o', ho, rfl⟩ := Option.map_eq_some_iff.1 h
      obtain ⟨b, hb, hf, rfl⟩ := lineR_some hx
      have h1 := lineX_len hn hb hf
      have h2 := lines_size hn l o' ho
      rw [List.length_append, List.length_cons]
      omega
theorem print_size {names : List (List UInt8)} {l : List Ed} (h : (printR names l).2 = 0) : (printR names l).1.length ≤ 100000000 := by
  rcases printR_cases names l with ⟨h1, _⟩ | ⟨hw, hl, o, ho, he⟩
  · exact absurd h h1
  · have := lines_size (wrongR_zero hw).2 l o ho
    rw [he]
    simp only [List.length_append]
    unfold hd tl
    simp only [List.length_cons, List.length_nil]
    omega
theorem edsOk_print {names : List (List UInt8)} (hn : names.length ≤ 1000000000000) {l : List Ed} (h : (printR names l).2 = 0) : edsOk (l.map ofE) = true := by
  rcases printR_cases names l with ⟨h1, _⟩ | ⟨hw, hl, o, ho, he⟩
  · exact absurd h h1
  · unfold edsOk
    rw [Bool.and_eq_true, decide_eq_true_eq, List.all_eq_true, List.length_map]
    refine ⟨by omega, fun x hx => ?_⟩
    obtain ⟨e, hm, rfl⟩ := List.mem_map.1 hx
    obtain ⟨⟨f1, f2, t1, t2, y1, y2⟩, b, hb⟩ := lines_fair names l o ho e hm
    obtain ⟨hk, hb5⟩ := bitOf_some hb
    have hk2 : 0 ≤ e.k ∧ e.k ≤ 16 := by
      have hb4 : b = 0 ∨ b = 1 ∨ b = 2 ∨ b = 3 ∨ b = 4 := by omega
      rcases hb4 with rfl | rfl | rfl | rfl | rfl <;> rw [hk] <;> decide
    unfold edB intB ofE
    simp only [Bool.and_eq_true, decide_eq_true_eq]
    omega
theorem Read_f {l0 : List ByteArray} {a1 : ByteArray} (k : Nat) (h : namesOk l0 = true) (hs : a1.size < 4294967281) : dot_Read.f k l0 a1 = some ((readR (lists l0) a1.data.toList).1.map ofE, (readR (lists l0) a1.data.toList).2) := by
  unfold dot_Read.f
  rw [h, decide_eq_true hs]
  rfl
theorem Print_f {l0 : List ByteArray} {l1 : List S34} (k : Nat) (h : namesOk l0 = true) (hs : edsOk l1 = true) : dot_Print.f k l0 l1 = some (toB (printR (lists l0) (l1.map toE)).1, (printR (lists l0) (l1.map toE)).2) := by
  unfold dot_Print.f
  rw [h, hs]
  rfl
theorem DotAgain_pure (l0 : List ByteArray) (a1 : ByteArray) (hn : namesOk l0 = true) (hs : a1.size ≤ 1048576) : assizelaw23_DotAgain.f KK l0 a1 = some true := by
  unfold assizelaw23_DotAgain.f
  rw [alive_pure, Option.bind_some, if_pos rfl, Read_f KK hn (by omega), Option.bind_some]
  simp only
  by_cases h : (readR (lists l0) a1.data.toList).2 = 0
  · rw [if_pos h]
    have hr : readR (lists l0) a1.data.toList = ((readR (lists l0) a1.data.toList).1, 0) := by rw [← h]
    have hp := print_of_read hr
    rw [Print_f KK hn (edsOk_print (namesOk_of hn).1 (by rw [hp])), Option.bind_some, map_toE_ofE, hp]
    simp only
    rw [if_pos trivial, toL_B, toL]
    simp
  · rw [if_neg h, read_bad h]
    rfl
theorem DotBeside_pure (l0 : List ByteArray) (l1 l2 : List S34) (hn : namesOk l0 = true) (h1 : edsOk l1 = true) (h2 : edsOk l2 = true) (hl1 : l1.length ≤ 1048576) (hl2 : l2.length ≤ 1048576) : assizelaw23_DotBeside.f KK l0 l1 l2 = some true := by
  have h12 : edsOk (l1 ++ l2) = true := by
    unfold edsOk at h1 h2 ⊢
    simp only [Bool.and_eq_true, decide_eq_true_eq, List.all_append, List.length_append] at h1 h2 ⊢
    exact ⟨by omega, h1.2, h2.2⟩
  unfold assizelaw23_DotBeside.f
  rw [alive_pure, Option.bind_some, if_pos rfl, Print_f KK hn h1, Option.bind_some, Print_f KK hn h2, Option.bind_some, Option.bind_some, if_pos (by simp only [List.length_nil]; omega), Option.bind_some, if_pos (by simp only [List.nil_append]; omega), List.nil_append, Print_f KK hn h12, Option.bind_some]
  simp only [List.map_append]
  have hlm1 : (l1.map toE).length = l1.length := List.length_map _
  have hlm2 : (l2.map toE).length = l2.length := List.length_map _
  generalize hL : l1.map toE = L at *
  generalize hM : l2.map toE = M at *
  have BAD : ∀ x y, (printR (lists l0) (L ++ M)).2 ≠ 0 → (printR (lists l0) (L ++ M)).1 = [] → assizelaw23_DotBeside.j0 KK l1 l2 x y (toB (printR (lists l0) (L ++ M)).1) (printR (lists l0) (L ++ M)).2 true = some true := fun x y h3 h4 => by
    unfold KK
    simp only [assizelaw23_DotBeside.j0]
    rw [if_pos trivial, if_neg h3, h4, toL_B]
    rfl
  rcases printR_cases (lists l0) (L ++ M) with ⟨g1, g2⟩ | ⟨hw, hl, o, ho, he⟩
  · by_cases e1 : (printR (lists l0) L).2 = 0
    · rw [if_pos e1]
      by_cases e2 : (printR (lists l0) M).2 = 0
      · rw [show ((printR (lists l0) M).2 != 0) = false by rw [e2]; rfl]
        unfold KK
        simp only [assizelaw23_DotBeside.j0]
        rw [if_neg (by decide), if_neg g1]
        congr 1
        rw [decide_eq_true_eq]
        rcases printR_cases (lists l0) L with ⟨q1, _⟩ | ⟨hw, hl, o, ho, he⟩
        · exact absurd e1 q1
        · rcases printR_cases (lists l0) M with ⟨q1, _⟩ | ⟨hw', hl', o', ho', he'⟩
          · exact absurd e2 q1
          · by_cases hlen : 262144 < (L ++ M).length
            · rw [List.length_append, hlm1, hlm2] at hlen
              rw [w64 _ (by omega) (by omega)]
              omega
            · exfalso
              apply g1
              unfold printR
              rw [if_pos hw, if_neg hlen, linesR_app, ho, ho']
              rfl
      · rw [show ((printR (lists l0) M).2 != 0) = true by simpa using e2]
        exact BAD _ _ g1 g2
    · rw [if_neg e1]
      exact BAD _ _ g1 g2
  · rw [linesR_app] at ho
    rw [List.length_append] at hl
    cases ha : linesR (lists l0) L with
    | none => rw [ha] at ho; cases ho
    | some a =>
      cases hb : linesR (lists l0) M with
      | none => rw [ha, hb] at ho; cases ho
      | some b =>
        rw [ha, hb] at ho
        obtain rfl : a ++ b = o := Option.some.inj ho
        have ea : printR (lists l0) L = (hd ++ a ++ tl, 0) := by
          unfold printR
          rw [if_pos hw, if_neg (by omega), ha]
        have eb : printR (lists l0) M = (hd ++ b ++ tl, 0) := by
          unfold printR
          rw [if_pos hw, if_neg (by omega), hb]
        have sa := print_size (names := lists l0) (l := L) (by rw [ea])
        have sb := print_size (names := lists l0) (l := M) (by rw [eb])
        rw [ea] at sa
        rw [eb] at sb
        rw [he, ea, eb]
        simp only at sa sb ⊢
        rw [if_pos trivial]
        rw [show ((0 : Int) != 0) = false from rfl]
        unfold KK
        simp only [assizelaw23_DotBeside.j0]
        have la : (toB (hd ++ a ++ tl)).size = a.length + 20 := by rw [size_B]; simp only [List.length_append, hd, tl, List.length_cons, List.length_nil]; omega
        have lb : (toB (hd ++ b ++ tl)).size = b.length + 20 := by rw [size_B]; simp only [List.length_append, hd, tl, List.length_cons, List.length_nil]; omega
        rw [size_B] at la lb
        have wa : wrap64 (((toB (hd ++ a ++ tl)).size : Int) - 2) = ((a.length + 18 : Nat) : Int) := by
          rw [size_B, la, w64 _ (by omega) (by omega)]
          omega
        rw [if_neg (by decide), if_pos trivial, wa, size_B, size_B, la, lb, if_pos (by omega), if_pos (by omega), if_pos (by omega), if_pos (by omega), if_pos (by omega), Int.toNat_natCast]
        have xa : (toB (hd ++ a ++ tl)).extract 0 (a.length + 18) = toB (hd ++ a) := by
          rw [Lib.extract_eq]
          unfold toB
          congr 2
          show ((hd ++ a ++ tl).drop 0).take (a.length + 18 - 0) = hd ++ a
          rw [List.drop_zero]
          have : a.length + 18 - 0 = (hd ++ a).length := by rw [List.length_append]; simp only [hd, List.length_cons, List.length_nil]; omega
          rw [this, List.take_left]
        have xb : (toB (hd ++ b ++ tl)).extract 18 (b.length + 20) = toB (b ++ tl) := by
          rw [Lib.extract_eq]
          unfold toB
          congr 2
          show ((hd ++ b ++ tl).drop 18).take (b.length + 20 - 18) = b ++ tl
          have : (18 : Nat) = hd.length := rfl
          rw [List.append_assoc]
          conv => lhs; rw [show (18 : Nat) = hd.length from rfl]
          rw [List.drop_left]
          exact List.take_of_length_le (by simp only [List.length_append, tl, hd, List.length_cons, List.length_nil]; omega)
        rw [xa, xb, size_B, size_B, if_pos (by simp only [List.length_append] at *; omega)]
        congr 1
        rw [beq_iff_eq, toL_B, toL]
        simp [toB, ByteArray.data_append]
end Go.Proofs.YtohlbnbfpcbpdaaDoor.PS
