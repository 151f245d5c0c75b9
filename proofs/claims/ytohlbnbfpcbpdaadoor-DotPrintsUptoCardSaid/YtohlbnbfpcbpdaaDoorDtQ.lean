/- dot: the reference's line, in plain Lean. -/
import Derived.Test.YtohlbnbfpcbpdaaDoorPSxQ
import Derived.Test.YtohlbnbfpcbpdaaDoorDtK
import Derived.Laws.BitsLemmas
set_option linter.unusedVariables false
set_option linter.unusedSimpArgs false
namespace Go.Proofs.YtohlbnbfpcbpdaaDoor.PS
open Go.RowKit Go.Proofs.YtohlbnbfpcbpdaaDoorW.PrintWords Go.Proofs.YtohlbnbfpcbpdaaDoorW.PrintLast Go.Proofs.YtohlbnbfpcbpdaaDoorW.PrintMore
open Go.Proofs.YtohlbnbfpcbpdaaDoor.Lx Go.Proofs.YtohlbnbfpcbpdaaDoor.Dt

theorem size_list (a : ByteArray) : a.size = a.data.toList.length := rfl
theorem bt_get (a : ByteArray) (i : Nat) (h : i < a.data.toList.length) : bt a (i : Int) = (a.data.toList[i].toNat : Int) := by
  have hlt : i < a.size := h
  unfold bt
  rw [Int.toNat_natCast, dif_pos hlt]
  rfl
theorem strOf_bytes (l : List UInt8) : strOfNums (l.map fun b => (b.toNat : Int)) = toB l := by
  unfold strOfNums toB
  rw [List.map_map]
  congr 2
  conv => rhs; rw [← List.map_id l]
  refine List.map_congr_left fun b _ => ?_
  simp
theorem hexC_bt : ∀ j : Nat, j < 16 → bt (⟨#[48, 49, 50, 51, 52, 53, 54, 55, 56, 57, 97, 98, 99, 100, 101, 102]⟩ : ByteArray) (j : Int) = ((hexC j).toNat : Int) := by decide +kernel
def ints (l : List UInt8) : List Int := l.map fun b => (b.toNat : Int)
theorem ints_app (a b : List UInt8) : ints a ++ ints b = ints (a ++ b) := by simp [ints]
theorem ints_len (a : List UInt8) : (ints a).length = a.length := by simp [ints]
theorem Quote_loop (a : ByteArray) (ha : a.data.toList.length ≤ 10000000000000) : ∀ (d k i : Nat) (acc : List UInt8), d = a.data.toList.length - i → i ≤ a.data.toList.length → acc.length ≤ 1 + 6 * i → 2 * d + 2 ≤ k →
    assizeref01_Quote.l0 k a (ints acc) (i : Int) = some (toB (acc ++ ((a.data.toList.drop i).flatMap quoteB ++ [34])))
  | 0, k, i, acc, hd, hi, hacc, hk => by
    obtain ⟨k, rfl⟩ : ∃ m, k = m + 1 := ⟨k - 1, by omega⟩
    simp only [assizeref01_Quote.l0]
    rw [if_neg (by rw [size_list]; omega), if_pos (by rw [ints_len]; omega), List.drop_eq_nil_of_le (by omega)]
    rw [show ([34] : List Int) = ints [34] from rfl, ints_app]
    exact congrArg some (strOf_bytes _)
  | d + 1, k, i, acc, hd, hi, hacc, hk => by
    obtain ⟨k, rfl⟩ : ∃ m, k = m + 2 := ⟨k - 2, by omega⟩
    have hlt : i < a.data.toList.length := by omega
    have hc : ∀ (m : UInt8) (z : Int), z = (m.toNat : Int) → (((a.data.toList[i].toNat : Int) = z) ↔ a.data.toList[i] = m) := fun m z hz => ⟨fun e => UInt8.toNat_inj.1 (by omega), fun e => by rw [e, hz]⟩
    have hdr : (a.data.toList.drop i).flatMap quoteB = quoteB a.data.toList[i] ++ (a.data.toList.drop (i + 1)).flatMap quoteB := by
      rw [List.drop_eq_getElem_cons hlt, List.flatMap_cons]
    have NEXT : ∀ ys : List UInt8, quoteB a.data.toList[i] = ys → assizeref01_Quote.l0 k a (ints acc ++ ints ys) (wrap64 ((i : Int) + 1)) = some (toB (acc ++ ((a.data.toList.drop i).flatMap quoteB ++ [34]))) := by
      intro ys hys
      have hl := quoteB_len a.data.toList[i]
      rw [hys] at hl
      rw [ints_app, w64 _ (by omega) (by omega), show ((i : Int) + 1) = ((i + 1 : Nat) : Int) by omega]
      rw [Quote_loop a ha d k (i + 1) (acc ++ ys) (by omega) (by omega) (by rw [List.length_append]; omega) (by omega), hdr, hys]
      simp only [List.append_assoc]
    have hal : (ints acc).length ≤ 1 + 6 * i := by rw [ints_len]; exact hacc
    simp only [assizeref01_Quote.l0]
    rw [if_pos (by rw [size_list]; omega), if_pos (by omega), bt_get a i hlt]
    have TWO : a.data.toList[i] = 34 ∨ a.data.toList[i] = 92 → assizeref01_Quote.j1 (k + 1) a (ints acc) (i : Int) (a.data.toList[i].toNat : Int) true = some (toB (acc ++ ((a.data.toList.drop i).flatMap quoteB ++ [34]))) := by
      intro h
      simp only [assizeref01_Quote.j1]
      rw [if_pos trivial, Option.bind_some, if_pos (by simp only [List.length_cons, List.length_nil]; omega)]
      exact NEXT [92, a.data.toList[i]] (by unfold quoteB; rw [if_pos h])
    by_cases q1 : a.data.toList[i] = 34
    · rw [if_pos ((hc 34 34 rfl).2 q1)]
      exact TWO (.inl q1)
    · rw [if_neg (fun h => q1 ((hc 34 34 rfl).1 h))]
      by_cases q2 : a.data.toList[i] = 92
      · rw [show (((a.data.toList[i].toNat : Nat) : Int) == 92) = true from beq_iff_eq.2 ((hc 92 92 rfl).2 q2)]
        exact TWO (.inr q2)
      · rw [show (((a.data.toList[i].toNat : Nat) : Int) == 92) = false from beq_eq_false_iff_ne.2 (fun h => q2 ((hc 92 92 rfl).1 h))]
        simp only [assizeref01_Quote.j1]
        rw [if_neg (by decide)]
        have hno : ¬ (a.data.toList[i] = 34 ∨ a.data.toList[i] = 92) := fun h => h.elim q1 q2
        by_cases q3 : a.data.toList[i] = 10
        · rw [if_pos ((hc 10 10 rfl).2 q3), Option.bind_some, if_pos (by simp only [List.length_cons, List.length_nil]; omega)]
          exact NEXT [92, 110] (by unfold quoteB; rw [if_neg hno, if_pos q3])
        · rw [if_neg (fun h => q3 ((hc 10 10 rfl).1 h))]
          by_cases q4 : a.data.toList[i] = 9
          · rw [if_pos ((hc 9 9 rfl).2 q4), Option.bind_some, if_pos (by simp only [List.length_cons, List.length_nil]; omega)]
            exact NEXT [92, 116] (by unfold quoteB; rw [if_neg hno, if_neg q3, if_pos q4])
          · rw [if_neg (fun h => q4 ((hc 9 9 rfl).1 h))]
            by_cases q5 : a.data.toList[i].toNat < 32
            · have e1 : ((a.data.toList[i].toNat : Nat) : Int) / 16 = ((a.data.toList[i].toNat / 16 : Nat) : Int) := by omega
              have e2 : Go.bits .and .u8 ((a.data.toList[i].toNat : Nat) : Int) 15 = ((a.data.toList[i].toNat % 16 : Nat) : Int) := (u8_and15 (x := ((a.data.toList[i].toNat : Nat) : Int)) (by omega) (by have := UInt8.toNat_lt a.data.toList[i]; omega)).trans (by omega)
              rw [if_pos (by omega), e1, e2, if_pos (by omega), if_pos (by omega), if_pos (by omega), if_pos (by omega), Option.bind_some, if_pos (by simp only [List.length_cons, List.length_nil]; omega), hexC_bt _ (by omega), hexC_bt _ (by omega)]
              exact NEXT [92, 117, 48, 48, hexC (a.data.toList[i].toNat / 16), hexC (a.data.toList[i].toNat % 16)] (by unfold quoteB; rw [if_neg hno, if_neg q3, if_neg q4, if_pos q5])
            · rw [if_neg (by omega), if_pos (by omega)]
              exact NEXT [a.data.toList[i]] (by unfold quoteB; rw [if_neg hno, if_neg q3, if_neg q4, if_neg q5])
theorem Quote_pure (a : ByteArray) (ha : a.data.toList.length ≤ 10000000000000) (k : Nat) (hk : 2 * a.data.toList.length + 2 ≤ k) : assizeref01_Quote.f k a = some (toB (quoteR a.data.toList)) := by
  unfold assizeref01_Quote.f
  rw [show ([34] : List Int) = ints [34] from rfl, show (0 : Int) = ((0 : Nat) : Int) from rfl, Quote_loop a ha a.data.toList.length k 0 [34] rfl (by omega) (by simp) hk]
  rfl

theorem wrong_f {l0 : List ByteArray} (k : Nat) (h : namesOk l0 = true) : assizeref23_wrong.f k l0 = some (wrongR (lists l0)) := by
  unfold assizeref23_wrong.f
  rw [h]
  rfl
theorem Itoa_f {n : Int} (k : Nat) (h0 : 0 ≤ n) (h1 : n < 64) : strconv_Itoa.f k n = some (toB (Lib.itoa n)) := by
  unfold strconv_Itoa.f intB
  rw [decide_eq_true (show -9223372036854775808 ≤ n by omega), decide_eq_true (show n ≤ 9223372036854775807 by omega)]
  rfl
theorem word_none {k : Int} (h : bitOf k = none) : assizeref23_word.f k = some (toB []) := by
  unfold bitOf at h
  unfold assizeref23_word.f
  by_cases h1 : k = 1
  · rw [if_pos h1] at h; cases h
  · rw [if_neg h1] at h ⊢
    by_cases h2 : k = 2
    · rw [if_pos h2] at h; cases h
    · rw [if_neg h2] at h ⊢
      by_cases h3 : k = 4
      · rw [if_pos h3] at h; cases h
      · rw [if_neg h3] at h ⊢
        by_cases h4 : k = 8
        · rw [if_pos h4] at h; cases h
        · rw [if_neg h4] at h ⊢
          by_cases h5 : k = 16
          · rw [if_pos h5] at h; cases h
          · rw [if_neg h5]
            rfl
theorem word_some {k : Int} {b : Nat} (h : bitOf k = some b) : assizeref23_word.f k = some (toB (kw b)) := by
  obtain ⟨rfl, hb⟩ := bitOf_some h
  have hb4 : b = 0 ∨ b = 1 ∨ b = 2 ∨ b = 3 ∨ b = 4 := by omega
  rcases hb4 with rfl | rfl | rfl | rfl | rfl <;> rfl
theorem cat_B (a b : List UInt8) : toB a ++ toB b = toB (a ++ b) := by
  unfold toB
  apply ByteArray.ext
  simp
theorem rd_B (l0 : List ByteArray) (Y : Nat) (h : Y < l0.length) : rdOf ByteArray.empty l0 (Y : Int) = toB ((lists l0).getD Y []) := by
  simp [rdOf, lists, toB, h]
theorem line_bad (k : Nat) (l0 : List ByteArray) (x : ByteArray) (f t kd y : Int) : assizeref23_line.j0 (k + 1) l0 x true f t kd y = some (toB []) := by
  simp only [assizeref23_line.j0]
  rw [if_pos trivial]
  rfl
theorem line_main (k : Nat) (l0 : List ByteArray) (hn : ∀ n ∈ lists l0, n.length ≤ 32) (b : Nat) (hb : b < 5) (f t kd y : Int) (hk : 200 ≤ k) (f1 : 0 ≤ f) (f2 : f < 64) (t1 : 0 ≤ t) (t2 : t < 64) (y1 : -1 ≤ y) (y2 : y < l0.length) :
    assizeref23_line.j0 (k + 1) l0 (toB (kw b)) false f t kd y = some (toB (lineX (lists l0) ⟨f, t, kd, y⟩ b ++ [10])) := by
  have hlab := labR_len hn hb y
  have hq := quoteR_len hlab
  have h2 := Lib.itoa_length_le f (by omega) (by omega)
  have h3 := Lib.itoa_length_le t (by omega) (by omega)
  have hkw : (kw b).length = 2 := by
    have hb4 : b = 0 ∨ b = 1 ∨ b = 2 ∨ b = 3 ∨ b = 4 := by omega
    rcases hb4 with rfl | rfl | rfl | rfl | rfl <;> rfl
  have E : ∀ (lab : List UInt8), lab = labR (lists l0) b y → (strconv_Itoa.f k f).bind (fun t155 => if 3 + t155.size ≤ 9223372036854775807 then (if ((⟨#[32, 32, 116]⟩ : ByteArray) ++ t155).size + 5 ≤ 9223372036854775807 then ((strconv_Itoa.f k t).bind fun t156 => (if (((⟨#[32, 32, 116]⟩ : ByteArray) ++ t155) ++ (⟨#[32, 45, 62, 32, 116]⟩ : ByteArray)).size + t156.size ≤ 9223372036854775807 then (if ((((⟨#[32, 32, 116]⟩ : ByteArray) ++ t155) ++ (⟨#[32, 45, 62, 32, 116]⟩ : ByteArray)) ++ t156).size + 8 ≤ 9223372036854775807 then ((assizeref01_Quote.f k (toB lab)).bind fun t157 => (if (((((⟨#[32, 32, 116]⟩ : ByteArray) ++ t155) ++ (⟨#[32, 45, 62, 32, 116]⟩ : ByteArray)) ++ t156) ++ (⟨#[32, 91, 108, 97, 98, 101, 108, 61]⟩ : ByteArray)).size + t157.size ≤ 9223372036854775807 then (if ((((((⟨#[32, 32, 116]⟩ : ByteArray) ++ t155) ++ (⟨#[32, 45, 62, 32, 116]⟩ : ByteArray)) ++ t156) ++ (⟨#[32, 91, 108, 97, 98, 101, 108, 61]⟩ : ByteArray)) ++ t157).size + 3 ≤ 9223372036854775807 then (some (((((((⟨#[32, 32, 116]⟩ : ByteArray) ++ t155) ++ (⟨#[32, 45, 62, 32, 116]⟩ : ByteArray)) ++ t156) ++ (⟨#[32, 91, 108, 97, 98, 101, 108, 61]⟩ : ByteArray)) ++ t157) ++ (⟨#[93, 59, 10]⟩ : ByteArray))) else (none)) else (none))) else (none)) else (none))) else (none)) else (none)) = some (toB (lineX (lists l0) ⟨f, t, kd, y⟩ b ++ [10])) := by
    rintro lab rfl
    rw [show (⟨#[32, 32, 116]⟩ : ByteArray) = toB p1 from rfl, show (⟨#[32, 45, 62, 32, 116]⟩ : ByteArray) = toB p2 from rfl, show (⟨#[32, 91, 108, 97, 98, 101, 108, 61]⟩ : ByteArray) = toB p3 from rfl, show (⟨#[93, 59, 10]⟩ : ByteArray) = toB (p4 ++ [10]) from rfl, Itoa_f k f1 f2, Itoa_f k t1 t2,
      Quote_pure (toB (labR (lists l0) b y)) (by show (labR (lists l0) b y).length ≤ _; omega) k (by show 2 * (labR (lists l0) b y).length + 2 ≤ k; omega)]
    simp only [Option.bind_some, cat_B, size_B, data_B]
    have e1 : p1.length = 3 := rfl
    have e2 : p2.length = 5 := rfl
    have e3 : p3.length = 8 := rfl
    rw [if_pos (by omega), if_pos (by simp only [List.length_append]; omega), if_pos (by simp only [List.length_append]; omega), if_pos (by simp only [List.length_append]; omega), if_pos (by simp only [List.length_append]; omega), if_pos (by simp only [List.length_append]; omega)]
    unfold lineX
    simp only [List.append_assoc]
  simp only [assizeref23_line.j0]
  rw [if_neg (by decide)]
  rcases (show y = -1 ∨ 0 ≤ y by omega) with rfl | y0
  · rw [if_neg (by decide)]
    exact E (kw b) (by unfold labR; rw [if_neg (by decide), List.append_nil])
  · obtain ⟨Y, rfl⟩ := Int.eq_ofNat_of_zero_le y0
    have hY : Y < (lists l0).length := by rw [lists_len]; omega
    have hYl : ((lists l0).getD Y []).length ≤ 32 := by
      rw [List.getD_eq_getElem?_getD, List.getElem?_eq_getElem hY]
      exact hn _ (List.getElem_mem hY)
    rw [if_pos y0, if_pos y0, if_pos y2, rd_B l0 Y (by omega), show (⟨#[32]⟩ : ByteArray) = toB [32] from rfl, cat_B, size_B, size_B, size_B, if_pos (by omega), if_pos (by simp only [List.length_append, List.length_cons, List.length_nil]; omega), cat_B]
    exact E _ (by unfold labR; rw [if_pos (by omega), Int.toNat_natCast]; rfl)
theorem line_pure (k : Nat) (l0 : List ByteArray) (hn : ∀ n ∈ lists l0, n.length ≤ 32) (f t kd y : Int) (hk : 201 ≤ k) : assizeref23_line.f k l0 f t kd y = some (toB ((lineR (lists l0) ⟨f, t, kd, y⟩).getD [])) := by
  obtain ⟨k, rfl⟩ : ∃ m, k = m + 1 := ⟨k - 1, by omega⟩
  unfold assizeref23_line.f
  cases hb : bitOf kd with
  | none =>
    rw [word_none hb, Option.bind_some, if_pos (by rw [toL_B]), line_bad]
    unfold lineR
    rw [hb]
    rfl
  | some b =>
    have hb5 := (bitOf_some hb).2
    have hkw : kw b ≠ [] := by
      have hb4 : b = 0 ∨ b = 1 ∨ b = 2 ∨ b = 3 ∨ b = 4 := by omega
      rcases hb4 with rfl | rfl | rfl | rfl | rfl <;> decide
    have BAD : ¬ fairE (lists l0) ⟨f, t, kd, y⟩ → (lineR (lists l0) ⟨f, t, kd, y⟩).getD [] = [] := fun h => by
      unfold lineR
      rw [hb]
      simp only
      rw [if_neg h]
      rfl
    rw [word_some hb, Option.bind_some, if_neg (by rw [toL_B]; exact hkw)]
    by_cases q1 : f < 0
    · rw [if_pos q1, line_bad, BAD (fun h => by have := h.1; simp only at this; omega)]
    · by_cases q2 : f ≥ 64
      · rw [if_neg q1, if_pos q2, line_bad, BAD (fun h => by have := h.2.1; simp only at this; omega)]
      · by_cases q3 : t < 0
        · rw [if_neg q1, if_neg q2, if_pos q3, line_bad, BAD (fun h => by have := h.2.2.1; simp only at this; omega)]
        · by_cases q4 : t ≥ 64
          · rw [if_neg q1, if_neg q2, if_neg q3, if_pos q4, line_bad, BAD (fun h => by have := h.2.2.2.1; simp only at this; omega)]
          · by_cases q5 : y < -1
            · rw [if_neg q1, if_neg q2, if_neg q3, if_neg q4, if_pos q5, line_bad, BAD (fun h => by have := h.2.2.2.2.1; simp only at this; omega)]
            · rw [if_neg q1, if_neg q2, if_neg q3, if_neg q4, if_neg q5]
              by_cases q6 : y ≥ (l0.length : Int)
              · rw [decide_eq_true q6, line_bad, BAD (fun h => by have := h.2.2.2.2.2; simp only [lists_len] at this; omega)]
              · rw [decide_eq_false q6, line_main k l0 hn b hb5 f t kd y (by omega) (by omega) (by omega) (by omega) (by omega) (by omega) (by omega)]
                rw [lineR_of (e := ⟨f, t, kd, y⟩) hb (show 0 ≤ f ∧ f < 64 ∧ 0 ≤ t ∧ t < 64 ∧ -1 ≤ y ∧ y < ((lists l0).length : Int) from by rw [lists_len]; omega)]
                rfl
end Go.Proofs.YtohlbnbfpcbpdaaDoor.PS
