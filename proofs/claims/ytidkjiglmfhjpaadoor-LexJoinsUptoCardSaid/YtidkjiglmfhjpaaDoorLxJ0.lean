/- LexJoins' share of the plain laws: printed by mkjoin.py out of LxPB, LxL1, LxL2. -/
import Derived.Test.YtidkjiglmfhjpaaDoorPJa
import Derived.Laws.BitsLemmas
set_option linter.unusedVariables false
set_option linter.unusedSimpArgs false
namespace Go.Proofs.YtidkjiglmfhjpaaDoor.PS
open Go.RowKit Go.Proofs.YtidkjiglmfhjpaaDoorW.PrintWords Go.Proofs.YtidkjiglmfhjpaaDoorW.PrintLast Go.Proofs.YtidkjiglmfhjpaaDoorW.PrintMore
open Go.Proofs.YtidkjiglmfhjpaaDoor.Lx

theorem w64 (n : Int) (h0 : 0 ≤ n) (h1 : n < 9223372036854775808) : wrap64 n = n := by unfold wrap64; omega
theorem toL (a : ByteArray) : a.toList = a.data.toList := Lib.toList_data a
theorem size_list (a : ByteArray) : a.size = a.data.toList.length := rfl
theorem data_toB (l : List UInt8) : (toB l).data.toList = l := rfl
theorem size_toB (l : List UInt8) : (toB l).size = l.length := by simp [toB, ByteArray.size]
theorem bt_get (a : ByteArray) (i : Nat) (h : i < a.data.toList.length) : bt a (i : Int) = (a.data.toList[i].toNat : Int) := by
  have hlt : i < a.size := h
  unfold bt
  rw [Int.toNat_natCast, dif_pos hlt]
  rfl
theorem strOf_bytes (l : List UInt8) : strOfNums (l.map fun b => (b.toNat : Int)) = toB l := by
  unfold strOfNums toB
  rw [List.map_map]
  congr 2
  conv => rhs; rw [← List.map_id l]
  refine List.map_congr_left fun b _ => ?_
  simp
theorem alive_pure (k : Nat) : assizelaw01_alive.f k = some true := by kernel_rfl
theorem same_loop (l : List S33) (hl : l.length < 4611686018427387904) : ∀ (n k i : Nat), n = l.length - i → i ≤ l.length → n < k → assizelaw01_same.l0 k l l (i : Int) = some true
  | 0, k + 1, i, hn, hi, _ => by
    simp only [assizelaw01_same.l0]
    rw [if_neg (by omega)]
  | n + 1, k + 1, i, hn, hi, hk => by
    simp only [assizelaw01_same.l0]
    rw [if_pos (by omega), if_pos (by omega), if_pos (by omega), if_neg (by simp), w64 _ (by omega) (by omega)]
    exact same_loop l hl n k (i + 1) (by omega) (by omega) (by omega)
theorem same_pure (l : List S33) (hl : l.length < 4611686018427387904) (k : Nat) (hk : l.length < k) : assizelaw01_same.f k l l = some true := by
  unfold assizelaw01_same.f
  rw [if_pos rfl]
  exact same_loop l hl l.length k 0 (by omega) (by omega) hk
theorem hexC_bt : ∀ j : Nat, j < 16 → bt (⟨#[48, 49, 50, 51, 52, 53, 54, 55, 56, 57, 97, 98, 99, 100, 101, 102]⟩ : ByteArray) (j : Int) = ((hexC j).toNat : Int) := by decide +kernel
def ints (l : List UInt8) : List Int := l.map fun b => (b.toNat : Int)
theorem ints_app (a b : List UInt8) : ints a ++ ints b = ints (a ++ b) := by simp [ints]
theorem ints_len (a : List UInt8) : (ints a).length = a.length := by simp [ints]
theorem Quote_loop (a : ByteArray) (ha : a.data.toList.length ≤ 10000000000000) : ∀ (d k i : Nat) (acc : List UInt8), d = a.data.toList.length - i → i ≤ a.data.toList.length → acc.length ≤ 1 + 6 * i → 2 * d + 2 ≤ k →
    assizeref01_Quote.l0 k a (ints acc) (i : Int) = some (toB (acc ++ ((a.data.toList.drop i).flatMap quoteB ++ [34])))
  | 0, k, i, acc, hd, hi, hacc, hk => by
    obtain ⟨k, rfl⟩ : ∃ m, k = m + 1 := ⟨k - 1, by omega⟩
    simp only [assizeref01_Quote.l0]
    rw [if_neg (by rw [size_list]; omega), if_pos (by rw [ints_len]; omega), List.drop_eq_nil_of_le (by omega)]
    rw [show ([34] : List Int) = ints [34] from rfl, ints_app]
    exact congrArg some (strOf_bytes _)
  | d + 1, k, i, acc, hd, hi, hacc, hk => by
    obtain ⟨k, rfl⟩ : ∃ m, k = m + 2 := ⟨k - 2, by omega⟩
    have hlt : i < a.data.toList.length := by omega
    have hc : ∀ (m : UInt8) (z : Int), z = (m.toNat : Int) → (((a.data.toList[i].toNat : Int) = z) ↔ a.data.toList[i] = m) := fun m z hz => ⟨fun e => UInt8.toNat_inj.1 (by omega), fun e => by rw [e, hz]⟩
    have hdr : (a.data.toList.drop i).flatMap quoteB = quoteB a.data.toList[i] ++ (a.data.toList.drop (i + 1)).flatMap quoteB := by
      rw [List.drop_eq_getElem_cons hlt, List.flatMap_cons]
    have NEXT : ∀ ys : List UInt8, quoteB a.data.toList[i] = ys → assizeref01_Quote.l0 k a (ints acc ++ ints ys) (wrap64 ((i : Int) + 1)) = some (toB (acc ++ ((a.data.toList.drop i).flatMap quoteB ++ [34]))) := by
      intro ys hys
      have hl := quoteB_len a.data.toList[i]
      rw [hys] at hl
      rw [ints_app, w64 _ (by omega) (by omega), show ((i : Int) + 1) = ((i + 1 : Nat) : Int) by omega]
      rw [Quote_loop a ha d k (i + 1) (acc ++ ys) (by omega) (by omega) (by rw [List.length_append]; omega) (by omega), hdr, hys]
      simp only [List.append_assoc]
    have hal : (ints acc).length ≤ 1 + 6 * i := by rw [ints_len]; exact hacc
    simp only [assizeref01_Quote.l0]
    rw [if_pos (by rw [size_list]; omega), if_pos (by omega), bt_get a i hlt]
    have TWO : a.data.toList[i] = 34 ∨ a.data.toList[i] = 92 → assizeref01_Quote.j1 (k + 1) a (ints acc) (i : Int) (a.data.toList[i].toNat : Int) true = some (toB (acc ++ ((a.data.toList.drop i).flatMap quoteB ++ [34]))) := by
      intro h
      simp only [assizeref01_Quote.j1]
      rw [if_pos trivial, Option.bind_some, if_pos (by simp only [List.length_cons, List.length_nil]; omega)]
      exact NEXT [92, a.data.toList[i]] (by unfold quoteB; rw [if_pos h])
    by_cases q1 : a.data.toList[i] = 34
    · rw [if_pos ((hc 34 34 rfl).2 q1)]
      exact TWO (.inl q1)
    · rw [if_neg (fun h => q1 ((hc 34 34 rfl).1 h))]
      by_cases q2 : a.data.toList[i] = 92
      · rw [show (((a.data.toList[i].toNat : Nat) : Int) == 92) = true from beq_iff_eq.2 ((hc 92 92 rfl).2 q2)]
        exact TWO (.inr q2)
      · rw [show (((a.data.toList[i].toNat : Nat) : Int) == 92) = false from beq_eq_false_iff_ne.2 (fun h => q2 ((hc 92 92 rfl).1 h))]
        simp only [assizeref01_Quote.j1]
        rw [if_neg (by decide)]
        have hno : ¬ (a.data.toList[i] = 34 ∨ a.data.toList[i] = 92) := fun h => h.elim q1 q2
        by_cases q3 : a.data.toList[i] = 10
        · rw [if_pos ((hc 10 10 rfl).2 q3), Option.bind_some, if_pos (by simp only [List.length_cons, List.length_nil]; omega)]
          exact NEXT [92, 110] (by unfold quoteB; rw [if_neg hno, if_pos q3])
        · rw [if_neg (fun h => q3 ((hc 10 10 rfl).1 h))]
          by_cases q4 : a.data.toList[i] = 9
          · rw [if_pos ((hc 9 9 rfl).2 q4), Option.bind_some, if_pos (by simp only [List.length_cons, List.length_nil]; omega)]
            exact NEXT [92, 116] (by unfold quoteB; rw [if_neg hno, if_neg q3, if_pos q4])
          · rw [if_neg (fun h => q4 ((hc 9 9 rfl).1 h))]
            by_cases q5 : a.data.toList[i].toNat < 32
            · have e1 : ((a.data.toList[i].toNat : Nat) : Int) / 16 = ((a.data.toList[i].toNat / 16 : Nat) : Int) := by omega
              have e2 : Go.bits .and .u8 ((a.data.toList[i].toNat : Nat) : Int) 15 = ((a.data.toList[i].toNat % 16 : Nat) : Int) := (u8_and15 (x := ((a.data.toList[i].toNat : Nat) : Int)) (by omega) (by have := UInt8.toNat_lt a.data.toList[i]; omega)).trans (by omega)
              rw [if_pos (by omega), e1, e2, if_pos (by omega), if_pos (by omega), if_pos (by omega), if_pos (by omega), Option.bind_some, if_pos (by simp only [List.length_cons, List.length_nil]; omega), hexC_bt _ (by omega), hexC_bt _ (by omega)]
              exact NEXT [92, 117, 48, 48, hexC (a.data.toList[i].toNat / 16), hexC (a.data.toList[i].toNat % 16)] (by unfold quoteB; rw [if_neg hno, if_neg q3, if_neg q4, if_pos q5])
            · rw [if_neg (by omega), if_pos (by omega)]
              exact NEXT [a.data.toList[i]] (by unfold quoteB; rw [if_neg hno, if_neg q3, if_neg q4, if_neg q5])
theorem Quote_pure (a : ByteArray) (ha : a.data.toList.length ≤ 10000000000000) (k : Nat) (hk : 2 * a.data.toList.length + 2 ≤ k) : assizeref01_Quote.f k a = some (toB (quoteR a.data.toList)) := by
  unfold assizeref01_Quote.f
  rw [show ([34] : List Int) = ints [34] from rfl, show (0 : Int) = ((0 : Nat) : Int) from rfl, Quote_loop a ha a.data.toList.length k 0 [34] rfl (by omega) (by simp) hk]
  rfl
end Go.Proofs.YtidkjiglmfhjpaaDoor.PS
