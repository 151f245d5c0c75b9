/- The reference's hex, letter, escape, text, as printed, are the plain ones. -/
import Derived.Test.YtidkjiglmfhjpaaDoorPSx4
import Derived.Laws.BitsLemmas
import Derived.Test.YtidkjiglmfhjpaaDoorPSx6
set_option linter.unusedVariables false
set_option linter.unusedSimpArgs false
namespace Go.Proofs.YtidkjiglmfhjpaaDoor.PS
open Go.RowKit Go.Proofs.YtidkjiglmfhjpaaDoorW.PrintWords Go.Proofs.YtidkjiglmfhjpaaDoorW.PrintLast Go.Proofs.YtidkjiglmfhjpaaDoorW.PrintMore
open Go.Proofs.YtidkjiglmfhjpaaDoor.Lx

theorem w64 (n : Int) (h0 : 0 ≤ n) (h1 : n < 9223372036854775808) : wrap64 n = n := by unfold wrap64; omega
theorem toL (a : ByteArray) : a.toList = a.data.toList := Lib.toList_data a
theorem toB_list (a : ByteArray) : toB a.data.toList = a := rfl
theorem size_list (a : ByteArray) : a.size = a.data.toList.length := rfl
theorem toL_toB (l : List UInt8) : (toB l).toList = l := by rw [toL]; rfl
theorem data_toB (l : List UInt8) : (toB l).data.toList = l := rfl
theorem size_toB (l : List UInt8) : (toB l).size = l.length := by simp [toB, ByteArray.size]
theorem bt_get (a : ByteArray) (i : Nat) (h : i < a.data.toList.length) : bt a (i : Int) = (a.data.toList[i].toNat : Int) := by
  have hlt : i < a.size := h
  unfold bt
  rw [Int.toNat_natCast, dif_pos hlt]
  rfl
theorem bt_eq (a : ByteArray) (i : Nat) (h : i < a.data.toList.length) (c : UInt8) : (bt a (i : Int) = (c.toNat : Int)) ↔ a.data.toList[i] = c := by
  rw [bt_get a i h]
  constructor
  · intro e
    exact UInt8.toNat_inj.1 (by omega)
  · intro e
    rw [e]
theorem digit_pure (c : UInt8) : assizeref01_digit.f (c.toNat : Int) = some (isDigit c) := by
  unfold assizeref01_digit.f isDigit
  by_cases h : 48 ≤ c.toNat
  · rw [if_pos (by omega), decide_eq_true h]
    congr 1
    rw [Bool.true_and, Bool.eq_iff_iff, decide_eq_true_eq, decide_eq_true_eq]
    omega
  · rw [if_neg (by omega), decide_eq_false h]
    rfl
theorem hex_fin : ∀ n : Nat, n < 256 → assizeref01_hex.f 1 (n : Int) = some (match hexD n with | some d => (d : Int) | none => -1) := by decide +kernel
theorem hex_pure (k : Nat) (hk : 1 ≤ k) (c : UInt8) : assizeref01_hex.f k (c.toNat : Int) = some (match hexD c.toNat with | some d => (d : Int) | none => -1) := by
  obtain ⟨k, rfl⟩ : ∃ m, k = m + 1 := ⟨k - 1, by omega⟩
  exact hex_fin c.toNat (UInt8.toNat_lt c)
theorem and63 (n : Int) (h0 : 0 ≤ n) (h1 : n < 2 ^ 32) : Go.bits .and .i64 n 63 = n % 64 := bits_mask .i64 32 (by decide) (fun n h0 h1 => by rw [IntKind.wrap_i64]; omega) 6 (by decide) n h0 h1
theorem or128 (y : Int) (h0 : 0 ≤ y) (h1 : y < 64) : Go.bits .or .i64 128 y = 128 + y := bits_join .i64 32 (by decide) (fun n h0 h1 => by rw [IntKind.wrap_i64]; omega) 6 128 y (by decide) (by decide) (by decide) h0 (by omega) (by omega)
theorem or192 (y : Int) (h0 : 0 ≤ y) (h1 : y < 32) : Go.bits .or .i64 192 y = 192 + y := bits_join .i64 32 (by decide) (fun n h0 h1 => by rw [IntKind.wrap_i64]; omega) 6 192 y (by decide) (by decide) (by decide) h0 (by omega) (by omega)
theorem or224 (y : Int) (h0 : 0 ≤ y) (h1 : y < 16) : Go.bits .or .i64 224 y = 224 + y := bits_join .i64 32 (by decide) (fun n h0 h1 => by rw [IntKind.wrap_i64]; omega) 5 224 y (by decide) (by decide) (by decide) h0 (by omega) (by omega)
theorem strOf_bytes (l : List UInt8) : strOfNums (l.map fun b => (b.toNat : Int)) = toB l := by
  unfold strOfNums toB
  rw [List.map_map]
  congr 2
  conv => rhs; rw [← List.map_id l]
  refine List.map_congr_left fun b _ => ?_
  simp
theorem strOf_nats (ns : List Nat) (h : ∀ n ∈ ns, n < 256) : strOfNums (ns.map fun n : Nat => (n : Int)) = toB (ns.map UInt8.ofNat) := by
  rw [← strOf_bytes, List.map_map]
  congr 1
  refine List.map_congr_left fun n hn => ?_
  have := h n hn
  simp only [Function.comp]
  rw [UInt8.toNat_ofNat']
  omega
theorem letter_pure (n : Nat) (hn : n < 65536) : assizeref01_letter.f (n : Int) = some (toB (runeB n)) := by
  unfold assizeref01_letter.f runeB
  by_cases h1 : n < 128
  · rw [if_pos (by omega), if_pos h1]
    have := strOf_nats [n] (by simp; omega)
    simp only [List.map_cons, List.map_nil] at this
    rw [← this, show ((n : Int) % 256) = (n : Int) by omega]
  · rw [if_neg (by omega), if_neg h1]
    by_cases h2 : n < 2048
    · rw [if_pos (by omega), if_pos h2, and63 _ (by omega) (by omega), or192 _ (by omega) (by omega), or128 _ (by omega) (by omega)]
      have := strOf_nats [192 + n / 64, 128 + n % 64] (by simp; omega)
      simp only [List.map_cons, List.map_nil] at this
      rw [← this, show ((192 + (n : Int) / 64) % 256) = ((192 + n / 64 : Nat) : Int) by omega, show ((128 + (n : Int) % 64) % 256) = ((128 + n % 64 : Nat) : Int) by omega]
    · rw [if_neg (by omega), if_neg h2, and63 _ (by omega) (by omega), and63 _ (by omega) (by omega), or224 _ (by omega) (by omega), or128 _ (by omega) (by omega), or128 _ (by omega) (by omega)]
      have := strOf_nats [224 + n / 4096, 128 + n / 64 % 64, 128 + n % 64] (by simp; omega)
      simp only [List.map_cons, List.map_nil] at this
      rw [← this, show ((224 + (n : Int) / 4096) % 256) = ((224 + n / 4096 : Nat) : Int) by omega, show ((128 + (n : Int) / 64 % 64) % 256) = ((128 + n / 64 % 64 : Nat) : Int) by omega, show ((128 + (n : Int) % 64) % 256) = ((128 + n % 64 : Nat) : Int) by omega]
/-- A place behind, or none, as the reference tells it. -/
def esO : Option (List UInt8 × Nat) → ByteArray × Int
  | some (o, a2) => (toB o, (a2 : Int))
  | none => (toB [], -1)
def escU (l : List UInt8) (i j n : Nat) : Option (List UInt8 × Nat) := if l.length < i + 5 then none else match hexN n ((l.drop (i + 1 + j)).take (4 - j)) with
  | none => none
  | some m => if 55296 ≤ m ∧ m ≤ 57343 then none else some (runeB m, i + 5)
theorem esc_loop (a : ByteArray) (i : Nat) (ha : a.data.toList.length ≤ 1000000000000) (hi : i < a.data.toList.length) : ∀ (d k j n : Nat), d = 4 - j → j ≤ 4 → n < 16 ^ j → d + 2 ≤ k → i + 1 + j ≤ a.data.toList.length →
    assizeref01_escape.l0 k a (i : Int) (n : Int) ((i + 1 + j : Nat) : Int) = some (esO (escU a.data.toList i j n))
  | 0, k, j, n, hd, hj, hn, hk, hjl => by
    obtain ⟨k, rfl⟩ : ∃ m, k = m + 1 := ⟨k - 1, by omega⟩
    have hj4 : j = 4 := by omega
    subst hj4
    have hn' : n < 65536 := hn
    unfold assizeref01_escape.l0
    rw [w64 ((i : Int) + 5) (by omega) (by omega), if_neg (by omega)]
    unfold escU
    rw [show 4 - 4 = 0 from rfl, List.take_zero]
    by_cases hlen : a.data.toList.length < i + 5
    · omega
    · rw [if_neg hlen]
      simp only [hexN]
      by_cases h1 : 55296 ≤ n
      · rw [if_pos (by omega)]
        by_cases h2 : n ≤ 57343
        · rw [if_pos (by omega), if_pos ⟨h1, h2⟩]
          rfl
        · rw [if_neg (by omega), if_neg (fun h => h2 h.2), letter_pure n hn', Option.bind_some]
          rfl
      · rw [if_neg (by omega), if_neg (fun h => h1 h.1), letter_pure n hn', Option.bind_some]
        rfl
  | d + 1, k, j, n, hd, hj, hn, hk, hjl => by
    obtain ⟨k, rfl⟩ : ∃ m, k = m + 1 := ⟨k - 1, by omega⟩
    have hn' : n < 65536 := Nat.lt_of_lt_of_le hn (show 16 ^ j ≤ 16 ^ 4 from Nat.pow_le_pow_right (by decide) hj)
    unfold assizeref01_escape.l0
    rw [w64 ((i : Int) + 5) (by omega) (by omega), if_pos (by omega)]
    by_cases hge : a.data.toList.length ≤ i + 1 + j
    · rw [if_pos (by rw [size_list]; omega)]
      unfold escU
      rw [if_pos (by omega)]
      rfl
    · have hlt : i + 1 + j < a.data.toList.length := by omega
      rw [if_neg (by rw [size_list]; omega), if_pos (by omega), if_pos (by rw [size_list]; omega), bt_get a _ hlt, hex_pure k (by omega), Option.bind_some]
      have hdr : (a.data.toList.drop (i + 1 + j)).take (4 - j) = a.data.toList[i + 1 + j] :: (a.data.toList.drop (i + 1 + (j + 1))).take (4 - (j + 1)) := by
        rw [List.drop_eq_getElem_cons hlt, show 4 - j = (4 - (j + 1)) + 1 by omega, List.take_succ_cons]
        rfl
      cases hx : hexD a.data.toList[i + 1 + j].toNat with
      | none =>
        rw [if_pos (by simp)]
        unfold escU
        by_cases hlen : a.data.toList.length < i + 5
        · rw [if_pos hlen]; rfl
        · rw [if_neg hlen, hdr, hexN, hx]; rfl
      | some v =>
        have hv := hexD_lt _ (UInt8.toNat_lt _) v hx
        rw [if_neg (by simp), Option.bind_some]
        simp only []
        rw [w64 (16 * (n : Int)) (by omega) (by omega), w64 (16 * (n : Int) + (v : Int)) (by omega) (by omega), w64 (((i + 1 + j : Nat) : Int) + 1) (by omega) (by omega)]
        have ih := esc_loop a i ha hi d k (j + 1) (n * 16 + v) (by omega) (by omega) (by rw [Nat.pow_succ]; omega) (by omega) (by omega)
        rw [show 16 * (n : Int) + (v : Int) = ((n * 16 + v : Nat) : Int) by omega, show (((i + 1 + j : Nat) : Int) + 1) = ((i + 1 + (j + 1) : Nat) : Int) by omega, ih]
        congr 2
        unfold escU
        by_cases hlen : a.data.toList.length < i + 5
        · rw [if_pos hlen, if_pos hlen]
        · rw [if_neg hlen, if_neg hlen, hdr, hexN, hx]
theorem indexByte_not (c : UInt8) : ∀ (t : List UInt8), c ∉ t → Lib.indexByte t c = -1
  | [], _ => rfl
  | b :: t, h => by
    unfold Lib.indexByte
    have h1 : b ≠ c := fun e => h (by simp [e])
    have h2 := indexByte_not c t (fun e => h (by simp [e]))
    rw [h2]
    simp [h1]
theorem extract_one (a : ByteArray) (i : Nat) (h : i < a.data.toList.length) : a.extract i (i + 1) = toB [a.data.toList[i]] := by
  apply ByteArray.ext
  rw [ByteArray.data_extract]
  apply Array.ext'
  rw [Array.toList_extract, List.extract_eq_take_drop, show i + 1 - i = 1 by omega, List.drop_eq_getElem_cons h]
  rfl
theorem escape_pure (a : ByteArray) (i : Nat) (ha : a.data.toList.length ≤ 1000000000000) (k : Nat) (hk : 8 ≤ k) : assizeref01_escape.f k a (i : Int) = some (esO (escR a.data.toList i)) := by
  unfold assizeref01_escape.f
  by_cases hge : a.data.toList.length ≤ i
  · rw [if_pos (by rw [size_list]; omega)]
    unfold escR
    rw [List.getElem?_eq_none hge]
    rfl
  · have hlt : i < a.data.toList.length := by omega
    obtain ⟨k, rfl⟩ : ∃ m, k = m + 1 := ⟨k - 1, by omega⟩
    rw [if_neg (by rw [size_list]; omega), if_pos (by omega), if_pos (by rw [size_list]; omega)]
    have hE : escR a.data.toList i = if 0 ≤ Lib.indexByte escTab a.data.toList[i] then some ([escOut.getD (Lib.indexByte escTab a.data.toList[i]).toNat 0], i + 1) else
      if a.data.toList[i] ≠ 117 ∨ a.data.toList.length < i + 5 then none else
      match hexN 0 ((a.data.toList.drop (i + 1)).take 4) with
      | none => none
      | some n => if 55296 ≤ n ∧ n ≤ 57343 then none else some (runeB n, i + 5) := by
      rw [escR, List.getElem?_eq_getElem hlt]
      rfl
    have hw : wrap64 ((i : Int) + 1) = ((i + 1 : Nat) : Int) := w64 _ (by omega) (by omega)
    have hex1 := extract_one a i hlt
    have hbt := bt_get a i hlt
    have key : ∀ (b : Bool) (h : b = true → a.data.toList[i] = 34 ∨ a.data.toList[i] = 92 ∨ a.data.toList[i] = 47) (h' : b = false → a.data.toList[i] ≠ 34 ∧ a.data.toList[i] ≠ 92 ∧ a.data.toList[i] ≠ 47),
        assizeref01_escape.j0 (k + 1) a (i : Int) (bt a (i : Int)) b = some (esO (escR a.data.toList i)) := by
      intro b hb hb'
      simp only [assizeref01_escape.j0]
      rw [hw, hE]
      cases b with
      | true =>
        rw [if_pos rfl, if_pos (by omega), if_pos (by omega), if_pos (by rw [size_list]; omega), Int.toNat_natCast, Int.toNat_natCast, hex1]
        rcases hb rfl with h | h | h
        all_goals
          rw [h]
          rfl
      | false =>
        obtain ⟨n1, n2, n3⟩ := hb' rfl
        rw [if_neg (by decide), hbt]
        have hc : ∀ (m : UInt8) (z : Int), z = (m.toNat : Int) → (((a.data.toList[i].toNat : Int) = z) ↔ a.data.toList[i] = m) := fun m z hz => ⟨fun e => UInt8.toNat_inj.1 (by omega), fun e => by rw [e, hz]⟩
        by_cases m1 : a.data.toList[i] = 98
        · rw [if_pos ((hc 98 98 rfl).2 m1), m1]; rfl
        · rw [if_neg (fun h => m1 ((hc 98 98 rfl).1 h))]
          by_cases m2 : a.data.toList[i] = 102
          · rw [if_pos ((hc 102 102 rfl).2 m2), m2]; rfl
          · rw [if_neg (fun h => m2 ((hc 102 102 rfl).1 h))]
            by_cases m3 : a.data.toList[i] = 110
            · rw [if_pos ((hc 110 110 rfl).2 m3), m3]; rfl
            · rw [if_neg (fun h => m3 ((hc 110 110 rfl).1 h))]
              by_cases m4 : a.data.toList[i] = 114
              · rw [if_pos ((hc 114 114 rfl).2 m4), m4]; rfl
              · rw [if_neg (fun h => m4 ((hc 114 114 rfl).1 h))]
                by_cases m5 : a.data.toList[i] = 116
                · rw [if_pos ((hc 116 116 rfl).2 m5), m5]; rfl
                · rw [if_neg (fun h => m5 ((hc 116 116 rfl).1 h))]
                  have hno : Lib.indexByte escTab a.data.toList[i] = -1 := indexByte_not _ _ (by
                    unfold escTab
                    simp only [List.mem_cons, List.not_mem_nil, or_false]
                    rintro (h | h | h | h | h | h | h | h)
                    · exact n1 h
                    · exact n2 h
                    · exact n3 h
                    · exact m1 h
                    · exact m2 h
                    · exact m3 h
                    · exact m4 h
                    · exact m5 h)
                  rw [hno, if_neg (show ¬ (0 : Int) ≤ -1 by decide)]
                  by_cases m6 : a.data.toList[i] = 117
                  · rw [if_pos ((hc 117 117 rfl).2 m6)]
                    have := esc_loop a i ha hlt 4 k 0 0 rfl (by omega) (by decide) (by omega) (by omega)
                    rw [show ((i + 1 + 0 : Nat) : Int) = ((i + 1 : Nat) : Int) from rfl] at this
                    rw [show ((0 : Nat) : Int) = 0 from rfl] at this
                    rw [this]
                    unfold escU
                    by_cases hlen : a.data.toList.length < i + 5
                    · rw [if_pos hlen, if_pos (Or.inr hlen)]
                    · rw [if_neg hlen, if_neg (fun h => Or.elim h (fun h => h m6) hlen)]
                  · rw [if_neg (fun h => m6 ((hc 117 117 rfl).1 h)), if_pos (Or.inl m6)]
                    rfl
    have hc : ∀ (m : UInt8) (z : Int), z = (m.toNat : Int) → (bt a (i : Int) = z ↔ a.data.toList[i] = m) := fun m z hz => by rw [hz]; exact bt_eq a i hlt m
    by_cases q1 : a.data.toList[i] = 34
    · rw [if_pos ((hc 34 34 rfl).2 q1)]
      have hb : (bt a (i : Int) == 34) = true := beq_iff_eq.2 ((hc 34 34 rfl).2 q1)
      rw [hb]
      exact key true (fun _ => .inl q1) (fun h => by cases h)
    · rw [if_neg (fun h => q1 ((hc 34 34 rfl).1 h))]
      by_cases q2 : a.data.toList[i] = 92
      · rw [if_pos ((hc 92 92 rfl).2 q2)]
        have hb : (bt a (i : Int) == 92) = true := beq_iff_eq.2 ((hc 92 92 rfl).2 q2)
        rw [hb]
        exact key true (fun _ => .inr (.inl q2)) (fun h => by cases h)
      · rw [if_neg (fun h => q2 ((hc 92 92 rfl).1 h))]
        refine key _ (fun h => .inr (.inr ((hc 47 47 rfl).1 (beq_iff_eq.1 h)))) (fun h => ⟨q1, q2, fun e => ?_⟩)
        rw [beq_iff_eq.2 ((hc 47 47 rfl).2 e)] at h
        cases h
end Go.Proofs.YtidkjiglmfhjpaaDoor.PS
/- The reference's text, one, Tokens, as printed, are the plain ones. -/
namespace Go.Proofs.YtidkjiglmfhjpaaDoor.PS
open Go.RowKit Go.Proofs.YtidkjiglmfhjpaaDoorW.PrintWords Go.Proofs.YtidkjiglmfhjpaaDoorW.PrintLast Go.Proofs.YtidkjiglmfhjpaaDoorW.PrintMore
open Go.Proofs.YtidkjiglmfhjpaaDoor.Lx

theorem esO_some (o : List UInt8) (a2 : Nat) : esO (some (o, a2)) = (toB o, (a2 : Int)) := rfl
theorem esO_none : esO none = (toB [], -1) := rfl
theorem byteInts_snoc (l : List UInt8) (c : UInt8) : (l.map fun b => (b.toNat : Int)) ++ [(c.toNat : Int)] = (l ++ [c]).map fun b => (b.toNat : Int) := by simp
theorem bytesOf_toB (l : List UInt8) : bytesOf (toB l) = l.map fun b => (b.toNat : Int) := rfl
theorem text_loop (a : ByteArray) (ha : a.data.toList.length ≤ 1000000000000) : ∀ (f k i : Nat) (acc : List UInt8), a.data.toList.length < i + f → acc.length ≤ 1000000000000 + i → 2 * f + 10 ≤ k →
    assizeref01_text.l0 k a (i : Int) (acc.map fun b => (b.toNat : Int)) = some (esO (textR a.data.toList f i acc))
  | 0, k, i, acc, hf, hacc, hk => by
    obtain ⟨k, rfl⟩ : ∃ m, k = m + 2 := ⟨k - 2, by omega⟩
    simp only [assizeref01_text.l0]
    rw [if_neg (by rw [size_list]; omega)]
    simp only [assizeref01_text.j1]
    rw [if_neg (by decide)]
    rfl
  | f + 1, k, i, acc, hf, hacc, hk => by
    obtain ⟨k, rfl⟩ : ∃ m, k = m + 2 := ⟨k - 2, by omega⟩
    simp only [assizeref01_text.l0]
    by_cases hge : a.data.toList.length ≤ i
    · rw [if_neg (by rw [size_list]; omega)]
      simp only [assizeref01_text.j1]
      rw [if_neg (by decide), textR, List.getElem?_eq_none hge]
      rfl
    · have hlt : i < a.data.toList.length := by omega
      have hT : textR a.data.toList (f + 1) i acc = if a.data.toList[i] = 34 then some (acc, i + 1) else if a.data.toList[i].toNat < 32 then none else if a.data.toList[i] = 92 then
          match escR a.data.toList (i + 1) with
          | none => none
          | some (o, a2) => textR a.data.toList f a2 (acc ++ o)
        else textR a.data.toList f (i + 1) (acc ++ [a.data.toList[i]]) := by
        rw [textR, List.getElem?_eq_getElem hlt]
        rfl
      have hc : ∀ (m : UInt8) (z : Int), z = (m.toNat : Int) → (bt a (i : Int) = z ↔ a.data.toList[i] = m) := fun m z hz => by rw [hz]; exact bt_eq a i hlt m
      have hw : wrap64 ((i : Int) + 1) = ((i + 1 : Nat) : Int) := w64 _ (by omega) (by omega)
      rw [if_pos (by rw [size_list]; omega), if_pos (by omega)]
      simp only [assizeref01_text.j1]
      rw [hw]
      by_cases h32 : a.data.toList[i].toNat < 32
      · have hd : decide (bt a (i : Int) ≥ 32) = false := decide_eq_false (by rw [bt_get a i hlt]; omega)
        rw [hd, if_neg (by decide), hT, if_neg (fun h => by rw [h] at h32; exact absurd h32 (by decide)), if_pos h32]
        rfl
      · have hd : decide (bt a (i : Int) ≥ 32) = true := decide_eq_true (by rw [bt_get a i hlt]; omega)
        rw [hd, if_pos rfl, if_pos (by omega), if_pos (by rw [size_list]; omega), hT]
        by_cases q1 : a.data.toList[i] = 34
        · rw [if_pos ((hc 34 34 rfl).2 q1), if_pos q1, strOf_bytes]
          rfl
        · rw [if_neg (fun h => q1 ((hc 34 34 rfl).1 h)), if_neg q1, if_neg h32]
          by_cases q2 : a.data.toList[i] = 92
          · rw [if_pos ((hc 92 92 rfl).2 q2), if_pos q2, escape_pure a (i + 1) ha k (by omega), Option.bind_some]
            cases hx : escR a.data.toList (i + 1) with
            | none => rfl
            | some p =>
              obtain ⟨o, a2⟩ := p
              have hst := escR_step hx
              rw [esO_some]
              dsimp only
              rw [if_neg (by omega), if_pos (by rw [List.length_map, size_toB]; omega), bytesOf_toB, ← List.map_append]
              exact text_loop a ha f k a2 (acc ++ o) (by omega) (by rw [List.length_append]; omega) (by omega)
          · rw [if_neg (fun h => q2 ((hc 92 92 rfl).1 h)), if_neg q2, if_pos (by rw [List.length_map]; omega), bt_get a i hlt, byteInts_snoc]
            exact text_loop a ha f k (i + 1) (acc ++ [a.data.toList[i]]) (by omega) (by rw [List.length_append]; simp; omega) (by omega)
theorem text_pure (a : ByteArray) (ha : a.data.toList.length ≤ 1000000000000) (k i : Nat) (hi : i < a.data.toList.length) (hk : 2 * a.data.toList.length + 12 ≤ k) :
    assizeref01_text.f k a (i : Int) = some (esO (textR a.data.toList (a.data.toList.length + 1) (i + 1) [])) := by
  unfold assizeref01_text.f
  rw [w64 _ (by omega) (by omega), show ((i : Int) + 1) = ((i + 1 : Nat) : Int) by omega]
  exact text_loop a ha (a.data.toList.length + 1) k (i + 1) [] (by omega) (by simp) (by omega)
theorem single_fin : ∀ n : Nat, n < 256 → assizeref01_single.f (n : Int) = some (if 0 ≤ Lib.indexByte singles (UInt8.ofNat n) then Lib.indexByte singles (UInt8.ofNat n) + 1 else if n = 10 then 10 else 0) := by decide +kernel
theorem single_pure (c : UInt8) : assizeref01_single.f (c.toNat : Int) = some (if 0 ≤ Lib.indexByte singles c then Lib.indexByte singles c + 1 else if c = 10 then 10 else 0) := by
  rw [single_fin c.toNat (UInt8.toNat_lt c), UInt8.ofNat_toNat]
  by_cases h : c = 10
  · rw [if_pos h, if_pos (show c.toNat = 10 by rw [h]; rfl)]
  · rw [if_neg h, if_neg (fun e : c.toNat = 10 => h (UInt8.toNat_inj.1 e))]
/-- A token and the place behind it, as the reference tells it; none: -1 stands for the place. -/
def OneIs (r : Option (Int × ByteArray × Int × Int × Int)) (q : Option (Tk × Nat)) : Prop :=
  (∀ t a2, q = some (t, a2) → r = some ((t.kind : Int), toB t.text, t.num, (t.pos : Int), (a2 : Int))) ∧ (q = none → ∃ x1 x2 x3 x4, r = some (x1, x2, x3, x4, -1))
theorem extract_to (a : ByteArray) (i n : Nat) : a.extract i (i + n) = toB ((a.data.toList.drop i).take n) := by
  apply ByteArray.ext
  rw [ByteArray.data_extract]
  apply Array.ext'
  rw [Array.toList_extract, List.extract_eq_take_drop, show i + n - i = n by omega]
  rfl
theorem isLow_iff (c : UInt8) : isLow c = true ↔ 97 ≤ c.toNat ∧ c.toNat ≤ 122 := by unfold isLow; simp
/-- What stands behind the letters. -/
theorem word_exit (a : ByteArray) (i n : Nat) (hn : i + n ≤ a.data.toList.length) (X Y : Int) (w : List UInt8) (hw : (a.data.toList.drop i).take n = w) :
    (if 0 ≤ (i : Int) then (if (i : Int) ≤ ((i + n : Nat) : Int) then (if ((i + n : Nat) : Int) ≤ (a.size : Int) then (if (a.extract (i : Int).toNat (((i + n : Nat) : Int)).toNat).toList = ([116, 114, 117, 101] : List UInt8) then (some ((9 : Int), a.extract (i : Int).toNat (((i + n : Nat) : Int)).toNat, X, Y, ((i + n : Nat) : Int))) else (if (a.extract (i : Int).toNat (((i + n : Nat) : Int)).toNat).toList = ([102, 97, 108, 115, 101] : List UInt8) then (some (9, a.extract (i : Int).toNat (((i + n : Nat) : Int)).toNat, X, Y, ((i + n : Nat) : Int))) else (if (a.extract (i : Int).toNat (((i + n : Nat) : Int)).toNat).toList = ([110, 117, 108, 108] : List UInt8) then (some (9, a.extract (i : Int).toNat (((i + n : Nat) : Int)).toNat, X, Y, ((i + n : Nat) : Int))) else (some (9, a.extract (i : Int).toNat (((i + n : Nat) : Int)).toNat, X, Y, (-1)))))) else (none)) else (none)) else (none))
    = some ((9 : Int), toB w, X, Y, if isWord w = true then ((i + n : Nat) : Int) else -1) := by
  rw [if_pos (by omega), if_pos (by omega), if_pos (by rw [size_list]; omega), Int.toNat_natCast, Int.toNat_natCast, extract_to, hw, toL_toB]
  unfold isWord wTrue wFalse wNull
  by_cases h1 : w = [116, 114, 117, 101]
  · rw [if_pos h1, h1]; rfl
  · rw [if_neg h1]
    by_cases h2 : w = [102, 97, 108, 115, 101]
    · rw [if_pos h2, h2]; rfl
    · rw [if_neg h2]
      by_cases h3 : w = [110, 117, 108, 108]
      · rw [if_pos h3, h3]; rfl
      · rw [if_neg h3, beq_eq_false_iff_ne.2 h1, beq_eq_false_iff_ne.2 h2, beq_eq_false_iff_ne.2 h3]
        rfl
theorem word_loop (a : ByteArray) (i : Nat) (ha : a.data.toList.length ≤ 1000000000000) (X Y Z : Int) (S : ByteArray) : ∀ (d k n : Nat), d = a.data.toList.length - (i + n) → i + n ≤ a.data.toList.length → d < k →
    (a.data.toList.drop i).takeWhile isLow = (a.data.toList.drop i).take n ++ (a.data.toList.drop (i + n)).takeWhile isLow →
    assizeref01_one.l0 k a (i : Int) ((i + n : Nat) : Int) Z S X Y = some ((9 : Int), toB ((a.data.toList.drop i).takeWhile isLow), X, Y, if isWord ((a.data.toList.drop i).takeWhile isLow) = true then ((i + ((a.data.toList.drop i).takeWhile isLow).length : Nat) : Int) else -1)
  | d, k, n, hd, hn, hk, hT => by
    obtain ⟨k, rfl⟩ : ∃ m, k = m + 1 := ⟨k - 1, by omega⟩
    have hEX : (a.data.toList.drop (i + n)).takeWhile isLow = [] → (a.data.toList.drop i).take n = (a.data.toList.drop i).takeWhile isLow ∧ n = ((a.data.toList.drop i).takeWhile isLow).length := fun h => by
      rw [h, List.append_nil] at hT
      refine ⟨hT.symm, ?_⟩
      rw [hT, List.length_take, List.length_drop]
      omega
    simp only [assizeref01_one.l0]
    by_cases hge : a.data.toList.length ≤ i + n
    · obtain ⟨h1, h2⟩ := hEX (by rw [List.drop_eq_nil_of_le hge]; rfl)
      rw [if_neg (by rw [size_list]; omega), word_exit a i n hn X Y _ h1, ← h2]
    · have hlt : i + n < a.data.toList.length := by omega
      have hdr : a.data.toList.drop (i + n) = a.data.toList[i + n] :: a.data.toList.drop (i + n + 1) := List.drop_eq_getElem_cons hlt
      rw [if_pos (by rw [size_list]; omega), if_pos (by omega), bt_get a _ hlt]
      by_cases h97 : 97 ≤ a.data.toList[i + n].toNat
      · rw [if_pos (by omega)]
        by_cases h122 : a.data.toList[i + n].toNat ≤ 122
        · have hlow : isLow a.data.toList[i + n] = true := (isLow_iff _).2 ⟨h97, h122⟩
          rw [if_pos (by omega), w64 _ (by omega) (by omega), show (((i + n : Nat) : Int) + 1) = ((i + (n + 1) : Nat) : Int) by omega]
          refine word_loop a i ha X Y Z S (d - 1) k (n + 1) (by omega) (by omega) (by omega) ?_
          have hlt2 : n < (a.data.toList.drop i).length := by rw [List.length_drop]; omega
          rw [hT, hdr, List.takeWhile_cons, if_pos hlow, List.take_succ_eq_append_getElem hlt2, List.append_assoc, List.getElem_drop]
          rfl
        · have hlow : isLow a.data.toList[i + n] = false := by
            cases h : isLow a.data.toList[i + n] with
            | false => rfl
            | true => exact absurd ((isLow_iff _).1 h).2 h122
          obtain ⟨h1, h2⟩ := hEX (by rw [hdr, List.takeWhile_cons, if_neg (by rw [hlow]; decide)])
          rw [if_neg (by omega), word_exit a i n hn X Y _ h1, ← h2]
      · have hlow : isLow a.data.toList[i + n] = false := by
          cases h : isLow a.data.toList[i + n] with
          | false => rfl
          | true => exact absurd ((isLow_iff _).1 h).1 h97
        obtain ⟨h1, h2⟩ := hEX (by rw [hdr, List.takeWhile_cons, if_neg (by rw [hlow]; decide)])
        rw [if_neg (by omega), word_exit a i n hn X Y _ h1, ← h2]
  termination_by d => d
theorem number_pure (a : ByteArray) (ha : a.data.toList.length ≤ 1000000000000) (k i : Nat) (hi : i < a.data.toList.length) : assizeref01_number.f k a (i : Int) = some (numAt a.data.toList i) := by
  unfold assizeref01_number.f
  rw [decide_eq_true (show (0 : Int) ≤ (i : Int) by omega), decide_eq_true (show (i : Int) < (a.size : Int) by rw [size_list]; omega), decide_eq_true (show a.size ≤ 1000000000000 from ha), Int.toNat_natCast]
  rfl
theorem isDigit_45 : isDigit 45 = false := rfl
theorem one_pure (a : ByteArray) (ha : a.data.toList.length ≤ 1000000000000) (k i : Nat) (hi : i < a.data.toList.length) (hk : 2 * a.data.toList.length + 12 ≤ k) :
    OneIs (assizeref01_one.f k a (i : Int)) (nextR a.data.toList i) := by
  have hN : nextR a.data.toList i = if 0 ≤ Lib.indexByte singles a.data.toList[i] then some (⟨(Lib.indexByte singles a.data.toList[i]).toNat + 1, [], 0, i⟩, i + 1)
    else if a.data.toList[i] = 10 then some (⟨10, [], 0, i⟩, i + 1)
    else if a.data.toList[i] = 34 then (textR a.data.toList (a.data.toList.length + 1) (i + 1) []).map fun x => (⟨7, x.1, 0, i⟩, x.2)
    else if a.data.toList[i] = 45 then (numR true ((a.data.toList.drop (i + 1)).takeWhile isDigit)).map fun v => (⟨8, [], v, i⟩, i + 1 + ((a.data.toList.drop (i + 1)).takeWhile isDigit).length)
    else if isDigit a.data.toList[i] = true then (numR false ((a.data.toList.drop i).takeWhile isDigit)).map fun v => (⟨8, [], v, i⟩, i + ((a.data.toList.drop i).takeWhile isDigit).length)
    else if isWord ((a.data.toList.drop i).takeWhile isLow) = true then some (⟨9, (a.data.toList.drop i).takeWhile isLow, 0, i⟩, i + ((a.data.toList.drop i).takeWhile isLow).length) else none := by
    rw [nextR, List.getElem?_eq_getElem hi]
  have hc : ∀ (m : UInt8) (z : Int), z = (m.toNat : Int) → (bt a (i : Int) = z ↔ a.data.toList[i] = m) := fun m z hz => by rw [hz]; exact bt_eq a i hi m
  unfold assizeref01_one.f
  rw [if_pos (by omega), if_pos (by rw [size_list]; omega), bt_get a i hi, single_pure, Option.bind_some, hN]
  rw [bt_get a i hi] at hc
  by_cases q0 : 0 ≤ Lib.indexByte singles a.data.toList[i]
  · rw [if_pos q0, if_pos q0, if_neg (by omega)]
    refine ⟨fun t a2 h => ?_, fun h => by cases h⟩
    cases h
    rw [w64 _ (by omega) (by omega)]
    congr 2
    show Lib.indexByte singles a.data.toList[i] + 1 = (((Lib.indexByte singles a.data.toList[i]).toNat + 1 : Nat) : Int)
    omega
  · rw [if_neg q0, if_neg q0]
    by_cases q1 : a.data.toList[i] = 10
    · rw [if_pos q1, if_pos q1, if_neg (by decide)]
      refine ⟨fun t a2 h => ?_, fun h => by cases h⟩
      cases h
      rw [w64 _ (by omega) (by omega)]
      rfl
    · rw [if_neg q1, if_neg q1, if_pos rfl]
      by_cases q2 : a.data.toList[i] = 34
      · rw [if_pos ((hc 34 34 rfl).2 q2), if_pos q2, text_pure a ha k i hi hk, Option.bind_some]
        cases hx : textR a.data.toList (a.data.toList.length + 1) (i + 1) [] with
        | none =>
          refine ⟨fun t a2 h => ?_, fun _ => ⟨_, _, _, _, rfl⟩⟩
          rw [Option.map_none] at h
          cases h
        | some p =>
          obtain ⟨o, a2⟩ := p
          refine ⟨fun t a3 h => ?_, fun h => by rw [Option.map_some] at h; cases h⟩
          rw [Option.map_some] at h
          cases h
          rfl
      · rw [if_neg (fun h => q2 ((hc 34 34 rfl).1 h)), if_neg q2, digit_pure, Option.bind_some]
        obtain ⟨k, rfl⟩ : ∃ m, k = m + 1 := ⟨k - 1, by omega⟩
        have NUM : ∀ (neg : Bool) (ds : List UInt8) (e : Nat), numAt a.data.toList i = numA neg ds e → OneIs (assizeref01_one.j0 (k + 1) a (i : Int) true 0 ⟨#[]⟩ 0 (i : Int)) ((numR neg ds).map fun v => (⟨8, [], v, i⟩, e)) := by
          intro neg ds e he
          simp only [assizeref01_one.j0]
          rw [if_pos trivial, number_pure a ha k i hi, Option.bind_some, he]
          unfold numA
          cases hx : numR neg ds with
          | none => exact ⟨fun t a2 h => (by rw [Option.map_none] at h; cases h), fun _ => ⟨_, _, _, _, rfl⟩⟩
          | some v =>
            refine ⟨fun t a3 h => ?_, fun h => by rw [Option.map_some] at h; cases h⟩
            rw [Option.map_some] at h
            cases h
            rfl
        have hg : a.data.toList.getD i 0 = a.data.toList[i] := by
          rw [List.getD_eq_getElem?_getD, List.getElem?_eq_getElem hi]
          rfl
        by_cases q3 : a.data.toList[i] = 45
        · rw [if_pos q3, q3, isDigit_45, if_neg (by decide)]
          exact NUM true _ _ (by unfold numAt; rw [hg, if_pos q3])
        · rw [if_neg q3]
          cases hdg : isDigit a.data.toList[i] with
          | true =>
            rw [if_pos rfl, if_pos rfl]
            exact NUM false _ _ (by unfold numAt; rw [hg, if_neg q3])
          | false =>
            have hb : (((a.data.toList[i].toNat : Nat) : Int) == 45) = false := beq_eq_false_iff_ne.2 (fun h => q3 ((hc 45 45 rfl).1 h))
            rw [if_neg (by decide), if_neg (by decide), hb]
            simp only [assizeref01_one.j0]
            rw [if_neg (by decide)]
            have hw := word_loop a i ha 0 (i : Int) 0 ⟨#[]⟩ (a.data.toList.length - i) k 0 rfl (by omega) (by omega) (by simp)
            rw [Nat.add_zero] at hw
            rw [hw]
            cases hx : isWord ((a.data.toList.drop i).takeWhile isLow) with
            | true =>
              rw [if_pos rfl, if_pos rfl]
              exact ⟨fun t a2 h => (by cases h; rfl), fun h => by cases h⟩
            | false =>
              rw [if_neg (by decide), if_neg (by decide)]
              exact ⟨fun t a2 h => (by cases h), fun _ => ⟨_, _, _, _, rfl⟩⟩
def tkO : List Tk ⊕ Nat → List S33 × Int × Int
  | .inl ts => (ts.map toS, 0, 0)
  | .inr p => ([], 10, (p : Int))
theorem toksR_blank (l : List UInt8) (f i : Nat) (acc : List Tk) (hi : i < l.length) (hb : isBlank l[i] = true) : toksR l (f + 1) i acc = toksR l (f + 1) (i + 1) acc := by
  have e : i + ((l.drop i).takeWhile isBlank).length = i + 1 + ((l.drop (i + 1)).takeWhile isBlank).length := by
    rw [List.drop_eq_getElem_cons hi, List.takeWhile_cons, if_pos hb, List.length_cons]
    omega
  rw [toksR, toksR, e]
theorem toksR_stop (l : List UInt8) (f i : Nat) (acc : List Tk) (hi : i < l.length) (hb : isBlank l[i] = false) : toksR l (f + 1) i acc = match nextR l i with
    | none => .inr i
    | some (t, a2) => toksR l f a2 (acc ++ [t]) := by
  have e : i + ((l.drop i).takeWhile isBlank).length = i := by
    rw [List.drop_eq_getElem_cons hi, List.takeWhile_cons, if_neg (by rw [hb]; decide)]
    rfl
  rw [toksR, e, if_neg (by omega)]
  rfl
theorem toksR_end (l : List UInt8) (f : Nat) (acc : List Tk) : toksR l (f + 1) l.length acc = .inl acc := by
  have e : l.length + ((l.drop l.length).takeWhile isBlank).length = l.length := by
    rw [List.drop_eq_nil_of_le (Nat.le_refl _)]
    rfl
  rw [toksR, e, if_pos rfl]
theorem Tokens_loop (a : ByteArray) (ha : a.data.toList.length ≤ 65536) : ∀ (d k f i : Nat) (acc : List Tk), d = a.data.toList.length - i → i ≤ a.data.toList.length → a.data.toList.length < i + f → acc.length ≤ i → 2 * d + 2 * a.data.toList.length + 20 ≤ k →
    assizeref01_Tokens.l0 k a (acc.map toS) (i : Int) = some (tkO (toksR a.data.toList f i acc))
  | d, k, f, i, acc, hd, hi, hf, hacc, hk => by
    obtain ⟨k, rfl⟩ : ∃ m, k = m + 2 := ⟨k - 2, by omega⟩
    obtain ⟨f, rfl⟩ : ∃ m, f = m + 1 := ⟨f - 1, by omega⟩
    simp only [assizeref01_Tokens.l0]
    by_cases hge : a.data.toList.length = i
    · rw [if_neg (by rw [size_list]; omega), ← hge, toksR_end]
      rfl
    · have hlt : i < a.data.toList.length := by omega
      have hc : ∀ (m : UInt8) (z : Int), z = (m.toNat : Int) → (bt a (i : Int) = z ↔ a.data.toList[i] = m) := fun m z hz => by rw [hz]; exact bt_eq a i hlt m
      have BL : isBlank a.data.toList[i] = true → assizeref01_Tokens.j1 (k + 1) a (acc.map toS) (i : Int) true = some (tkO (toksR a.data.toList (f + 1) i acc)) := by
        intro hb
        simp only [assizeref01_Tokens.j1]
        rw [if_pos trivial, toksR_blank _ _ _ _ hlt hb, w64 _ (by omega) (by omega), show ((i : Int) + 1) = ((i + 1 : Nat) : Int) by omega]
        exact Tokens_loop a ha (d - 1) k (f + 1) (i + 1) acc (by omega) (by omega) (by omega) (by omega) (by omega)
      rw [if_pos (by rw [size_list]; omega), if_pos (by omega)]
      by_cases q1 : a.data.toList[i] = 32
      · rw [if_pos ((hc 32 32 rfl).2 q1)]
        exact BL (by rw [q1]; rfl)
      · rw [if_neg (fun h => q1 ((hc 32 32 rfl).1 h))]
        by_cases q2 : a.data.toList[i] = 9
        · rw [if_pos ((hc 9 9 rfl).2 q2)]
          exact BL (by rw [q2]; rfl)
        · rw [if_neg (fun h => q2 ((hc 9 9 rfl).1 h))]
          by_cases q3 : a.data.toList[i] = 13
          · rw [show (bt a (i : Int) == 13) = true from beq_iff_eq.2 ((hc 13 13 rfl).2 q3)]
            exact BL (by rw [q3]; rfl)
          · rw [show (bt a (i : Int) == 13) = false from beq_eq_false_iff_ne.2 (fun h => q3 ((hc 13 13 rfl).1 h))]
            have hb : isBlank a.data.toList[i] = false := by
              unfold isBlank
              rw [beq_eq_false_iff_ne.2 q1, beq_eq_false_iff_ne.2 q2, beq_eq_false_iff_ne.2 q3]
              rfl
            simp only [assizeref01_Tokens.j1]
            rw [if_neg (by decide), toksR_stop _ _ _ _ hlt hb]
            obtain ⟨h1, h2⟩ := one_pure a (by omega) k i hlt (by omega)
            cases hx : nextR a.data.toList i with
            | none =>
              obtain ⟨x1, x2, x3, x4, he⟩ := h2 hx
              rw [he, Option.bind_some]
              rfl
            | some p =>
              obtain ⟨t, a2⟩ := p
              have hst := nextR_step hx
              rw [h1 t a2 hx, Option.bind_some]
              dsimp only
              rw [if_neg (by omega), if_pos (by rw [List.length_map]; omega)]
              have := Tokens_loop a ha (a.data.toList.length - a2) k f a2 (acc ++ [t]) rfl (by omega) (by omega) (by rw [List.length_append]; simp; omega) (by omega)
              rw [List.map_append] at this
              exact this
  termination_by d => d
  decreasing_by
    · omega
    · have e := size_list a
      omega
theorem Tokens_pure (a : ByteArray) (k : Nat) (hk : 4 * 65536 + 30 ≤ k) : assizeref01_Tokens.f k a = lex_Tokens.f k a := by
  unfold assizeref01_Tokens.f lex_Tokens.f tokensR
  by_cases hl : 65536 < a.data.toList.length
  · rw [if_pos (by rw [size_list]; omega), if_pos hl]
    rfl
  · rw [if_neg (by rw [size_list]; omega), if_neg hl]
    have := Tokens_loop a (by omega) a.data.toList.length k (a.data.toList.length + 1) 0 [] rfl (by omega) (by omega) (by simp) (by omega)
    rw [show ((0 : Nat) : Int) = 0 from rfl] at this
    rw [show ([] : List S33) = ([] : List Tk).map toS from rfl, this]
    cases toksR a.data.toList (a.data.toList.length + 1) 0 [] with
    | inl ts => rfl
    | inr p => rfl
end Go.Proofs.YtidkjiglmfhjpaaDoor.PS
