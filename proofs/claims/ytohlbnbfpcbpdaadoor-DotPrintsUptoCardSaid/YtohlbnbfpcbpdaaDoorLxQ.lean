/- lex: Quote: the walk. -/
import Derived.Test.YtohlbnbfpcbpdaaDoorLxT
import Derived.Test.YtohlbnbfpcbpdaaDoorLxF
import Derived.Lib.AppendIntMem
set_option linter.unusedVariables false
set_option linter.unusedSimpArgs false
namespace Go.Proofs.YtohlbnbfpcbpdaaDoor.Lx
open Go.RowKit Go.Proofs.YtohlbnbfpcbpdaaDoorW.PrintWords Go.Proofs.YtohlbnbfpcbpdaaDoorW.PrintLast Go.Proofs.YtohlbnbfpcbpdaaDoorW.PrintMore

attribute [local go_sem] idx_list
theorem DeB.below {w w' : World} (h : DeB w) (hb : Below w.heap.size w w') : DeB w' := cell_below' hb h
def P10 (w : World) : Prop := Lib.TabIs Tryd.prog w "internal/strconv.uint64pow10" .u64 Lib.pow10Tab
/-- What the tables and the error variables are asked to hold. -/
structure LW (w : World) : Prop where
  te : TE w
  deb : DeB w
  p10 : P10 w
theorem hex_two' (c : Nat) (h1 : 16 ≤ c) (h2 : c < 32) (w : World) (h : DeB w) : Calls Tryd.prog 34 #[.int .i64 (c : Int), .int .i64 16] w fun e w' => e = .returned (.string ⟨#[49, hexC (c - 16)]⟩) ∧ Below w.heap.size w w' := by
  have e : ((c : Nat) : Int) = ((c - 16 : Nat) : Int) + 16 := by omega
  rw [e]
  exact hex_two (c - 16) (by omega) w h
theorem quoteB_len (c : UInt8) : (quoteB c).length ≤ 6 := by
  unfold quoteB
  split
  · simp
  · split
    · simp
    · split
      · simp
      · split <;> simp
theorem quote_take (l : List UInt8) (n : Nat) (h : n < l.length) : (l.take (n + 1)).flatMap quoteB = (l.take n).flatMap quoteB ++ quoteB l[n] := by
  rw [List.take_succ_eq_append_getElem h, List.flatMap_append]
  simp
theorem quote_len (l : List UInt8) : (l.flatMap quoteB).length ≤ 6 * l.length := by
  induction l with
  | nil => simp
  | cons c l ih =>
    have := quoteB_len c
    simp only [List.flatMap_cons, List.length_append, List.length_cons]
    omega
theorem strCells_list (l : List UInt8) : Lib.strCells ⟨l.toArray⟩ = Lib.byteCells l := by simp [Lib.strCells, Lib.byteCells]
set_option maxRecDepth 100000 in
set_option maxHeartbeats 2000000 in
theorem Quote_calls (l : List UInt8) (w : World) (hl : l.length ≤ 10000000000000) (hd : ∀ w1, Below w.heap.size w w1 → DeB w1) :
    Calls Tryd.prog 21 #[.string ⟨l.toArray⟩] w fun e w' => e = .returned (.string ⟨(quoteR l).toArray⟩) ∧ Below w.heap.size w w' := by
  have hsz : (ByteArray.mk l.toArray).size = l.length := by simp [ByteArray.size]
  have HD := Aside0.mk hd
  clear hd
  go_enter Tryd.func21, Tryd.ntmps21
  go_wp2_with fail
  refine (WriteByte_calls (w.heap.size + 1) w.heap.size (.slice none 0 0) (Lib.byteCells []) 34 _ (BAt.new w) (by simp [Lib.byteCells]) (by simp)).mono ?_
  rintro e w1 ⟨rfl, v1, hb1, hk1⟩
  rw [byteCells_snoc] at hb1
  have HB1 := Aside0.mk hb1
  have hb2 : Below w.heap.size w w1 := ((Below.refl _ _).alloc (Nat.le_refl _) _).trans hk1.1
  have HBel := Aside0.mk hb2
  have hsz1 : w.heap.size + 1 ≤ w1.heap.size := by
    have := hk1.1.size
    simpa using this
  clear hb1 hk1 hb2
  go_wp2
  go_loopg [9] (l.length) (fun kq u9 w2 => ∃ (n : Nat) (v : Value), n + kq = l.length ∧ u9 = .int .i64 n ∧ w.heap.size + 1 ≤ w2.heap.size ∧ Aside0 (BAt (w.heap.size + 1) w.heap.size v (Lib.byteCells (34 :: (l.take n).flatMap quoteB)) w2) ∧ Aside0 (Below w.heap.size w w2))
  case atStart => exact ⟨0, v1, by omega, rfl, hsz1, HB1, HBel⟩
  case round =>
    obtain ⟨n, v, hn, rfl, hsz2, HB, HBel2⟩ := hrel
    cases gk with
    | zero =>
      have hge : ¬ ((n : Nat) : Int) < (l.length : Int) := by omega
      have hln : l.take n = l := List.take_of_length_le (by omega)
      rw [hln] at HB
      go_wp2_with fail
      refine (WriteByte_calls (w.heap.size + 1) w.heap.size v _ 34 _ HB.out (by have := quote_len l; unfold Lib.byteCells; rw [List.length_map, List.length_cons]; omega) hsz2).mono ?_
      rintro e w2 ⟨rfl, v2, hb2, hk2⟩
      rw [byteCells_snoc] at hb2
      have HB2 := Aside0.mk hb2
      have HBel3 := Aside0.mk (HBel2.out.trans hk2.1)
      have hsz3 := hk2.1.size
      clear hb2 hk2
      go_wp2_with fail
      refine (Tryd.Builder_String_any w.heap.size w.heap.size _ _ HB2.out.is (by omega)).mono ?_
      rintro e w3 ⟨rfl, hb3⟩
      have HBel4 := Aside0.mk (HBel3.out.trans hb3)
      clear hb3
      go_wp2
      go_ret
      exact ⟨rfl, HBel4.out⟩
    | succ k1 =>
      have hlt : n < l.length := by omega
      have hltz : ((n : Nat) : Int) < (l.length : Int) := by omega
      have HS := fun (v' : Value) (bs : List UInt8) (W : World) (hq : quoteB l[n] = bs) (h : BAt (w.heap.size + 1) w.heap.size v' (Lib.byteCells (34 :: (l.take n).flatMap quoteB) ++ Lib.byteCells bs) W) => Aside0.mk (show BAt (w.heap.size + 1) w.heap.size v' (Lib.byteCells (34 :: (l.take (n + 1)).flatMap quoteB)) W by
        rw [quote_take l n hlt, hq]
        simpa [Lib.byteCells] using h)
      have HL := Aside0.mk (show (Lib.byteCells (34 :: (l.take n).flatMap quoteB)).length ≤ 100000000000000 by
        have h1 := quote_len (l.take n)
        have h2 : (l.take n).length ≤ l.length := by rw [List.length_take]; omega
        simp [Lib.byteCells] at h1 h2 ⊢
        omega)
      by_cases q1 : l[n] = 34
      · have hq1 : ((l[n].toNat : Int) == 34) = true := by rw [q1]; rfl
        have Q := Aside0.mk (show quoteB l[n] = [92, l[n]] by unfold quoteB; rw [if_pos (Or.inl q1)])
        clear q1
        go_wp2_with fail
        refine (WriteByte_calls (w.heap.size + 1) w.heap.size _ _ 92 _ HB.out (by have := HL.out; (try simp only [List.length_append, List.length_cons, List.length_nil]); omega) hsz2).mono ?_
        rintro e w3 ⟨rfl, v3, hb3, hk3⟩
        have HB3 := Aside0.mk hb3
        have HBel3 := Aside0.mk (HBel2.out.trans hk3.1)
        have hsz3 : w.heap.size + 1 ≤ w3.heap.size := Nat.le_trans hsz2 hk3.1.size
        clear hb3 hk3
        go_wp2_with fail
        refine (WriteByte_calls (w.heap.size + 1) w.heap.size _ _ l[n] _ HB3.out (by have := HL.out; (try simp only [List.length_append, List.length_cons, List.length_nil]); omega) hsz3).mono ?_
        rintro e w4 ⟨rfl, v4, hb4, hk4⟩
        have HB4 := Aside0.mk hb4
        have HBel4 := Aside0.mk (HBel3.out.trans hk4.1)
        have hsz4 : w.heap.size + 1 ≤ w4.heap.size := Nat.le_trans hsz3 hk4.1.size
        clear hb4 hk4
        have HB5 := Aside0.mk (show BAt (w.heap.size + 1) w.heap.size v4 (Lib.byteCells (34 :: (l.take n).flatMap quoteB) ++ Lib.byteCells [92, l[n]]) w4 by simpa [Lib.byteCells] using HB4.out)
        go_wp2
        go_roundg k1
        case measure => omega
        case rel => exact ⟨n + 1, _, by omega, by go_num, hsz4, HS _ _ _ Q.out HB5.out, HBel4⟩
      · have hq1 : ((l[n].toNat : Int) == 34) = false := by
          have := u8_eq l[n] 34
          rw [show ((34 : UInt8).toNat : Int) = 34 from rfl] at this
          rw [this]
          exact beq_eq_false_iff_ne.2 q1
        by_cases q2 : l[n] = 92
        · have hq2 : ((l[n].toNat : Int) == 92) = true := by rw [q2]; rfl
          have Q := Aside0.mk (show quoteB l[n] = [92, l[n]] by unfold quoteB; rw [if_pos (Or.inr q2)])
          clear q1 q2
          go_wp2_with fail
          refine (WriteByte_calls (w.heap.size + 1) w.heap.size _ _ 92 _ HB.out (by have := HL.out; (try simp only [List.length_append, List.length_cons, List.length_nil]); omega) hsz2).mono ?_
          rintro e w3 ⟨rfl, v3, hb3, hk3⟩
          have HB3 := Aside0.mk hb3
          have HBel3 := Aside0.mk (HBel2.out.trans hk3.1)
          have hsz3 : w.heap.size + 1 ≤ w3.heap.size := Nat.le_trans hsz2 hk3.1.size
          clear hb3 hk3
          go_wp2_with fail
          refine (WriteByte_calls (w.heap.size + 1) w.heap.size _ _ l[n] _ HB3.out (by have := HL.out; (try simp only [List.length_append, List.length_cons, List.length_nil]); omega) hsz3).mono ?_
          rintro e w4 ⟨rfl, v4, hb4, hk4⟩
          have HB4 := Aside0.mk hb4
          have HBel4 := Aside0.mk (HBel3.out.trans hk4.1)
          have hsz4 : w.heap.size + 1 ≤ w4.heap.size := Nat.le_trans hsz3 hk4.1.size
          clear hb4 hk4
          have HB5 := Aside0.mk (show BAt (w.heap.size + 1) w.heap.size v4 (Lib.byteCells (34 :: (l.take n).flatMap quoteB) ++ Lib.byteCells [92, l[n]]) w4 by simpa [Lib.byteCells] using HB4.out)
          go_wp2
          go_roundg k1
          case measure => omega
          case rel => exact ⟨n + 1, _, by omega, by go_num, hsz4, HS _ _ _ Q.out HB5.out, HBel4⟩
        · have hq2 : ((l[n].toNat : Int) == 92) = false := by
            have := u8_eq l[n] 92
            rw [show ((92 : UInt8).toNat : Int) = 92 from rfl] at this
            rw [this]
            exact beq_eq_false_iff_ne.2 q2
          by_cases q3 : l[n] = 10
          · have hq3 : ((l[n].toNat : Int) == 10) = true := by rw [q3]; rfl
            have Q := Aside0.mk (show quoteB l[n] = [92, 110] by rw [q3]; rfl)
            clear q1 q2 q3
            go_wp2_with fail
            refine (Write_calls (w.heap.size + 1) w.heap.size _ _ ⟨([92, 110]).toArray⟩ _ HB.out (by have := HL.out; simp [ByteArray.size]; omega) hsz2).mono ?_
            rintro e w3 ⟨rfl, v3, hb3, hk3⟩
            rw [strCells_list] at hb3
            have HB3 := Aside0.mk hb3
            have HBel3 := Aside0.mk (HBel2.out.trans hk3.1)
            have hsz3 : w.heap.size + 1 ≤ w3.heap.size := Nat.le_trans hsz2 hk3.1.size
            clear hb3 hk3
            go_wp2
            go_roundg k1
            case measure => omega
            case rel => exact ⟨n + 1, _, by omega, by go_num, hsz3, HS _ _ _ Q.out HB3.out, HBel3⟩
          · have hq3 : ((l[n].toNat : Int) == 10) = false := by
              have := u8_eq l[n] 10
              rw [show ((10 : UInt8).toNat : Int) = 10 from rfl] at this
              rw [this]
              exact beq_eq_false_iff_ne.2 q3
            by_cases q4 : l[n] = 9
            · have hq4 : ((l[n].toNat : Int) == 9) = true := by rw [q4]; rfl
              have Q := Aside0.mk (show quoteB l[n] = [92, 116] by rw [q4]; rfl)
              clear q1 q2 q3 q4
              go_wp2_with fail
              refine (Write_calls (w.heap.size + 1) w.heap.size _ _ ⟨([92, 116]).toArray⟩ _ HB.out (by have := HL.out; simp [ByteArray.size]; omega) hsz2).mono ?_
              rintro e w3 ⟨rfl, v3, hb3, hk3⟩
              rw [strCells_list] at hb3
              have HB3 := Aside0.mk hb3
              have HBel3 := Aside0.mk (HBel2.out.trans hk3.1)
              have hsz3 : w.heap.size + 1 ≤ w3.heap.size := Nat.le_trans hsz2 hk3.1.size
              clear hb3 hk3
              go_wp2
              go_roundg k1
              case measure => omega
              case rel => exact ⟨n + 1, _, by omega, by go_num, hsz3, HS _ _ _ Q.out HB3.out, HBel3⟩
            · have hq4 : ((l[n].toNat : Int) == 9) = false := by
                have := u8_eq l[n] 9
                rw [show ((9 : UInt8).toNat : Int) = 9 from rfl] at this
                rw [this]
                exact beq_eq_false_iff_ne.2 q4
              by_cases q5 : l[n].toNat < 16
              · have hq5 : (l[n].toNat : Int) < 16 := by omega
                have Q := Aside0.mk (show quoteB l[n] = [92, 117, 48, 48, 48, hexC l[n].toNat] by
                  unfold quoteB
                  rw [if_neg (by simp [q1, q2]), if_neg q3, if_neg q4, if_pos (by omega), Nat.div_eq_of_lt q5, Nat.mod_eq_of_lt q5]
                  rfl)
                go_wp2_with fail
                refine (hex_one l[n].toNat q5 _ (HD.out _ HBel2.out)).mono ?_
                rintro e w5 ⟨rfl, hb5⟩
                have HB6 := Aside0.mk (HB.out.move fun k hk _ => hb5.block k hk)
                have HBel6 := Aside0.mk (HBel2.out.trans (hb5.mono (by omega)))
                have hsz6 : w.heap.size + 1 ≤ w5.heap.size := Nat.le_trans hsz2 hb5.size
                clear hb5 q1 q2 q3 q4 q5
                go_wp2_with fail
                have he6 : (ByteArray.mk #[92, 117, 48, 48, 48]) ++ (ByteArray.mk #[hexC l[n].toNat]) = ByteArray.mk #[92, 117, 48, 48, 48, hexC l[n].toNat] := by apply ByteArray.ext; simp
                rw [he6]
                refine (Write_calls (w.heap.size + 1) w.heap.size _ _ ⟨([92, 117, 48, 48, 48, hexC l[n].toNat]).toArray⟩ _ HB6.out (by have := HL.out; simp [ByteArray.size]; omega) hsz6).mono ?_
                rintro e w3 ⟨rfl, v3, hb3, hk3⟩
                rw [strCells_list] at hb3
                have HB3 := Aside0.mk hb3
                have HBel3 := Aside0.mk (HBel6.out.trans hk3.1)
                have hsz3 : w.heap.size + 1 ≤ w3.heap.size := Nat.le_trans hsz6 hk3.1.size
                clear hb3 hk3
                go_wp2
                go_roundg k1
                case measure => omega
                case rel => exact ⟨n + 1, _, by omega, by go_num, hsz3, HS _ _ _ Q.out HB3.out, HBel3⟩
              · have hq5 : ¬ (l[n].toNat : Int) < 16 := by omega
                by_cases q6 : l[n].toNat < 32
                · have hq6 : (l[n].toNat : Int) < 32 := by omega
                  have Q := Aside0.mk (show quoteB l[n] = [92, 117, 48, 48, 49, hexC (l[n].toNat - 16)] by
                    unfold quoteB
                    rw [if_neg (by simp [q1, q2]), if_neg q3, if_neg q4, if_pos q6, show l[n].toNat / 16 = 1 by omega, show l[n].toNat % 16 = l[n].toNat - 16 by omega]
                    rfl)
                  go_wp2_with fail
                  refine (hex_two' l[n].toNat (by omega) q6 _ (HD.out _ HBel2.out)).mono ?_
                  rintro e w5 ⟨rfl, hb5⟩
                  have HB6 := Aside0.mk (HB.out.move fun k hk _ => hb5.block k hk)
                  have HBel6 := Aside0.mk (HBel2.out.trans (hb5.mono (by omega)))
                  have hsz6 : w.heap.size + 1 ≤ w5.heap.size := Nat.le_trans hsz2 hb5.size
                  clear hb5 q1 q2 q3 q4 q5 q6
                  go_wp2_with fail
                  have he6 : (ByteArray.mk #[92, 117, 48, 48]) ++ (ByteArray.mk #[49, hexC (l[n].toNat - 16)]) = ByteArray.mk #[92, 117, 48, 48, 49, hexC (l[n].toNat - 16)] := by apply ByteArray.ext; simp
                  rw [he6]
                  refine (Write_calls (w.heap.size + 1) w.heap.size _ _ ⟨([92, 117, 48, 48, 49, hexC (l[n].toNat - 16)]).toArray⟩ _ HB6.out (by have := HL.out; simp [ByteArray.size]; omega) hsz6).mono ?_
                  rintro e w3 ⟨rfl, v3, hb3, hk3⟩
                  rw [strCells_list] at hb3
                  have HB3 := Aside0.mk hb3
                  have HBel3 := Aside0.mk (HBel6.out.trans hk3.1)
                  have hsz3 : w.heap.size + 1 ≤ w3.heap.size := Nat.le_trans hsz6 hk3.1.size
                  clear hb3 hk3
                  go_wp2
                  go_roundg k1
                  case measure => omega
                  case rel => exact ⟨n + 1, _, by omega, by go_num, hsz3, HS _ _ _ Q.out HB3.out, HBel3⟩
                · have hq6 : ¬ (l[n].toNat : Int) < 32 := by omega
                  have Q := Aside0.mk (show quoteB l[n] = [l[n]] by
                    unfold quoteB
                    rw [if_neg (by simp [q1, q2]), if_neg q3, if_neg q4, if_neg q6])
                  clear q1 q2 q3 q4 q5 q6
                  go_wp2_with fail
                  refine (WriteByte_calls (w.heap.size + 1) w.heap.size _ _ l[n] _ HB.out (by have := HL.out; (try simp only [List.length_append, List.length_cons, List.length_nil]); omega) hsz2).mono ?_
                  rintro e w3 ⟨rfl, v3, hb3, hk3⟩
                  have HB3 := Aside0.mk hb3
                  have HBel3 := Aside0.mk (HBel2.out.trans hk3.1)
                  have hsz3 : w.heap.size + 1 ≤ w3.heap.size := Nat.le_trans hsz2 hk3.1.size
                  clear hb3 hk3
                  have HB5 := Aside0.mk (show BAt (w.heap.size + 1) w.heap.size v3 (Lib.byteCells (34 :: (l.take n).flatMap quoteB) ++ Lib.byteCells [l[n]]) w3 by simpa [Lib.byteCells] using HB3.out)
                  go_wp2
                  go_roundg k1
                  case measure => omega
                  case rel => exact ⟨n + 1, _, by omega, by go_num, hsz3, HS _ _ _ Q.out HB5.out, HBel3⟩
end Go.Proofs.YtohlbnbfpcbpdaaDoor.Lx
