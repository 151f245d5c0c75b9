/- internal/strconv.ParseUint at base 16, 16 bits, four bytes: the walk. -/
import Derived.Test.YtohlbnbfpcbpdaaDoorLxC
set_option linter.unusedVariables false
set_option linter.unusedSimpArgs false
namespace Go.Proofs.YtohlbnbfpcbpdaaDoor.Lx
open Go.RowKit Go.Proofs.YtohlbnbfpcbpdaaDoorW.PrintWords Go.Proofs.YtohlbnbfpcbpdaaDoorW.PrintLast Go.Proofs.YtohlbnbfpcbpdaaDoorW.PrintMore

theorem or_all : ∀ n : Nat, n < 256 → bits BinOp.or IntKind.u8 (n : Int) 32 = ((n ||| 32 : Nat) : Int) := by decide +kernel
theorem lower_calls (c : UInt8) (w : World) : Calls Tryd.prog 94 #[.int .u8 c.toNat] w fun e w' => e = .returned (.int .u8 ((c.toNat ||| 32 : Nat) : Int)) ∧ w' = w := by
  rw [← or_all c.toNat c.toNat_lt]
  go_enter Tryd.func94, Tryd.ntmps94
  go_wp2
  go_ret
  exact ⟨rfl, rfl⟩
theorem lower_95 (w : World) : Calls Tryd.prog 94 #[.int .u8 95] w fun e w' => e = .returned (.int .u8 127) ∧ w' = w := lower_calls 95 w
theorem hexD_lt : ∀ n : Nat, n < 256 → ∀ d, hexD n = some d → d < 16 := by
  intro n _ d h
  unfold hexD at h
  split at h
  · cases h; omega
  · split at h
    · cases h; omega
    · cases h
theorem or_lt : ∀ n : Nat, n < 256 → (n ||| 32) < 256 := by decide +kernel
set_option maxRecDepth 100000 in
set_option maxHeartbeats 4000000 in
theorem ParseUint16_calls (t : List UInt8) (ht : t.length = 4) (w : World) :
    Calls Tryd.prog 87 #[.string ⟨t.toArray⟩, .int .i64 16, .int .i64 16] w fun e w' => Below w.heap.size w w' ∧
      ((∀ n, hexN 0 t = some n → e = .returned (.tuple #[.int .u64 n, .nilIface]) ∧ n ≤ 65535) ∧ (hexN 0 t = none → e = .returned (.tuple #[.int .u64 0, .iface 107 (.int .i64 2)]))) := by
  have hsz : (ByteArray.mk t.toArray).size = 4 := by rw [show (ByteArray.mk t.toArray).size = t.length by simp [ByteArray.size], ht]
  have hne : t.isEmpty = false := by cases t with | nil => simp at ht | cons _ _ => rfl
  have hcv := Lib.run_convert_string_bytes (P := Tryd.prog) w 9 40 5 ⟨t.toArray⟩ (u := .string) Tryd.underlying9 Tryd.underlying40 Tryd.underlying5
  rw [hsz] at hcv
  have hB : ∀ j, j < 4 → (Lib.bytesWorld w 5 ⟨t.toArray⟩).cell? ⟨w.heap.size, j, none⟩ = some (.int .u8 (t.getD j 0).toNat) := fun j hj => Lib.bytesWorld_cell w 5 ⟨t.toArray⟩ j (by rw [hsz]; exact hj)
  have hbw := bytes_new w 5 ⟨t.toArray⟩
  generalize Lib.bytesWorld w 5 ⟨t.toArray⟩ = W1 at hcv hB hbw
  have HB := Aside0.mk hB
  have HBW := Aside0.mk hbw
  have hmv : IntKind.u64.wrap (IntKind.u64.wrap 65536 - 1) = 65535 := by
    rw [IntKind.wrap_u64, IntKind.wrap_u64]
    decide
  clear hB hbw
  go_enter Tryd.func87, Tryd.ntmps87
  go_wp2
  go_loopg [12, 13, 101] 4 (fun kq vu vn vi w2 => ∃ (k acc : Nat), k + kq = 4 ∧ vu = .bool false ∧ vn = .int .u64 acc ∧ vi = .int .i64 k ∧ Aside0 (acc < 16 ^ k) ∧ Aside0 (hexN 0 t = hexN acc (t.drop k)) ∧ w2 = W1)
  case atStart => exact ⟨0, 0, by omega, rfl, rfl, rfl, Aside0.mk (by decide), Aside0.mk rfl, rfl⟩
  case round =>
    obtain ⟨k, acc, hk, rfl, rfl, rfl, HA, HH, rfl⟩ := hrel
    cases gk with
    | zero =>
      obtain rfl : k = 4 := by omega
      have hacc : acc ≤ 65535 := by have := HA.out; omega
      have hh := HH.out
      rw [List.drop_eq_nil_of_le (by omega)] at hh
      have HE := Aside0.mk (show hexN 0 t = some acc from hh)
      clear hh
      go_wp2
      go_ret2
      refine ⟨HBW.out, (fun n h => ?_), (fun h => by rw [HE.out] at h; cases h)⟩
      rw [HE.out] at h
      cases h
      exact ⟨rfl, hacc⟩
    | succ k1 =>
      have hk4 : k < 4 := by omega
      have hkz : (k : Int) < 4 := by omega
      have hkt : k < t.length := by omega
      have hacc : acc ≤ 4095 := by
        have h1 := HA.out
        have h2 : 16 ^ k ≤ 16 ^ 3 := Nat.pow_le_pow_right (by omega) (by omega)
        have h3 : (16 : Nat) ^ 3 = 4096 := by decide
        omega
      obtain ⟨c, hc⟩ : ∃ c, c = t[k] := ⟨_, rfl⟩
      have hd : t.drop k = c :: t.drop (k + 1) := by rw [hc]; exact List.drop_eq_getElem_cons hkt
      have cc : wr.cell? ⟨w.heap.size, k, none⟩ = some (.int .u8 c.toNat) := by
        have h := HB.out k hk4
        rw [h, hc]
        simp [List.getD, List.getElem?_eq_getElem hkt]
      have hh := HH.out
      rw [hd] at hh
      have hc256 : c.toNat < 256 := c.toNat_lt
      have hc256' : (c.toNat : Int) < 256 := by omega
      have hlow := or_lt c.toNat hc256
      have hlowz : ((c.toNat ||| 32 : Nat) : Int) < 256 := by omega
      have haccz : (acc : Int) ≤ 4095 := by omega
      by_cases hdig : 48 ≤ c.toNat ∧ c.toNat ≤ 57
      · have hz1 : (48 : Int) ≤ (c.toNat : Int) := by omega
        have hz2 : (c.toNat : Int) ≤ 57 := by omega
        have hx : hexD c.toNat = some (c.toNat - 48) := by unfold hexD; rw [if_pos hdig]
        have HS := Aside0.mk (show hexN 0 t = hexN (acc * 16 + (c.toNat - 48)) (t.drop (k + 1)) by rw [hh, hexN, hx])
        have HAN := Aside0.mk (show acc * 16 + (c.toNat - 48) < 16 ^ (k + 1) by have := HA.out; rw [Nat.pow_succ]; omega)
        have h39 : ¬ (1152921504606846976 : Int) ≤ (acc : Int) := by omega
        clear hx hh hd hc
        go_wp2
        go_roundg k1
        case measure => omega
        case rel => exact ⟨k + 1, acc * 16 + (c.toNat - 48), by omega, rfl, by congr 1; omega, by go_num, HAN, HS, rfl⟩
      · by_cases h95 : c.toNat = 95
        · have cc' : wr.cell? ⟨w.heap.size, k, none⟩ = some (.int .u8 95) := by rw [cc, h95]; rfl
          have hx : hexD c.toNat = none := by rw [h95]; decide
          have HE := Aside0.mk (show hexN 0 t = none by rw [hh, hexN, hx])
          clear hx hh hd hc cc hdig hlow hlowz hc256 hc256' h95
          go_wp2_with fail
          refine (lower_95 _).mono ?_
          rintro e w' ⟨rfl, hw⟩
          rw [hw]
          clear hw w'
          simp only []
          go_wp2_with fail
          refine (lower_95 _).mono ?_
          rintro e w' ⟨rfl, hw⟩
          rw [hw]
          clear hw w'
          simp only []
          go_wp2
          go_ret2
          exact ⟨HBW.out, (fun n h => by rw [HE.out] at h; cases h), (fun _ => rfl)⟩
        · have h95z : ¬ (c.toNat : Int) = 95 := by omega
          by_cases h48 : 48 ≤ c.toNat
          · have hz1 : (48 : Int) ≤ (c.toNat : Int) := by omega
            have hz2 : ¬ (c.toNat : Int) ≤ 57 := by omega
            by_cases hL : 97 ≤ (c.toNat ||| 32) ∧ (c.toNat ||| 32) ≤ 122
            · have hl1 : (97 : Int) ≤ ((c.toNat ||| 32 : Nat) : Int) := by omega
              have hl2 : ((c.toNat ||| 32 : Nat) : Int) ≤ 122 := by omega
              by_cases hF : (c.toNat ||| 32) ≤ 102
              · have hx : hexD c.toNat = some ((c.toNat ||| 32) - 87) := by unfold hexD; rw [if_neg hdig, if_pos ⟨hL.1, hF⟩]
                have HS := Aside0.mk (show hexN 0 t = hexN (acc * 16 + ((c.toNat ||| 32) - 87)) (t.drop (k + 1)) by rw [hh, hexN, hx])
                have HAN := Aside0.mk (show acc * 16 + ((c.toNat ||| 32) - 87) < 16 ^ (k + 1) by have := HA.out; rw [Nat.pow_succ]; omega)
                obtain ⟨lw, hlw⟩ : ∃ lw, lw = (c.toNat ||| 32) := ⟨_, rfl⟩
                have hlc := fun w => lower_calls c w
                rw [← hlw] at hL hl1 hl2 hF HS HAN hlow hlowz
                simp only [← hlw] at hlc
                have HLC := Aside0.mk hlc
                clear hlc
                clear hx hh hd hc hlw hdig
                clear hL hlow hlowz hc256 hc256'
                go_wp2_with fail
                refine (HLC.out _).mono ?_
                rintro e w' ⟨rfl, hw⟩
                rw [hw]
                clear hw w'
                simp only []
                go_wp2_with fail
                refine (HLC.out _).mono ?_
                rintro e w' ⟨rfl, hw⟩
                rw [hw]
                clear hw w'
                simp only []
                go_wp2_with fail
                refine (HLC.out _).mono ?_
                rintro e w' ⟨rfl, hw⟩
                rw [hw]
                clear hw w'
                simp only []
                clear HLC
                have hw1 : IntKind.u8.wrap ((lw : Int) - 97) = (lw : Int) - 97 := by rw [IntKind.wrap_u8]; omega
                have hw2 : IntKind.u8.wrap ((lw : Int) - 97 + 10) = (lw : Int) - 97 + 10 := by rw [IntKind.wrap_u8]; omega
                have hFz : (lw : Int) ≤ 102 := by omega
                have h39 : ¬ (1152921504606846976 : Int) ≤ (acc : Int) := by omega
                clear hl2 hF
                go_wp2
                go_roundg k1
                case measure => omega
                case rel => exact ⟨k + 1, acc * 16 + (lw - 87), by omega, rfl, by congr 1; omega, by go_num, HAN, HS, rfl⟩
              · have hx : hexD c.toNat = none := by unfold hexD; rw [if_neg hdig, if_neg (by omega)]
                have HE := Aside0.mk (show hexN 0 t = none by rw [hh, hexN, hx])
                obtain ⟨lw, hlw⟩ : ∃ lw, lw = (c.toNat ||| 32) := ⟨_, rfl⟩
                have hlc := fun w => lower_calls c w
                rw [← hlw] at hL hl1 hl2 hF hlow hlowz
                simp only [← hlw] at hlc
                have HLC := Aside0.mk hlc
                clear hlc
                have hFz : (102 : Int) < (lw : Int) := by omega
                clear hx hh hd hc hlw hdig
                clear hL hlow hlowz hc256 hc256'
                go_wp2_with fail
                refine (HLC.out _).mono ?_
                rintro e w' ⟨rfl, hw⟩
                rw [hw]
                clear hw w'
                simp only []
                go_wp2_with fail
                refine (HLC.out _).mono ?_
                rintro e w' ⟨rfl, hw⟩
                rw [hw]
                clear hw w'
                simp only []
                go_wp2_with fail
                refine (HLC.out _).mono ?_
                rintro e w' ⟨rfl, hw⟩
                rw [hw]
                clear hw w'
                simp only []
                clear HLC
                go_wp2
                go_ret2
                exact ⟨HBW.out, (fun n h => by rw [HE.out] at h; cases h), (fun _ => rfl)⟩
            · have hx : hexD c.toNat = none := by unfold hexD; rw [if_neg hdig, if_neg (by omega)]
              have HE := Aside0.mk (show hexN 0 t = none by rw [hh, hexN, hx])
              obtain ⟨lw, hlw⟩ : ∃ lw, lw = (c.toNat ||| 32) := ⟨_, rfl⟩
              have hlc := fun w => lower_calls c w
              rw [← hlw] at hL hlow hlowz
              simp only [← hlw] at hlc
              have HLC := Aside0.mk hlc
              clear hlc
              clear hx hh hd hc hlw hdig
              by_cases hl1 : 97 ≤ lw
              · have hl1z : (97 : Int) ≤ (lw : Int) := by omega
                have hl2z : ¬ (lw : Int) ≤ 122 := by omega
                clear hL hlow hlowz hc256 hc256'
                go_wp2_with fail
                refine (HLC.out _).mono ?_
                rintro e w' ⟨rfl, hw⟩
                rw [hw]
                clear hw w'
                simp only []
                go_wp2_with fail
                refine (HLC.out _).mono ?_
                rintro e w' ⟨rfl, hw⟩
                rw [hw]
                clear hw w'
                simp only []
                clear HLC
                go_wp2
                go_ret2
                exact ⟨HBW.out, (fun n h => by rw [HE.out] at h; cases h), (fun _ => rfl)⟩
              · have hl1z : ¬ (97 : Int) ≤ (lw : Int) := by omega
                clear hL hlow hlowz hc256 hc256'
                go_wp2_with fail
                refine (HLC.out _).mono ?_
                rintro e w' ⟨rfl, hw⟩
                rw [hw]
                clear hw w'
                simp only []
                clear HLC
                go_wp2
                go_ret2
                exact ⟨HBW.out, (fun n h => by rw [HE.out] at h; cases h), (fun _ => rfl)⟩
          · have hz1 : ¬ (48 : Int) ≤ (c.toNat : Int) := by omega
            by_cases hL : 97 ≤ (c.toNat ||| 32) ∧ (c.toNat ||| 32) ≤ 122
            · have hl1 : (97 : Int) ≤ ((c.toNat ||| 32 : Nat) : Int) := by omega
              have hl2 : ((c.toNat ||| 32 : Nat) : Int) ≤ 122 := by omega
              by_cases hF : (c.toNat ||| 32) ≤ 102
              · have hx : hexD c.toNat = some ((c.toNat ||| 32) - 87) := by unfold hexD; rw [if_neg hdig, if_pos ⟨hL.1, hF⟩]
                have HS := Aside0.mk (show hexN 0 t = hexN (acc * 16 + ((c.toNat ||| 32) - 87)) (t.drop (k + 1)) by rw [hh, hexN, hx])
                have HAN := Aside0.mk (show acc * 16 + ((c.toNat ||| 32) - 87) < 16 ^ (k + 1) by have := HA.out; rw [Nat.pow_succ]; omega)
                obtain ⟨lw, hlw⟩ : ∃ lw, lw = (c.toNat ||| 32) := ⟨_, rfl⟩
                have hlc := fun w => lower_calls c w
                rw [← hlw] at hL hl1 hl2 hF HS HAN hlow hlowz
                simp only [← hlw] at hlc
                have HLC := Aside0.mk hlc
                clear hlc
                clear hx hh hd hc hlw hdig
                clear hL hlow hlowz hc256 hc256'
                go_wp2_with fail
                refine (HLC.out _).mono ?_
                rintro e w' ⟨rfl, hw⟩
                rw [hw]
                clear hw w'
                simp only []
                go_wp2_with fail
                refine (HLC.out _).mono ?_
                rintro e w' ⟨rfl, hw⟩
                rw [hw]
                clear hw w'
                simp only []
                go_wp2_with fail
                refine (HLC.out _).mono ?_
                rintro e w' ⟨rfl, hw⟩
                rw [hw]
                clear hw w'
                simp only []
                clear HLC
                have hw1 : IntKind.u8.wrap ((lw : Int) - 97) = (lw : Int) - 97 := by rw [IntKind.wrap_u8]; omega
                have hw2 : IntKind.u8.wrap ((lw : Int) - 97 + 10) = (lw : Int) - 97 + 10 := by rw [IntKind.wrap_u8]; omega
                have hFz : (lw : Int) ≤ 102 := by omega
                have h39 : ¬ (1152921504606846976 : Int) ≤ (acc : Int) := by omega
                clear hl2 hF
                go_wp2
                go_roundg k1
                case measure => omega
                case rel => exact ⟨k + 1, acc * 16 + (lw - 87), by omega, rfl, by congr 1; omega, by go_num, HAN, HS, rfl⟩
              · have hx : hexD c.toNat = none := by unfold hexD; rw [if_neg hdig, if_neg (by omega)]
                have HE := Aside0.mk (show hexN 0 t = none by rw [hh, hexN, hx])
                obtain ⟨lw, hlw⟩ : ∃ lw, lw = (c.toNat ||| 32) := ⟨_, rfl⟩
                have hlc := fun w => lower_calls c w
                rw [← hlw] at hL hl1 hl2 hF hlow hlowz
                simp only [← hlw] at hlc
                have HLC := Aside0.mk hlc
                clear hlc
                have hFz : (102 : Int) < (lw : Int) := by omega
                clear hx hh hd hc hlw hdig
                clear hL hlow hlowz hc256 hc256'
                go_wp2_with fail
                refine (HLC.out _).mono ?_
                rintro e w' ⟨rfl, hw⟩
                rw [hw]
                clear hw w'
                simp only []
                go_wp2_with fail
                refine (HLC.out _).mono ?_
                rintro e w' ⟨rfl, hw⟩
                rw [hw]
                clear hw w'
                simp only []
                go_wp2_with fail
                refine (HLC.out _).mono ?_
                rintro e w' ⟨rfl, hw⟩
                rw [hw]
                clear hw w'
                simp only []
                clear HLC
                go_wp2
                go_ret2
                exact ⟨HBW.out, (fun n h => by rw [HE.out] at h; cases h), (fun _ => rfl)⟩
            · have hx : hexD c.toNat = none := by unfold hexD; rw [if_neg hdig, if_neg (by omega)]
              have HE := Aside0.mk (show hexN 0 t = none by rw [hh, hexN, hx])
              obtain ⟨lw, hlw⟩ : ∃ lw, lw = (c.toNat ||| 32) := ⟨_, rfl⟩
              have hlc := fun w => lower_calls c w
              rw [← hlw] at hL hlow hlowz
              simp only [← hlw] at hlc
              have HLC := Aside0.mk hlc
              clear hlc
              clear hx hh hd hc hlw hdig
              by_cases hl1 : 97 ≤ lw
              · have hl1z : (97 : Int) ≤ (lw : Int) := by omega
                have hl2z : ¬ (lw : Int) ≤ 122 := by omega
                clear hL hlow hlowz hc256 hc256'
                go_wp2_with fail
                refine (HLC.out _).mono ?_
                rintro e w' ⟨rfl, hw⟩
                rw [hw]
                clear hw w'
                simp only []
                go_wp2_with fail
                refine (HLC.out _).mono ?_
                rintro e w' ⟨rfl, hw⟩
                rw [hw]
                clear hw w'
                simp only []
                clear HLC
                go_wp2
                go_ret2
                exact ⟨HBW.out, (fun n h => by rw [HE.out] at h; cases h), (fun _ => rfl)⟩
              · have hl1z : ¬ (97 : Int) ≤ (lw : Int) := by omega
                clear hL hlow hlowz hc256 hc256'
                go_wp2_with fail
                refine (HLC.out _).mono ?_
                rintro e w' ⟨rfl, hw⟩
                rw [hw]
                clear hw w'
                simp only []
                clear HLC
                go_wp2
                go_ret2
                exact ⟨HBW.out, (fun n h => by rw [HE.out] at h; cases h), (fun _ => rfl)⟩
end Go.Proofs.YtohlbnbfpcbpdaaDoor.Lx
/- strconv.ParseUint at base 16, 16 bits, four bytes: the walk. -/
namespace Go.Proofs.YtohlbnbfpcbpdaaDoor.Lx
open Go.RowKit Go.Proofs.YtohlbnbfpcbpdaaDoorW.PrintWords Go.Proofs.YtohlbnbfpcbpdaaDoorW.PrintLast Go.Proofs.YtohlbnbfpcbpdaaDoorW.PrintMore

theorem cell_below {w w' : World} {a : Addr} {v : Value} (hb : Below w.heap.size w w') (h : w.cell? a = some v) : w'.cell? a = some v := by
  have hlt : a.block < w.heap.size := by
    rcases Nat.lt_or_ge a.block w.heap.size with h' | h'
    · exact h'
    · simp [World.cell?, Array.getElem?_eq_none h'] at h
  rw [hb.cell hlt]
  exact h
theorem TE.below {w w' : World} (h : TE w) (hb : Below w.heap.size w w') : TE w' := by
  obtain ⟨⟨e1, h1, h2⟩, e2, h3, h4⟩ := h
  exact ⟨⟨e1, cell_below hb h1, h2⟩, e2, cell_below hb h3, h4⟩
set_option maxRecDepth 100000 in
set_option maxHeartbeats 2000000 in
theorem PU_calls (t : List UInt8) (ht : t.length = 4) (w : World) (hte : TE w) :
    Calls Tryd.prog 90 #[.string ⟨t.toArray⟩, .int .i64 16, .int .i64 16] w fun e w' => Below w.heap.size w w' ∧
      ((∀ n, hexN 0 t = some n → e = .returned (.tuple #[.int .u64 n, .nilIface]) ∧ n ≤ 65535) ∧ (hexN 0 t = none → ∃ N, e = .returned (.tuple #[.int .u64 0, .iface 110 (.pointer (some ⟨N, 0, none⟩))]))) := by
  have HT := Aside0.mk hte
  have hsz : (ByteArray.mk t.toArray).size = 4 := by rw [show (ByteArray.mk t.toArray).size = t.length by simp [ByteArray.size], ht]
  have HC := Aside0.mk (ParseUint16_calls t ht w)
  clear hte
  cases hx : hexN 0 t with
  | some n =>
    have HX := Aside0.mk hx
    clear hx
    go_enter Tryd.func90, Tryd.ntmps90
    go_wp2_with fail
    refine HC.out.mono ?_
    rintro e w1 ⟨hb, h1, _⟩
    obtain ⟨rfl, hn⟩ := h1 n HX.out
    have HB := Aside0.mk hb
    clear hb h1
    go_wp2
    go_ret2
    exact ⟨HB.out, (fun m hm => by cases hm; exact ⟨rfl, hn⟩), (fun h => by cases h)⟩
  | none =>
    have HX := Aside0.mk hx
    clear hx
    go_enter Tryd.func90, Tryd.ntmps90
    go_wp2_with fail
    refine HC.out.mono ?_
    rintro e w1 ⟨hb, _, h1⟩
    obtain rfl := h1 HX.out
    have HB := Aside0.mk hb
    obtain ⟨ev, hev1, hev2⟩ := (HT.out.below hb).1
    have HE1 := Aside0.mk hev1
    have HE2 := Aside0.mk hev2
    clear hb h1 hev1 hev2
    go_wp2_with fail
    refine (Tryd.strconv_toError_syntax _ ⟨t.toArray⟩ 16 16 ev w1 (by omega) HE1.out HE2.out).mono ?_
    rintro e w2 ⟨N, rfl, _, _, hb2⟩
    have HB2 := Aside0.mk (HB.out.trans (hb2.mono HB.out.size))
    clear hb2
    go_wp2
    go_ret2
    exact ⟨HB2.out, (fun m hm => by cases hm), (fun _ => ⟨N, rfl⟩)⟩
end Go.Proofs.YtohlbnbfpcbpdaaDoor.Lx
