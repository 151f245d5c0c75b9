/- What TreePrints stands on, part 3. -/
import Derived.Test.YtegppkngdkkdcaaGreatDoorTP2
set_option linter.unusedVariables false
set_option linter.unusedSimpArgs false
section
namespace Go.Proofs.YtegppkngdkkdcaaGreatDoor.PQ
open Go.RowKit Go.Proofs.YtegppkngdkkdcaaGreatDoorW.PrintWords Go.Proofs.YtegppkngdkkdcaaGreatDoorW.PrintLast Go.Proofs.YtegppkngdkkdcaaGreatDoorW.PrintMore
attribute [local go_sem] max2_int min2_int max_two min_two max_three min_three max_four min_four   -- for this text's walks alone
set_option linter.unusedVariables false
set_option linter.unusedSimpArgs false
def slices_Equal_string_string.l0 : Nat → List ByteArray → List ByteArray → Int → Int → Option (Bool)
  | 0, _, _, _, _ => none
  | k + 1, x0, x1, x12, x13 => if x13 < x12 then (if 0 ≤ x13 then (if x13 < (x0.length : Int) then (if x13 < (x1.length : Int) then (if (rdOf ByteArray.empty x0 x13).toList = (rdOf ByteArray.empty x1 x13).toList then (slices_Equal_string_string.l0 k x0 x1 x12 (wrap64 (x13 + 1))) else (some false)) else (none)) else (none)) else (none)) else (some true)
def slices_Equal_string_string.f (k : Nat) (l0 : List ByteArray) (l1 : List ByteArray) : Option (Bool) := if (l0.length : Int) = (l1.length : Int) then (slices_Equal_string_string.l0 k l0 l1 (l0.length : Int) 0) else (some false)
theorem slices_Equal_string_string.mono_l : ∀ k, (∀ y0 y1 y2 y3, LeO (slices_Equal_string_string.l0 k y0 y1 y2 y3) (slices_Equal_string_string.l0 (k + 1) y0 y1 y2 y3))
  | 0 => fun _ _ _ _ r h => by simp [slices_Equal_string_string.l0] at h
  | k + 1 => by
    have ih0 := slices_Equal_string_string.mono_l k
    · intro y0 y1 y2 y3
      unfold slices_Equal_string_string.l0
      repeat' first
      | (with_reducible exact ih0 _ _ _ _)
      | (with_reducible exact LeO.refl _)
      | (with_reducible exact LeO.none _)
      | (with_reducible refine LeO.ite ?_ ?_)
      | (with_reducible refine LeO.bind ?_ (fun _ => ?_))
      | exact ih0 _ _ _ _
      | exact LeO.none _
      | refine LeO.ite ?_ ?_
      | refine LeO.bind ?_ (fun _ => ?_)
theorem slices_Equal_string_string.mono : ∀ a0 a1 k, LeO (slices_Equal_string_string.f k a0 a1) (slices_Equal_string_string.f (k + 1) a0 a1) := by
  intro a0 a1 k
  have ih0 := slices_Equal_string_string.mono_l k
  unfold slices_Equal_string_string.f
  repeat' first
      | (with_reducible exact ih0 _ _ _ _)
      | (with_reducible exact LeO.refl _)
      | (with_reducible exact LeO.none _)
      | (with_reducible refine LeO.ite ?_ ?_)
      | (with_reducible refine LeO.bind ?_ (fun _ => ?_))
      | exact ih0 _ _ _ _
      | exact LeO.none _
      | refine LeO.ite ?_ ?_
      | refine LeO.bind ?_ (fun _ => ?_)
set_option maxHeartbeats 8000000 in
set_option maxRecDepth 100000 in
theorem slices_Equal_string_string.calls (k : Nat) (A0 : Option Addr) (c0 : Nat) (l0 : List ByteArray) (A1 : Option Addr) (c1 : Nat) (l1 : List ByteArray) (r : Bool) (w : World) (hr0 : Kd.C Kd.string w A0 l0.length l0) (hc0 : l0.length ≤ c0) (hr1 : Kd.C Kd.string w A1 l1.length l1) (hc1 : l1.length ≤ c1) (h : slices_Equal_string_string.f k l0 l1 = some r) :
    Calls Tryz.prog 61 #[.slice A0 l0.length c0, .slice A1 l1.length c1] w fun e w' => e = .returned (.bool r) ∧ Drawn0 w w' := by
  have HR0 := Aside0.mk hr0
  have HC0 := Aside0.mk hc0
  clear hr0 hc0
  have HR1 := Aside0.mk hr1
  have HC1 := Aside0.mk hc1
  clear hr1 hc1
  have H : (if (l0.length : Int) = (l1.length : Int) then (slices_Equal_string_string.l0 k l0 l1 (l0.length : Int) 0) else (some false)) = some r := h
  clear h
  by_cases c3 : (l0.length : Int) = (l1.length : Int)
  · rw [if_pos c3] at H
    have c3b0 : ((l0.length : Int) == (l1.length : Int)) = true := beq_iff_eq.mpr c3
    have c3b1 : ((l0.length : Int) != (l1.length : Int)) = false := bne_eq_false_iff_eq.mpr c3
    have c3b2 : (l0.length == l1.length) = true := by first | simpa using c3 | (simp at c3 ⊢; omega)
    clear c3
    have H' := Aside0.mk H
    clear H
    go_enter Tryz.func61, Tryz.ntmps61
    go_wp2
    repeat (go_quiet (fail); try go_wp2)
    go_loopg [13] k (fun kq v13 w' => ∃ (x13_1 : Int), v13 = .int .i64 x13_1 ∧ Aside0 (slices_Equal_string_string.l0 kq l0 l1 (l0.length : Int) x13_1 = some r) ∧ Aside0 (kq ≤ k) ∧ Drawn0 w w')
    case atStart => exact ⟨(0), (by first | rfl | (simp; done) | (simp [*]; done)), H', ⟨Nat.le_refl _⟩, by repeat (first | exact Drawn0.refl _ | apply Drawn0.step)⟩
    case round =>
      clear H'
      try clear c1
      try clear p2
      try clear c3
      try clear c3b0
      try clear c3b1
      try clear c3b2
      obtain ⟨x13_1, rfl, HA, HK1, ⟨m1, rfl⟩⟩ := hrel
      cases gk with
      | zero => exact absurd HA.out (by simp [slices_Equal_string_string.l0])
      | succ k1 =>
        have H := HA.out
        clear HA
        simp only [slices_Equal_string_string.l0] at H
        by_cases c4 : x13_1 < (l0.length : Int)
        · rw [if_pos c4] at H
          have c4b0 : decide (x13_1 < (l0.length : Int)) = true := decide_eq_true c4
          clear c4
          by_cases c5 : 0 ≤ x13_1
          · rw [if_pos c5] at H
            have c5b0 : decide (0 ≤ x13_1) = true := decide_eq_true c5
            clear c5
            by_cases c6 : x13_1 < (l0.length : Int)
            · rw [if_pos c6] at H
              have c6b0 : decide (x13_1 < (l0.length : Int)) = true := decide_eq_true c6
              clear c6
              by_cases c7 : x13_1 < (l1.length : Int)
              · rw [if_pos c7] at H
                have c7b0 : decide (x13_1 < (l1.length : Int)) = true := decide_eq_true c7
                clear c7
                by_cases c8 : (rdOf ByteArray.empty l0 x13_1).toList = (rdOf ByteArray.empty l1 x13_1).toList
                · rw [if_pos c8] at H
                  have c8b0 : ((rdOf ByteArray.empty l0 x13_1).toList == (rdOf ByteArray.empty l1 x13_1).toList) = true := beq_iff_eq.mpr c8
                  have c8b1 : ((rdOf ByteArray.empty l0 x13_1).toList != (rdOf ByteArray.empty l1 x13_1).toList) = false := bne_eq_false_iff_eq.mpr c8
                  clear c8
                  have H' := Aside0.mk H
                  clear H
                  have p101 : 0 ≤ (x13_1 : Int) := of_decide_eq_true (by first | (with_reducible assumption) | assumption)
                  have q101 : x13_1 < (l0.length : Int) := of_decide_eq_true (by first | (with_reducible assumption) | assumption)
                  obtain ⟨ad101, e101, hx101_0⟩ := Kd.at_string HR0.out x13_1 p101 q101
                  cases e101
                  replace p101 := eq_true p101
                  replace q101 := eq_true q101
                  have p102 : 0 ≤ (x13_1 : Int) := of_decide_eq_true (by first | (with_reducible assumption) | assumption)
                  have q102 : x13_1 < (l1.length : Int) := of_decide_eq_true (by first | (with_reducible assumption) | assumption)
                  obtain ⟨ad102, e102, hx102_0⟩ := Kd.at_string HR1.out x13_1 p102 q102
                  cases e102
                  replace p102 := eq_true p102
                  replace q102 := eq_true q102
                  go_wp2
                  repeat (go_quiet (fail); try go_wp2)
                  go_roundg k1
                  case measure => have := HK1.out; omega
                  case rel => exact ⟨(wrap64 (x13_1 + 1)), (by first | rfl | (simp; done) | (simp [*]; done)), H', ⟨by have := HK1.out; omega⟩, by repeat (first | exact Drawn0.refl _ | apply Drawn0.step)⟩
                · rw [if_neg c8] at H
                  have c8b0 : ((rdOf ByteArray.empty l0 x13_1).toList == (rdOf ByteArray.empty l1 x13_1).toList) = false := beq_eq_false_iff_ne.mpr c8
                  have c8b1 : ((rdOf ByteArray.empty l0 x13_1).toList != (rdOf ByteArray.empty l1 x13_1).toList) = true := bne_iff_ne.mpr c8
                  obtain rfl := Option.some.inj H
                  have p101 : 0 ≤ (x13_1 : Int) := of_decide_eq_true (by first | (with_reducible assumption) | assumption)
                  have q101 : x13_1 < (l0.length : Int) := of_decide_eq_true (by first | (with_reducible assumption) | assumption)
                  obtain ⟨ad101, e101, hx101_0⟩ := Kd.at_string HR0.out x13_1 p101 q101
                  cases e101
                  replace p101 := eq_true p101
                  replace q101 := eq_true q101
                  have p102 : 0 ≤ (x13_1 : Int) := of_decide_eq_true (by first | (with_reducible assumption) | assumption)
                  have q102 : x13_1 < (l1.length : Int) := of_decide_eq_true (by first | (with_reducible assumption) | assumption)
                  obtain ⟨ad102, e102, hx102_0⟩ := Kd.at_string HR1.out x13_1 p102 q102
                  cases e102
                  replace p102 := eq_true p102
                  replace q102 := eq_true q102
                  go_wp2
                  repeat (go_quiet (fail); try go_wp2)
                  go_ret
                  exact ⟨by first | rfl | (simp; done) | (simp [*]; done), by repeat (first | exact Drawn0.refl _ | apply Drawn0.step)⟩
              · rw [if_neg c7] at H
                exact absurd H (by simp)
            · rw [if_neg c6] at H
              exact absurd H (by simp)
          · rw [if_neg c5] at H
            exact absurd H (by simp)
        · rw [if_neg c4] at H
          have c4b0 : decide (x13_1 < (l0.length : Int)) = false := decide_eq_false c4
          clear c4
          obtain rfl := Option.some.inj H
          go_wp2
          repeat (go_quiet (fail); try go_wp2)
          go_ret
          exact ⟨by first | rfl | (simp; done) | (simp [*]; done), by repeat (first | exact Drawn0.refl _ | apply Drawn0.step)⟩
  · rw [if_neg c3] at H
    have c3b0 : ((l0.length : Int) == (l1.length : Int)) = false := beq_eq_false_iff_ne.mpr c3
    have c3b1 : ((l0.length : Int) != (l1.length : Int)) = true := bne_iff_ne.mpr c3
    have c3b2 : (l0.length == l1.length) = false := by first | simpa using c3 | (simp at c3 ⊢; omega)
    obtain rfl := Option.some.inj H
    go_enter Tryz.func61, Tryz.ntmps61
    go_wp2
    repeat (go_quiet (fail); try go_wp2)
    go_ret
    exact ⟨by first | rfl | (simp; done) | (simp [*]; done), by repeat (first | exact Drawn0.refl _ | apply Drawn0.step)⟩
end Go.Proofs.YtegppkngdkkdcaaGreatDoor.PQ
end
section
set_option linter.unusedVariables false
set_option linter.unusedSimpArgs false
namespace Go.Proofs.YtegppkngdkkdcaaGreatDoor.Tr
open Go.RowKit Go.Proofs.YtegppkngdkkdcaaGreatDoorW.PrintWords Go.Proofs.YtegppkngdkkdcaaGreatDoorW.PrintLast Go.Proofs.YtegppkngdkkdcaaGreatDoorW.PrintMore
open Go.Proofs.YtegppkngdkkdcaaGreatDoor.Lx Go.Proofs.YtegppkngdkkdcaaGreatDoor.PS
theorem ba_ext {a b : ByteArray} (h : a.toList = b.toList) : a = b := by
  rw [Lib.toList_data, Lib.toList_data] at h
  cases a
  cases b
  simpa using h
theorem eqS_all (xs ys : List ByteArray) (hl : xs.length ≤ 1000000000000) (he : xs.length = ys.length) : ∀ (d j k : Nat), j + d = xs.length → d + 1 ≤ k → ∃ r, PQ.slices_Equal_string_string.l0 k xs ys (xs.length : Int) (j : Int) = some r ∧ (r = true ↔ xs.drop j = ys.drop j)
  | 0, j, k, hj, hk => by
    obtain ⟨k, rfl⟩ : ∃ k', k = k' + 1 := ⟨k - 1, by omega⟩
    refine ⟨true, ?_, ?_⟩
    · simp only [PQ.slices_Equal_string_string.l0]
      rw [if_neg (by omega)]
    · rw [List.drop_eq_nil_of_le (by omega), List.drop_eq_nil_of_le (by omega)]
      simp
  | d + 1, j, k, hj, hk => by
    obtain ⟨k, rfl⟩ : ∃ k', k = k' + 1 := ⟨k - 1, by omega⟩
    have hlt : j < xs.length := by omega
    have hlt2 : j < ys.length := by omega
    simp only [PQ.slices_Equal_string_string.l0]
    rw [if_pos (by omega), if_pos (by omega), if_pos (by omega), if_pos (by omega)]
    have hrd : rdOf ByteArray.empty xs (j : Int) = xs[j] := by simp [rdOf, List.getD, List.getElem?_eq_getElem hlt]
    have hrd2 : rdOf ByteArray.empty ys (j : Int) = ys[j] := by simp [rdOf, List.getD, List.getElem?_eq_getElem hlt2]
    rw [hrd, hrd2, List.drop_eq_getElem_cons hlt, List.drop_eq_getElem_cons hlt2]
    by_cases hq : xs[j].toList = ys[j].toList
    · rw [if_pos hq]
      obtain ⟨r, h1, h2⟩ := eqS_all xs ys hl he d (j + 1) k (by omega) (by omega)
      have hw : wrap64 ((j : Int) + 1) = ((j + 1 : Nat) : Int) := by
        unfold wrap64
        omega
      rw [hw]
      refine ⟨r, h1, h2.trans ?_⟩
      rw [ba_ext hq]
      exact ⟨fun h => by rw [h], fun h => (List.cons.inj h).2⟩
    · rw [if_neg hq]
      refine ⟨false, rfl, ⟨fun h => absurd h (by decide), fun h => ?_⟩⟩
      exact absurd (congrArg ByteArray.toList (List.cons.inj h).1) hq
theorem eqS (xs ys : List ByteArray) (hl : xs.length ≤ 1000000000000) : ∃ r, PQ.slices_Equal_string_string.f (xs.length + 1) xs ys = some r ∧ (r = true ↔ xs = ys) := by
  unfold PQ.slices_Equal_string_string.f
  by_cases he : xs.length = ys.length
  · rw [if_pos (by omega)]
    obtain ⟨r, h1, h2⟩ := eqS_all xs ys hl he xs.length 0 (xs.length + 1) (by omega) (by omega)
    exact ⟨r, h1, by simpa using h2⟩
  · rw [if_neg (by omega)]
    exact ⟨false, rfl, ⟨fun h => absurd h (by decide), fun h => absurd (congrArg List.length h) he⟩⟩
end Go.Proofs.YtegppkngdkkdcaaGreatDoor.Tr
end
section
set_option linter.unusedVariables false
set_option linter.unusedSimpArgs false
namespace Go.Proofs.YtegppkngdkkdcaaGreatDoor.Tr
open Go.RowKit Go.Proofs.YtegppkngdkkdcaaGreatDoorW.PrintWords Go.Proofs.YtegppkngdkkdcaaGreatDoorW.PrintLast Go.Proofs.YtegppkngdkkdcaaGreatDoorW.PrintMore
open Go.Proofs.YtegppkngdkkdcaaGreatDoor.Lx Go.Proofs.YtegppkngdkkdcaaGreatDoor.PS
def eqHead (x y : V) : Bool := x.f0 == y.f0 && x.f1 == y.f1 && decide (x.f2 = y.f2) && decide (x.f4 = y.f4)
def eqR : Nat → V → V → Bool
  | 0, x, y => eqHead x y && eqRows (fun _ _ => false) x.f3 y.f3
  | d + 1, x, y => eqHead x y && eqRows (eqR d) x.f3 y.f3
theorem equal_enters (args : Array Value) (w : World) : (callFunc 33 args).run Tryz.prog w = .ok (.enter 33 args) w := enters_ Tryz.func33 (by kernel_rfl) (by kernel_rfl) args w
set_option maxRecDepth 100000 in
set_option maxHeartbeats 1000000 in
theorem equal_step (pr : V → V → Bool) (x y : V) (A3 : Option Addr) (c3 : Nat) (A4 : Option Addr) (c4 : Nat) (B3 : Option Addr) (e3 : Nat) (B4 : Option Addr) (e4 : Nat) (w : World) (hx3 : x.f3.length ≤ 1000000000000) (hx4 : x.f4.length ≤ 1000000000000) (hy3 : y.f3.length ≤ 1000000000000)
    (l4 : x.f4.length ≤ c4) (m4 : y.f4.length ≤ e4) (g3 : k26.C w A3 x.f3.length x.f3) (g4 : Kd.string.C w A4 x.f4.length x.f4) (k3 : k26.C w B3 y.f3.length y.f3) (k4 : Kd.string.C w B4 y.f4.length y.f4)
    (hT : ∀ w1, Below w.heap.size w w1 → TellE x.f3 y.f3 pr 33 #[] w1) :
    Calls Tryz.prog 33 #[vArg x A3 c3 A4 c4, vArg y B3 e3 B4 e4] w fun e w' => e = .returned (.bool (eqHead x y && eqRows pr x.f3 y.f3)) ∧ Below w.heap.size w w' := by
  obtain ⟨r, hr⟩ : ∃ r, r = (eqHead x y && eqRows pr x.f3 y.f3) := ⟨_, rfl⟩
  rw [← hr]
  have HR := Aside0.mk hr
  have hB2 : Below w.heap.size w ((w.alloc (.cells #[.int .i64 x.f0, .int .i64 x.f1, .string x.f2, .slice A3 x.f3.length c3, .slice A4 x.f4.length c4] 26 (0, 0))).alloc (.cells #[.int .i64 y.f0, .int .i64 y.f1, .string y.f2, .slice B3 y.f3.length e3, .slice B4 y.f4.length e4] 26 (0, 0))) := ((Below.refl _ _).alloc (Nat.le_refl _) _).alloc (by simp) _
  obtain ⟨rs, hs1, hs2⟩ := eqS x.f4 y.f4 hx4
  have HS := Aside0.mk (And.intro hs1 hs2)
  have HG := Aside0.mk (And.intro (Kd.C_below g3 hB2) (And.intro (Kd.C_below g4 hB2) (And.intro (Kd.C_below k3 hB2) (Kd.C_below k4 hB2))))
  have HT := Aside0.mk hT
  have HB2 := Aside0.mk hB2
  unfold vArg
  have hxx : x.f2 = ⟨x.f2.data.toList.toArray⟩ := by cases x.f2; rfl
  clear hr hs1 hs2 g3 g4 k3 k4 hT hB2
  by_cases h0 : x.f0 = y.f0
  · have b0 : (x.f0 == y.f0) = true := by simpa using h0
    have H0 := Aside0.mk b0
    by_cases h1 : x.f1 = y.f1
    · have b1 : (x.f1 == y.f1) = true := by simpa using h1
      have H1 := Aside0.mk b1
      by_cases h2 : x.f2 = y.f2
      · have H2 := Aside0.mk h2
        have b2 : (x.f2.toList == y.f2.toList) = true := by simp [h2]
        clear hxx h0 h1 h2
        go_enter Tryz.func33, Tryz.ntmps33
        go_wp2_with fail
        have nv := blkA (blk_new w (.cells #[.int .i64 x.f0, .int .i64 x.f1, .string x.f2, .slice A3 x.f3.length c3, .slice A4 x.f4.length c4] 26 (0, 0))) (.cells #[.int .i64 y.f0, .int .i64 y.f1, .string y.f2, .slice B3 y.f3.length e3, .slice B4 y.f4.length e4] 26 (0, 0))
        have nd := blk_new (w.alloc (.cells #[.int .i64 x.f0, .int .i64 x.f1, .string x.f2, .slice A3 x.f3.length c3, .slice A4 x.f4.length c4] 26 (0, 0))) (.cells #[.int .i64 y.f0, .int .i64 y.f1, .string y.f2, .slice B3 y.f3.length e3, .slice B4 y.f4.length e4] 26 (0, 0))
        rw [show (w.alloc (.cells #[.int .i64 x.f0, .int .i64 x.f1, .string x.f2, .slice A3 x.f3.length c3, .slice A4 x.f4.length c4] 26 (0, 0))).heap.size = w.heap.size + 1 by simp] at nd
        generalize (w.alloc (.cells #[.int .i64 x.f0, .int .i64 x.f1, .string x.f2, .slice A3 x.f3.length c3, .slice A4 x.f4.length c4] 26 (0, 0))).alloc (.cells #[.int .i64 y.f0, .int .i64 y.f1, .string y.f2, .slice B3 y.f3.length e3, .slice B4 y.f4.length e4] 26 (0, 0)) = W2 at *
        refine (PQ.slices_Equal_string_string.calls (x.f4.length + 1) A4 c4 x.f4 B4 e4 y.f4 rs W2 HG.out.2.1 l4 HG.out.2.2.2 m4 HS.out.1).mono ?_
        rintro e w3 ⟨rfl, hd3⟩
        obtain ⟨nq, rfl⟩ := hd3.out
        clear hd3
        have hdq : Below W2.heap.size W2 (W2.drewN nq) := ⟨rfl, rfl, rfl, Nat.le_refl _, fun _ _ => rfl⟩
        have HB3 := Aside0.mk (HB2.out.trans (hdq.mono HB2.out.size))
        have x3 : (W2.drewN nq).cell? ⟨w.heap.size, 3, none⟩ = some (.slice A3 x.f3.length c3) := blk_cell (blk_below nv hdq) 3
        have y3 : (W2.drewN nq).cell? ⟨w.heap.size + 1, 3, none⟩ = some (.slice B3 y.f3.length e3) := blk_cell (blk_below nd hdq) 3
        have HG3 := Aside0.mk (And.intro (Kd.C_below HG.out.1 hdq) (Kd.C_below HG.out.2.2.1 hdq))
        clear hdq nv nd
        generalize W2.drewN nq = W3 at *
        cases rs with
        | false =>
          have HF := Aside0.mk (show r = false by
            have hne : ¬ x.f4 = y.f4 := fun e => by have := HS.out.2.2 e; cases this
            rw [HR.out]
            simp [eqHead, hne])
          go_wp2
          go_ret
          exact ⟨by rw [HF.out]; rfl, HB3.out⟩
        | true =>
          have HN := Aside0.mk (HS.out.2.1 rfl)
          go_wp2_with fail
          refine (EqualFunc_calls x.f3 y.f3 pr 33 #[] A3 c3 B3 e3 W3 hx3 hy3 equal_enters HG3.out.1 HG3.out.2 (HT.out W3 HB3.out)).mono ?_
          rintro e w5 ⟨rfl, hb5⟩
          have HB5 := Aside0.mk (HB3.out.trans (hb5.mono HB3.out.size))
          clear hb5
          have HF := Aside0.mk (show r = eqRows pr x.f3 y.f3 by
            rw [HR.out]
            simp only [eqHead, H0.out, H1.out, H2.out, HN.out, decide_true, Bool.true_and])
          generalize eqRows pr x.f3 y.f3 = q at *
          go_wp2
          go_ret
          exact ⟨by rw [HF.out]; rfl, HB5.out⟩
      · have HF := Aside0.mk (show r = false by rw [HR.out]; simp [eqHead, h2])
        have b2 : (x.f2.toList == y.f2.toList) = false := beq_eq_false_iff_ne.2 (fun e => h2 (ba_ext e))
        clear h0 h1 h2 hxx
        go_enter Tryz.func33, Tryz.ntmps33
        go_wp2
        go_ret
        exact ⟨by rw [HF.out]; rfl, HB2.out⟩
    · have HF := Aside0.mk (show r = false by rw [HR.out]; simp [eqHead, h1])
      have b1 : (x.f1 == y.f1) = false := by simpa using h1
      clear h0 h1 hxx
      go_enter Tryz.func33, Tryz.ntmps33
      go_wp2
      go_ret
      exact ⟨by rw [HF.out]; rfl, HB2.out⟩
  · have HF := Aside0.mk (show r = false by rw [HR.out]; simp [eqHead, h0])
    have b0 : (x.f0 == y.f0) = false := by simpa using h0
    clear h0 hxx
    go_enter Tryz.func33, Tryz.ntmps33
    go_wp2
    go_ret
    exact ⟨by rw [HF.out]; rfl, HB2.out⟩
def EqC (d : Nat) : Prop := ∀ (x y : V) (A3 : Option Addr) (c3 : Nat) (A4 : Option Addr) (c4 : Nat) (B3 : Option Addr) (e3 : Nat) (B4 : Option Addr) (e4 : Nat) (w : World), soundR d x = true → soundR d y = true → fitsR d x → fitsR d y →
  x.f4.length ≤ c4 → y.f4.length ≤ e4 → k26.C w A3 x.f3.length x.f3 → Kd.string.C w A4 x.f4.length x.f4 → k26.C w B3 y.f3.length y.f3 → Kd.string.C w B4 y.f4.length y.f4 →
  Calls Tryz.prog 33 #[vArg x A3 c3 A4 c4, vArg y B3 e3 B4 e4] w fun e w' => e = .returned (.bool (eqR d x y)) ∧ Below w.heap.size w w'
theorem equal_calls : ∀ d, EqC d
  | 0 => by
    intro x y A3 c3 A4 c4 B3 e3 B4 e4 w sx sy fx fy l4 m4 g3 g4 k3 k4
    have hx := fitsR_len fx
    have hy := fitsR_len fy
    refine equal_step (fun _ _ => false) x y A3 c3 A4 c4 B3 e3 B4 e4 w hx.1 hx.2 hy.1 l4 m4 g3 g4 k3 k4 (fun w1 _ x' hx' => ?_)
    simp only [soundR, bareV, Bool.and_eq_true, Bool.not_eq_true', Bool.or_eq_false_iff, beq_eq_false_iff_ne] at sx
    rw [List.length_eq_zero_iff.1 (bareR_rows sx.1.2 sx.1.1.1 sx.1.1.2)] at hx'
    cases hx'
  | d + 1 => by
    intro x y A3 c3 A4 c4 B3 e3 B4 e4 w sx sy fx fy l4 m4 g3 g4 k3 k4
    have hx := fitsR_len fx
    have hy := fitsR_len fy
    simp only [soundR, Bool.and_eq_true, List.all_eq_true] at sx sy
    refine equal_step (eqR d) x y A3 c3 A4 c4 B3 e3 B4 e4 w hx.1 hx.2 hy.1 l4 m4 g3 g4 k3 k4 (fun w1 _ x' hx' y' hy' P3 p3 P4 p4 Q3 q3 Q4 q4 w2 _ _ n2 n3 n4 _ n6 n7 n8 => ?_)
    exact equal_calls d x' y' P3 p3 P4 p4 Q3 q3 Q4 q4 w2 (sx.2 x' hx') (sy.2 y' hy') (fx.2.2 x' hx') (fy.2.2 y' hy') n3 n7 n2 n4 n6 n8
end Go.Proofs.YtegppkngdkkdcaaGreatDoor.Tr
end
section
set_option linter.unusedVariables false
set_option linter.unusedSimpArgs false
namespace Go.Proofs.YtegppkngdkkdcaaGreatDoor.Tr
open Go.RowKit Go.Proofs.YtegppkngdkkdcaaGreatDoorW.PrintWords Go.Proofs.YtegppkngdkkdcaaGreatDoorW.PrintLast Go.Proofs.YtegppkngdkkdcaaGreatDoorW.PrintMore
open Go.Proofs.YtegppkngdkkdcaaGreatDoor.Lx Go.Proofs.YtegppkngdkkdcaaGreatDoor.PS
def equalR (x y : V) : Bool := soundR 8 x && soundR 8 y && eqR 8 x y
set_option maxRecDepth 100000 in
set_option maxHeartbeats 1000000 in
theorem Equal_calls (x y : V) (A3 : Option Addr) (c3 : Nat) (A4 : Option Addr) (c4 : Nat) (B3 : Option Addr) (e3 : Nat) (B4 : Option Addr) (e4 : Nat) (w : World) (fx : fitsR 8 x) (fy : fitsR 8 y) (l3 : x.f3.length ≤ c3) (m3 : y.f3.length ≤ e3)
    (l4 : x.f4.length ≤ c4) (m4 : y.f4.length ≤ e4) (g3 : k26.C w A3 x.f3.length x.f3) (g4 : Kd.string.C w A4 x.f4.length x.f4) (k3 : k26.C w B3 y.f3.length y.f3) (k4 : Kd.string.C w B4 y.f4.length y.f4) :
    Calls Tryz.prog 17 #[vArg x A3 c3 A4 c4, vArg y B3 e3 B4 e4] w fun e w' => e = .returned (.bool (equalR x y)) ∧ Below w.heap.size w w' := by
  obtain ⟨r, hr⟩ : ∃ r, r = equalR x y := ⟨_, rfl⟩
  rw [← hr]
  have HR := Aside0.mk hr
  have nv := blkA (blk_new w (.cells #[.int .i64 x.f0, .int .i64 x.f1, .string x.f2, .slice A3 x.f3.length c3, .slice A4 x.f4.length c4] 26 (0, 0))) (.cells #[.int .i64 y.f0, .int .i64 y.f1, .string y.f2, .slice B3 y.f3.length e3, .slice B4 y.f4.length e4] 26 (0, 0))
  have nd := blk_new (w.alloc (.cells #[.int .i64 x.f0, .int .i64 x.f1, .string x.f2, .slice A3 x.f3.length c3, .slice A4 x.f4.length c4] 26 (0, 0))) (.cells #[.int .i64 y.f0, .int .i64 y.f1, .string y.f2, .slice B3 y.f3.length e3, .slice B4 y.f4.length e4] 26 (0, 0))
  rw [show (w.alloc (.cells #[.int .i64 x.f0, .int .i64 x.f1, .string x.f2, .slice A3 x.f3.length c3, .slice A4 x.f4.length c4] 26 (0, 0))).heap.size = w.heap.size + 1 by simp] at nd
  have hB2 : Below w.heap.size w ((w.alloc (.cells #[.int .i64 x.f0, .int .i64 x.f1, .string x.f2, .slice A3 x.f3.length c3, .slice A4 x.f4.length c4] 26 (0, 0))).alloc (.cells #[.int .i64 y.f0, .int .i64 y.f1, .string y.f2, .slice B3 y.f3.length e3, .slice B4 y.f4.length e4] 26 (0, 0))) := ((Below.refl _ _).alloc (Nat.le_refl _) _).alloc (by simp) _
  have HS := Aside0.mk (sound_calls 8 (Nat.le_refl _))
  have HG := Aside0.mk (And.intro g3 (And.intro g4 (And.intro k3 k4)))
  have HF := Aside0.mk (And.intro fx fy)
  unfold vArg at *
  clear hr g3 g4 k3 k4 fx fy
  go_enter Tryz.func17, Tryz.ntmps17
  go_wp2_with fail
  generalize (w.alloc (.cells #[.int .i64 x.f0, .int .i64 x.f1, .string x.f2, .slice A3 x.f3.length c3, .slice A4 x.f4.length c4] 26 (0, 0))).alloc (.cells #[.int .i64 y.f0, .int .i64 y.f1, .string y.f2, .slice B3 y.f3.length e3, .slice B4 y.f4.length e4] 26 (0, 0)) = W2 at *
  have hG2 := And.intro (Kd.C_below HG.out.1 hB2) (Kd.C_below HG.out.2.1 hB2)
  refine (HS.out x A3 c3 A4 c4 W2 HF.out.1 l3 hG2.1 l4 hG2.2).mono ?_
  rintro e w3 ⟨rfl, hb3⟩
  have hv3 := blk_below nv hb3
  have hd3 := blk_below nd hb3
  have hB3 := hB2.trans (hb3.mono hB2.size)
  have x3_0 : w3.cell? ⟨w.heap.size, 0, none⟩ = some (.int .i64 x.f0) := blk_cell hv3 0
  have x3_1 : w3.cell? ⟨w.heap.size, 1, none⟩ = some (.int .i64 x.f1) := blk_cell hv3 1
  have x3_2 : w3.cell? ⟨w.heap.size, 2, none⟩ = some (.string x.f2) := blk_cell hv3 2
  have x3_3 : w3.cell? ⟨w.heap.size, 3, none⟩ = some (.slice A3 x.f3.length c3) := blk_cell hv3 3
  have x3_4 : w3.cell? ⟨w.heap.size, 4, none⟩ = some (.slice A4 x.f4.length c4) := blk_cell hv3 4
  have y3_0 : w3.cell? ⟨w.heap.size + 1, 0, none⟩ = some (.int .i64 y.f0) := blk_cell hd3 0
  have y3_1 : w3.cell? ⟨w.heap.size + 1, 1, none⟩ = some (.int .i64 y.f1) := blk_cell hd3 1
  have y3_2 : w3.cell? ⟨w.heap.size + 1, 2, none⟩ = some (.string y.f2) := blk_cell hd3 2
  have y3_3 : w3.cell? ⟨w.heap.size + 1, 3, none⟩ = some (.slice B3 y.f3.length e3) := blk_cell hd3 3
  have y3_4 : w3.cell? ⟨w.heap.size + 1, 4, none⟩ = some (.slice B4 y.f4.length e4) := blk_cell hd3 4
  have HV3 := Aside0.mk hv3
  have HD3 := Aside0.mk hd3
  have HB3 := Aside0.mk hB3
  clear nv nd hB2 hb3 hv3 hd3 hB3 hG2
  cases hs1 : soundR 8 x with
  | false =>
    have HQ := Aside0.mk (show r = false by rw [HR.out]; simp [equalR, hs1])
    clear hs1
    go_wp2
    go_ret
    exact ⟨by rw [HQ.out]; rfl, HB3.out⟩
  | true =>
    have HS1 := Aside0.mk hs1
    clear hs1
    go_wp2_with fail
    refine (HS.out y B3 e3 B4 e4 w3 HF.out.2 m3 (Kd.C_below HG.out.2.2.1 HB3.out) m4 (Kd.C_below HG.out.2.2.2 HB3.out)).mono ?_
    rintro e w4 ⟨rfl, hb4⟩
    have hv4 := blk_below HV3.out hb4
    have hd4 := blk_below HD3.out hb4
    have HB4 := Aside0.mk (HB3.out.trans (hb4.mono HB3.out.size))
    have x4_0 : w4.cell? ⟨w.heap.size, 0, none⟩ = some (.int .i64 x.f0) := blk_cell hv4 0
    have x4_1 : w4.cell? ⟨w.heap.size, 1, none⟩ = some (.int .i64 x.f1) := blk_cell hv4 1
    have x4_2 : w4.cell? ⟨w.heap.size, 2, none⟩ = some (.string x.f2) := blk_cell hv4 2
    have x4_3 : w4.cell? ⟨w.heap.size, 3, none⟩ = some (.slice A3 x.f3.length c3) := blk_cell hv4 3
    have x4_4 : w4.cell? ⟨w.heap.size, 4, none⟩ = some (.slice A4 x.f4.length c4) := blk_cell hv4 4
    have y4_0 : w4.cell? ⟨w.heap.size + 1, 0, none⟩ = some (.int .i64 y.f0) := blk_cell hd4 0
    have y4_1 : w4.cell? ⟨w.heap.size + 1, 1, none⟩ = some (.int .i64 y.f1) := blk_cell hd4 1
    have y4_2 : w4.cell? ⟨w.heap.size + 1, 2, none⟩ = some (.string y.f2) := blk_cell hd4 2
    have y4_3 : w4.cell? ⟨w.heap.size + 1, 3, none⟩ = some (.slice B3 y.f3.length e3) := blk_cell hd4 3
    have y4_4 : w4.cell? ⟨w.heap.size + 1, 4, none⟩ = some (.slice B4 y.f4.length e4) := blk_cell hd4 4
    clear hb4 hv4 hd4
    cases hs2 : soundR 8 y with
    | false =>
      have HQ := Aside0.mk (show r = false by rw [HR.out]; simp [equalR, hs2])
      clear hs2
      go_wp2
      go_ret
      exact ⟨by rw [HQ.out]; rfl, HB4.out⟩
    | true =>
      have HS2 := Aside0.mk hs2
      clear hs2
      have H := Aside0.mk (equal_calls 8 x y A3 c3 A4 c4 B3 e3 B4 e4 w4 HS1.out HS2.out HF.out.1 HF.out.2 l4 m4 (Kd.C_below HG.out.1 HB4.out) (Kd.C_below HG.out.2.1 HB4.out) (Kd.C_below HG.out.2.2.1 HB4.out) (Kd.C_below HG.out.2.2.2 HB4.out))
      unfold vArg at H
      go_wp2_with fail
      refine H.out.mono ?_
      rintro e w5 ⟨rfl, hb5⟩
      have HB5 := Aside0.mk (HB4.out.trans (hb5.mono HB4.out.size))
      clear hb5
      have HQ := Aside0.mk (show r = eqR 8 x y by rw [HR.out]; simp only [equalR, HS1.out, HS2.out, Bool.true_and])
      generalize eqR 8 x y = q at *
      go_wp2
      go_ret
      exact ⟨by rw [HQ.out]; rfl, HB5.out⟩
end Go.Proofs.YtegppkngdkkdcaaGreatDoor.Tr
end
section
set_option linter.unusedVariables false
set_option linter.unusedSimpArgs false
namespace Go.Proofs.YtegppkngdkkdcaaGreatDoor.Tr
open Go.RowKit Go.Proofs.YtegppkngdkkdcaaGreatDoorW.PrintWords Go.Proofs.YtegppkngdkkdcaaGreatDoorW.PrintLast Go.Proofs.YtegppkngdkkdcaaGreatDoorW.PrintMore
open Go.Proofs.YtegppkngdkkdcaaGreatDoor.Lx Go.Proofs.YtegppkngdkkdcaaGreatDoor.PS
attribute [local go_sem high] fld0 fld1 fld2 fld3
theorem Tokens_all (l : List UInt8) (w : World) (hte : ∀ w1, Below w.heap.size w w1 → TE w1) : Calls Tryz.prog 19 #[.string ⟨l.toArray⟩] w fun e w' => ∃ v, e = .returned (.tuple #[v, .agg #[.int .i64 (tokensR l).2.1, .int .i64 (tokensR l).2.2]]) ∧
    w'.ownsRow w.heap.size 51 4 v (tokensR l).1.length (tksCs (tokensR l).1) ∧ Below w.heap.size w w' := by
  unfold tokensR
  by_cases hl : 65536 < l.length
  · rw [if_pos hl]
    refine (Tokens_long l w hl).mono ?_
    rintro e w' ⟨rfl, hb⟩
    exact ⟨_, rfl, World.ownsRow_nil _ _ _ _, hb⟩
  · rw [if_neg hl]
    refine (Tokens_short l w (by omega) hte).mono ?_
    rintro e w' ⟨hb, h1, h2⟩
    cases hx : toksR l (l.length + 1) 0 [] with
    | inl ts =>
      obtain ⟨v, rfl, ho⟩ := h1 ts hx
      exact ⟨v, rfl, ho, hb⟩
    | inr a =>
      have := h2 a hx
      subst this
      exact ⟨_, rfl, World.ownsRow_nil _ _ _ _, hb⟩
set_option maxRecDepth 100000 in
theorem next_end (ts : List Tk) (len : Nat) (G : Obj) (hG : RowG ts len G) (g b p o : Nat) (w : World) (h : Pz ts len G g b p o w) (hp : p = ts.length) (hl : ts.length ≤ 1000000) :
    Calls Tryz.prog 22 #[.pointer (some ⟨b, 0, none⟩), .int .i64 (tokAt ts len p).kind] w fun e w' => e = .returned (tkV (tokAt ts len p)) ∧ KeepR b w w' := by
  have HG := Aside0.mk hG
  have H := Aside0.mk h
  clear h hG
  go_enter Tryz.func22, Tryz.ntmps22
  go_wp2_with fail
  have hb0 : Below w.heap.size w (w.alloc (.cells #[.int .i64 0, .string ⟨#[]⟩, .int .i64 0, .int .i64 0] 51)) := (Below.refl _ _).alloc (Nat.le_refl _) _
  refine (peek_calls ts len G HG.out g b p o _ (H.out.keep hb0)).mono ?_
  rintro e w1 ⟨rfl, hb1⟩
  have HB1 := Aside0.mk (hb0.trans (hb1.mono (by simp)))
  have hx1 := blk_below (blk_new w (.cells #[.int .i64 0, .string ⟨#[]⟩, .int .i64 0, .int .i64 0] 51)) hb1
  have HX1 := Aside0.mk hx1
  have hsz1 : w.heap.size < w1.heap.size := blk_lt hx1
  obtain ⟨⟨c, hbk, hc⟩, hrow, hle, hne⟩ := H.out.keep HB1.out
  have HBK := Aside0.mk hbk
  have HROW := Aside0.mk hrow
  have c0 : w1.cell? ⟨b, 0, none⟩ = some (.slice (some ⟨g, 4 * p, none⟩) (ts.length + 1 - p) c) := blk_cell hbk 0
  have fb := fun j => blk_frozen hbk j
  have hbl : b < w.heap.size := by
    obtain ⟨⟨c, hbk, _⟩, _⟩ := H.out
    exact blk_lt hbk
  have d0 : w1.cell? ⟨w.heap.size, 0, none⟩ = some (.int .i64 0) := blk_cell hx1 0
  have d1 : w1.cell? ⟨w.heap.size, 1, none⟩ = some (.string ⟨#[]⟩) := blk_cell hx1 1
  have d2 : w1.cell? ⟨w.heap.size, 2, none⟩ = some (.int .i64 0) := blk_cell hx1 2
  have d3 : w1.cell? ⟨w.heap.size, 3, none⟩ = some (.int .i64 0) := blk_cell hx1 3
  have c0' := cellA c0
  have fb' : ∀ o j, (w1.alloc o).frozen? ⟨b, j, none⟩ = false := fun o j => blk_frozen (blkA hbk o) j
  have d0' := cellA d0
  have d1' := cellA d1
  have d2' := cellA d2
  have d3' := cellA d3
  have fd' : ∀ o j, (w1.alloc o).frozen? ⟨w.heap.size, j, none⟩ = false := fun o j => blk_frozen (blkA hx1 o) j
  have hn5 : 1 ≤ ts.length + 1 - p := by omega
  have hpl : ts.length + 1 - p = 1 := by omega
  rw [hpl] at c0 c0'
  have fd := fun j => blk_frozen hx1 j
  have hn1 : b ≠ w.heap.size := by omega
  have hn2 : b ≠ w1.heap.size := by omega
  have hn3 : w.heap.size ≠ w1.heap.size := by omega
  have hn2' : w1.heap.size ≠ b := by omega
  have hn1' : w.heap.size ≠ b := by omega
  have hn3' : w1.heap.size ≠ w.heap.size := by omega
  clear hb0 hb1 hx1 hbk hrow
  unfold tkV
  generalize ht : tokAt ts len p = t at *
  have HT := Aside0.mk ht
  clear ht
  rcases Nat.lt_or_ge 1 c with hc1 | hc1
  · go_wp2
    refine bodyPost_ret (v := .agg #[.int .i64 t.kind, .string ⟨t.text.toArray⟩, .int .i64 t.num, .int .i64 t.pos]) (res_next _ _ w.heap.size _ _ _ _ rfl (blk_set4 (far1 (blkA HX1.out _) hn1' _) _ _ _ _)) rfl ⟨by rw [HT.out]; rfl, ?_⟩
    exact keep4 ((KeepR.of_below (HB1.out.alloc (by omega) _) hbl).set 0 _) hbl (Nat.le_refl _) _ _ _ _
  · obtain rfl : c = 1 := by omega
    go_wp2
    refine bodyPost_ret (v := .agg #[.int .i64 t.kind, .string ⟨t.text.toArray⟩, .int .i64 t.num, .int .i64 t.pos]) (res_next _ _ w.heap.size _ _ _ _ rfl (blk_set4 (far1 (blkA HX1.out _) hn1' _) _ _ _ _)) rfl ⟨by rw [HT.out]; rfl, ?_⟩
    exact keep4 ((KeepR.of_below (HB1.out.alloc (by omega) _) hbl).set 0 _) hbl (Nat.le_refl _) _ _ _ _
theorem catch_idle (p q : Addr) (w : World) :
    CallsD Tryz.prog 20 #[.pointer (some p), .pointer (some q)] .returning w fun e u' w' => e = .returned (.tuple #[]) ∧ u' = .returning ∧ w' = w := by
  refine callsD_of_wpS Tryz.func20 rfl fun c₀ cs hu => ?_
  apply wpS_seq
  apply wpS_region
  simp [wpOpsS, go_sem, recoverD, hu, Tryz.ntmps20, Exit.thenS]
  apply wpS_seq
  apply wpS_region
  simp [wpOpsS, go_sem, Exit.thenS]
  refine wpS_cond (t := false) (by simp [Act.eval, Array.replicate]) ?_
  simp only [Bool.false_eq_true, if_false]
  refine wpS_of_wp (wp_skip ?_)
  cases c₀
  simp_all [bodyPostS, results, Tryz.results20]
end Go.Proofs.YtegppkngdkkdcaaGreatDoor.Tr
end
section
set_option linter.unusedVariables false
set_option linter.unusedSimpArgs false
namespace Go.Proofs.YtegppkngdkkdcaaGreatDoor.Tr
open Go.RowKit Go.Proofs.YtegppkngdkkdcaaGreatDoorW.PrintWords Go.Proofs.YtegppkngdkkdcaaGreatDoorW.PrintLast Go.Proofs.YtegppkngdkkdcaaGreatDoorW.PrintMore
open Go.Proofs.YtegppkngdkkdcaaGreatDoor.Lx Go.Proofs.YtegppkngdkkdcaaGreatDoor.PS
def zeroC : Array Value := #[.int .i64 0, .int .i64 0, .string ⟨#[]⟩, .slice none 0 0, .slice none 0 0]
set_option maxRecDepth 100000 in
set_option maxHeartbeats 400000 in
theorem catch_panicking (p q : Nat) (x0_ x1_ x2 x3 x4 y z : Value) (c a : Nat) (older : List PanicEntry) (w : World) (hpq : p ≠ q) (hp : w.heap[p]? = some (.cells #[x0_, x1_, x2, x3, x4] 26 (0, 0))) (hq : w.heap[q]? = some (.cells #[y, z] 29 (0, 0))) :
    CallsD Tryz.prog 20 #[.pointer (some ⟨p, 0, none⟩), .pointer (some ⟨q, 0, none⟩)] (.panicking ({ v := wrongV c a, recovered := false } :: older)) w fun e u' w' => e = .returned (.tuple #[]) ∧ u' = .panicking ({ v := wrongV c a, recovered := true } :: older) ∧
      w'.heap[p]? = some (.cells zeroC 26 (0, 0)) ∧ w'.heap[q]? = some (.cells #[.int .i64 c, .int .i64 a] 29 (0, 0)) ∧ (∀ B, B ≤ p → B ≤ q → B ≤ w.heap.size → Below B w w') := by
  have hpl := blk_lt hp
  have hql := blk_lt hq
  have hpq' : q ≠ p := fun e => hpq e.symm
  have hpn : p ≠ w.heap.size := by omega
  have hqn : q ≠ w.heap.size := by omega
  have hpn' : w.heap.size ≠ p := by omega
  have hqn' : w.heap.size ≠ q := by omega
  have HP := Aside0.mk hp
  have HQ := Aside0.mk hq
  clear hp hq
  refine callsD_of_wpS Tryz.func20 rfl fun c₀ cs hu => ?_
  apply wpS_seq
  apply wpS_region
  simp [wpOpsS, go_sem, recoverD, hu, Tryz.ntmps20, Exit.thenS]
  refine wpS_of_wp (Code.wp_mono (Q := EndQ fun w' => w'.heap[p]? = some (.cells zeroC 26 (0, 0)) ∧ w'.heap[q]? = some (.cells #[.int .i64 c, .int .i64 a] 29 (0, 0)) ∧ (∀ B, B ≤ p → B ≤ q → B ≤ w.heap.size → Below B w w')) ?_ ?_)
  · rintro e a' w' ⟨rfl, hd, h⟩
    cases c₀
    simp_all [bodyPostS, results, Tryz.results20]
  have e0 : ∀ v : Value, (#[Value.pointer (some ⟨p, 0, none⟩), .pointer (some ⟨q, 0, none⟩)] ++ ((Array.replicate 20 undef).setIfInBounds 3 v).setIfInBounds 0 v : Array Value) = #[.pointer (some ⟨p, 0, none⟩), .pointer (some ⟨q, 0, none⟩), v, undef, undef, v, undef, undef, undef, undef, undef, undef, undef, undef, undef, undef, undef, undef, undef, undef, undef, undef] := fun v => by kernel_rfl
  rw [e0]
  clear e0
  unfold wrongV
  have hta : ∀ W, (Instr.typeAssert (.iface 47 (.agg #[.int .i64 (c : Int), .int .i64 (a : Int)])) 20 47 true).run Tryz.prog W = .ok (.tuple #[.agg #[.int .i64 (c : Int), .int .i64 (a : Int)], .bool true]) W := fun _ => by kernel_rfl
  go_wp2_with fail
  have hx := blk_new w (.cells #[.int .i64 c, .int .i64 a] 47 (0, 0))
  have hp1 := blkA HP.out (.cells #[.int .i64 c, .int .i64 a] 47 (0, 0))
  have hq1 := blkA HQ.out (.cells #[.int .i64 c, .int .i64 a] 47 (0, 0))
  have HBW := Aside0.mk (show ∀ B, B ≤ w.heap.size → Below B w (w.alloc (.cells #[.int .i64 c, .int .i64 a] 47 (0, 0))) from fun B hB => (Below.refl B w).alloc hB _)
  generalize w.alloc (.cells #[.int .i64 c, .int .i64 a] 47 (0, 0)) = W1 at *
  have x0 : W1.drew.cell? ⟨w.heap.size, 0, none⟩ = some (.int .i64 c) := blk_cell (w := W1.drew) hx 0
  have x1 : W1.drew.cell? ⟨w.heap.size, 1, none⟩ = some (.int .i64 a) := blk_cell (w := W1.drew) hx 1
  refine start_ (n := 8) (S := fun w' => w'.cell? ⟨w.heap.size, 0, none⟩ = some (.int .i64 c) ∧ w'.cell? ⟨w.heap.size, 1, none⟩ = some (.int .i64 a)) (ds := [7]) #[fF, fF, fF, fF, fF, fF, fF, fF] (by kernel_rfl) rfl rfl ⟨x0, x1⟩ (fun hHeld => ?_)
  refine pure_ (i := 0) (N := some 16) (v := ?_) (a' := ?_) #[tT, fF, fF, fF, fF, fF, fF, fF] rfl rfl (by kernel_rfl) (fun _ _ _ h => h) (Or.inl ⟨by rfl, ?_⟩) ?_ ?_
  rotate_left
  · intro w'
    go_simp
    with_reducible rfl
  rotate_left
  · simp only [Act.put, sA, sZ, sS, i64_w, i32_w]
    rfl
  refine pure_ (i := 1) (N := some 17) (v := ?_) (a' := ?_) #[tT, tT, fF, fF, fF, fF, fF, fF] rfl rfl (by kernel_rfl) (fun _ _ _ h => h) (Or.inl ⟨by rfl, ?_⟩) ?_ ?_
  rotate_left
  · intro w'
    go_simp
    with_reducible rfl
  rotate_left
  · simp only [Act.put, sA, sZ, sS, i64_w, i32_w]
    rfl
  refine take_ (i := 2) (N := some 18) (v := ?_) (a' := ?_) #[tT, tT, tT, fF, fF, fF, fF, fF] rfl rfl (by kernel_rfl) (fun _ _ _ h => h) (Or.inl ⟨by rfl, ?_⟩) hHeld ?_ ?_
  rotate_left
  · rintro w' ⟨e1, e2⟩
    go_simp
    with_reducible rfl
  rotate_left
  · simp only [Act.put, sA, sZ, sS, i64_w, i32_w]
    rfl
  refine pure_ (i := 3) (N := some 19) (v := ?_) (a' := ?_) #[tT, tT, tT, tT, fF, fF, fF, fF] rfl rfl (by kernel_rfl) (fun _ _ _ h => h) (Or.inl ⟨by rfl, ?_⟩) ?_ ?_
  rotate_left
  · intro w'
    go_simp
    with_reducible rfl
  rotate_left
  · simp only [Act.put, sA, sZ, sS, i64_w, i32_w]
    rfl
  refine take_ (i := 4) (N := some 20) (v := ?_) (a' := ?_) #[tT, tT, tT, tT, tT, fF, fF, fF] rfl rfl (by kernel_rfl) (fun _ _ _ h => h) (Or.inl ⟨by rfl, ?_⟩) hHeld ?_ ?_
  rotate_left
  · rintro w' ⟨e1, e2⟩
    go_simp
    with_reducible rfl
  rotate_left
  · simp only [Act.put, sA, sZ, sS, i64_w, i32_w]
    rfl
  refine pure_ (i := 5) (N := some 21) (v := ?_) (a' := ?_) #[tT, tT, tT, tT, tT, tT, fF, fF] rfl rfl (by kernel_rfl) (fun _ _ _ h => h) (Or.inl ⟨by rfl, ?_⟩) ?_ ?_
  rotate_left
  · intro w'
    go_simp
    with_reducible rfl
  rotate_left
  · simp only [Act.put, sA, sZ, sS, i64_w, i32_w]
    rfl
  have pc0 : W1.cell? ⟨p, 0, none⟩ = some x0_ := blk_cell hp1 0
  have pc1 : W1.cell? ⟨p, 1, none⟩ = some x1_ := blk_cell hp1 1
  have pc2 : W1.cell? ⟨p, 2, none⟩ = some x2 := blk_cell hp1 2
  have pc3 : W1.cell? ⟨p, 3, none⟩ = some x3 := blk_cell hp1 3
  have pc4 : W1.cell? ⟨p, 4, none⟩ = some x4 := blk_cell hp1 4
  have pf : ∀ j, W1.frozen? ⟨p, j, none⟩ = false := blk_frozen hp1
  have qc0 : W1.cell? ⟨q, 0, none⟩ = some y := blk_cell hq1 0
  have qc1 : W1.cell? ⟨q, 1, none⟩ = some z := blk_cell hq1 1
  have qf : ∀ j, W1.frozen? ⟨q, j, none⟩ = false := blk_frozen hq1
  have w0 : W1.cell? ⟨w.heap.size, 0, none⟩ = some (.int .i64 c) := blk_cell hx 0
  have w1 : W1.cell? ⟨w.heap.size, 1, none⟩ = some (.int .i64 a) := blk_cell hx 1
  refine one_ (i := 6) (N := none) #[tT, tT, tT, tT, tT, tT, tT, fF] rfl rfl (by kernel_rfl) (by decide) (fun K hK => ?_)
  rw [if_pos (by rfl)]
  unfold Oper.wp
  go_simp
  refine hK.out _ _ ⟨by go_simp, by go_simp⟩ fun hHeld => ?_
  clear hK K
  refine last_ (i := 7) (N := none) #[tT, tT, tT, tT, tT, tT, tT, tT] rfl rfl (by kernel_rfl) (by decide) (fun K hK => ?_)
  rw [if_pos (by rfl)]
  unfold Oper.wp
  go_simp
  refine hK.out _ _ ?_
  clear hK K
  refine done_ (by kernel_rfl) ?_
  go_wp2
  have hs1 : w.heap.size ≤ W1.heap.size := (HBW.out 0 (Nat.zero_le _)).size
  have h5 := blk_set5 hp1 (.int .i64 0) (.int .i64 0) (.string ⟨#[]⟩) (.slice none 0 0) (.slice none 0 0)
  have hq5 := far5 hq1 hpq' (.int .i64 0) (.int .i64 0) (.string ⟨#[]⟩) (.slice none 0 0) (.slice none 0 0)
  have g1 := far1 (j := 1) (far1 (j := 0) h5 hpq (.int .i64 c)) hpq (.int .i64 a)
  have g2 := blk_put (blk_put hq5 0 (.int .i64 c) rfl) 1 (.int .i64 a) rfl
  have g3 : ∀ B, B ≤ p → B ≤ q → B ≤ w.heap.size → Below B w _ := fun B hB1 hB2 hB3 => ((below5 (HBW.out B hB3) hB1 (.int .i64 0) (.int .i64 0) (.string ⟨#[]⟩) (.slice none 0 0) (.slice none 0 0)).setCell (p := ⟨q, 0, none⟩) hB2 (.int .i64 c)).setCell (p := ⟨q, 1, none⟩) hB2 (.int .i64 a)
  generalize (((((((W1.setCell ⟨p, 0, none⟩ (.int .i64 0)).setCell ⟨p, 1, none⟩ (.int .i64 0)).setCell ⟨p, 2, none⟩ (.string ⟨#[]⟩)).setCell ⟨p, 3, none⟩ (.slice none 0 0)).setCell ⟨p, 4, none⟩ (.slice none 0 0)).setCell ⟨q, 0, none⟩ (.int .i64 c)).setCell ⟨q, 1, none⟩ (.int .i64 a)) = W9 at *
  refine ⟨rfl, rfl, g1, g2, fun B hB1 hB2 hB3 => ?_⟩
  obtain ⟨k1, k2, k3, k4, k5⟩ := g3 B hB1 hB2 hB3
  exact ⟨k1, k2, k3, k4, k5⟩
end Go.Proofs.YtegppkngdkkdcaaGreatDoor.Tr
end
section
set_option linter.unusedVariables false
set_option linter.unusedSimpArgs false
namespace Go.Proofs.YtegppkngdkkdcaaGreatDoor.Tr
open Go.RowKit Go.Proofs.YtegppkngdkkdcaaGreatDoorW.PrintWords Go.Proofs.YtegppkngdkkdcaaGreatDoorW.PrintLast Go.Proofs.YtegppkngdkkdcaaGreatDoorW.PrintMore
open Go.Proofs.YtegppkngdkkdcaaGreatDoor.Lx Go.Proofs.YtegppkngdkkdcaaGreatDoor.PS
attribute [local go_sem high] fld0 fld1 fld2 fld3
def ParQ (X : V × Nat × Nat) (w : World) (e : Ending) (w' : World) : Prop := Below w.heap.size w w' ∧ ∃ v3 v4, e = .returned (.tuple #[.agg #[.int .i64 X.1.f0, .int .i64 X.1.f1, .string X.1.f2, v3, v4], .agg #[.int .i64 X.2.1, .int .i64 X.2.2]]) ∧
  k26.R 26 w' w.heap.size (fun _ => True) v3 X.1.f3 ∧ Kd.string.R 9 w' w.heap.size (fun _ => True) v4 X.1.f4
theorem results_Parse (tmps : Array Value) (w : World) (p q : Nat) (x0 x1 x2 x3 x4 y z : Value) (h2 : tmps.getD 2 undef = .pointer (some ⟨p, 0, none⟩)) (h3 : tmps.getD 3 undef = .pointer (some ⟨q, 0, none⟩))
    (hp : w.heap[p]? = some (.cells #[x0, x1, x2, x3, x4] 26 (0, 0))) (hq : w.heap[q]? = some (.cells #[y, z] 29 (0, 0))) : (results Tryz.f8 tmps).run Tryz.prog w = .ok (.tuple #[.agg #[x0, x1, x2, x3, x4], .agg #[y, z]]) w := by
  have c0 := blk_cell hp 0
  have c1 := blk_cell hp 1
  have c2 := blk_cell hp 2
  have c3 := blk_cell hp 3
  have c4 := blk_cell hp 4
  have d0 := blk_cell hq 0
  have d1 := blk_cell hq 1
  rw [Array.getD_eq_getD_getElem?] at h2 h3
  simp [results, Tryz.results8, h2, h3, c0, c1, c2, c3, c4, d0, d1, go_sem]
theorem results_put (tmps : Array Value) (i : Nat) (v : Value) (h : 4 ≤ i) : results Tryz.f8 (tmps.setIfInBounds i v) = results Tryz.f8 tmps := by
  simp [results, Tryz.results8, Array.getElem?_setIfInBounds_ne (show i ≠ 2 by omega), Array.getElem?_setIfInBounds_ne (show i ≠ 3 by omega)]
theorem leaves_put (R : Ending → World → Prop) (tmps : Array Value) (i : Nat) (v : Value) (h : 4 ≤ i) : ∀ (ds : List Deferred) (u : FrameMode) (w : World),
    Leaves Tryz.prog Tryz.f8 (tmps.setIfInBounds i v) R ds u w → Leaves Tryz.prog Tryz.f8 tmps R ds u w
  | [], u, w, hl => by
    cases u with
    | run => exact hl
    | returning =>
      obtain ⟨x, hx, hr⟩ := hl
      rw [results_put tmps i v h] at hx
      exact ⟨x, hx, hr⟩
    | panicking c => exact hl
  | d :: ds, u, w, hl => by
    obtain ⟨h1, fv, cap, f, args, h2, h3, h4⟩ := hl
    refine ⟨h1, fv, cap, f, args, h2, h3, h4.mono fun e u' w' hh => ?_⟩
    cases e with
    | returned x => exact leaves_put R tmps i v h ds _ _ hh
    | panicked c => exact leaves_put R tmps i v h ds _ _ hh
    | outgrown => exact hh
theorem toksR_len (l : List UInt8) : ∀ (f a : Nat) (acc ts : List Tk), a ≤ l.length → acc.length ≤ a → toksR l f a acc = .inl ts → ts.length ≤ l.length
  | 0, a, acc, ts, ha, hl, h => by
    simp only [toksR] at h
    cases h
  | f + 1, a, acc, ts, ha, hl, h => by
    have hla : a + ((l.drop a).takeWhile isBlank).length ≤ l.length := takeWhile_len isBlank l a ha
    rw [show toksR l (f + 1) a acc = if a + ((l.drop a).takeWhile isBlank).length = l.length then .inl acc else
      match nextR l (a + ((l.drop a).takeWhile isBlank).length) with
      | none => .inr (a + ((l.drop a).takeWhile isBlank).length)
      | some (t, a2) => toksR l f a2 (acc ++ [t]) from rfl] at h
    split at h
    · cases h
      omega
    · cases hx : nextR l (a + ((l.drop a).takeWhile isBlank).length) with
      | none => rw [hx] at h; cases h
      | some q =>
        obtain ⟨t, a2⟩ := q
        rw [hx] at h
        have := nextR_step hx
        exact toksR_len l f a2 (acc ++ [t]) ts this.2 (by simp; omega) h
theorem tokens_len {l : List UInt8} {ts : List Tk} {c a : Nat} (h : tokensR l = (ts, c, a)) : ts.length ≤ 1000000 := by
  unfold tokensR at h
  split at h
  · cases h
    simp
  · split at h
    · rename_i h2
      cases h
      have := toksR_len l _ 0 [] _ (Nat.zero_le _) (by simp) h2
      omega
    · cases h
      simp
theorem parseR_bad {l : List UInt8} {ts : List Tk} {c a : Nat} (h : tokensR l = (ts, c, a)) (hc : c ≠ 0) : parseR l = (zV, c, a) := by
  unfold parseR
  rw [h]
  cases c with
  | zero => exact absurd rfl hc
  | succ c => rfl
set_option maxRecDepth 100000 in
set_option maxHeartbeats 1000000 in
theorem Parse_calls (l : List UInt8) (w : World) (hte : ∀ w1, Below w.heap.size w w1 → TE w1) :
    Calls Tryz.prog 8 #[.string ⟨l.toArray⟩] w (ParQ (parseR l) w) := by
  have hmf : ∀ (fn : Fn) (first cap : Array Value) (w : World), (Instr.makeFunc fn first cap).run Tryz.prog w = .ok (.func fn first cap) w := fun _ _ _ _ => rfl
  have HTE := Aside0.mk hte
  clear hte
  have s1 : (w.alloc (.cells #[.int .i64 0, .int .i64 0, .string ⟨#[]⟩, .slice none 0 0, .slice none 0 0] 26 (0, 0))).heap.size = w.heap.size + 1 := by simp
  have nr := blkA (blk_new w (.cells #[.int .i64 0, .int .i64 0, .string ⟨#[]⟩, .slice none 0 0, .slice none 0 0] 26 (0, 0))) (.cells #[.int .i64 0, .int .i64 0] 29 (0, 0))
  have nf := blk_new (w.alloc (.cells #[.int .i64 0, .int .i64 0, .string ⟨#[]⟩, .slice none 0 0, .slice none 0 0] 26 (0, 0))) (.cells #[.int .i64 0, .int .i64 0] 29 (0, 0))
  rw [s1] at nf
  have hs2 : ((w.alloc (.cells #[.int .i64 0, .int .i64 0, .string ⟨#[]⟩, .slice none 0 0, .slice none 0 0] 26 (0, 0))).alloc (.cells #[.int .i64 0, .int .i64 0] 29 (0, 0))).heap.size = w.heap.size + 2 := by simp
  have hB2 : Below w.heap.size w ((w.alloc (.cells #[.int .i64 0, .int .i64 0, .string ⟨#[]⟩, .slice none 0 0, .slice none 0 0] 26 (0, 0))).alloc (.cells #[.int .i64 0, .int .i64 0] 29 (0, 0))) := ((Below.refl _ _).alloc (Nat.le_refl _) _).alloc (by simp) _
  go_enter_defers Tryz.func8, Tryz.ntmps8
  go_wp2_with fail
  generalize (w.alloc (.cells #[.int .i64 0, .int .i64 0, .string ⟨#[]⟩, .slice none 0 0, .slice none 0 0] 26 (0, 0))).alloc (.cells #[.int .i64 0, .int .i64 0] 29 (0, 0)) = W2 at *
  refine (Tokens_all l W2 (fun w1 h1 => HTE.out w1 (hB2.trans (h1.mono (by omega))))).mono ?_
  rintro e w3 ⟨vt, rfl, hot, hb3⟩
  have HX := Aside0.mk (show parseR l = _ from rfl)
  have hr3 := blk_below nr hb3
  have hf3 := blk_below nf hb3
  have hs3 := hb3.size
  have HB3 := Aside0.mk (hB2.trans (hb3.mono (by omega)))
  have HOT := Aside0.mk (own_weaken hot (base' := w.heap.size + 2) (by omega))
  have HR3 := Aside0.mk hr3
  have HF3 := Aside0.mk hf3
  have r0 : w3.cell? ⟨w.heap.size, 0, none⟩ = some (.int .i64 0) := blk_cell hr3 0
  have r1 : w3.cell? ⟨w.heap.size, 1, none⟩ = some (.int .i64 0) := blk_cell hr3 1
  have r2 : w3.cell? ⟨w.heap.size, 2, none⟩ = some (.string ⟨#[]⟩) := blk_cell hr3 2
  have r3 : w3.cell? ⟨w.heap.size, 3, none⟩ = some (.slice none 0 0) := blk_cell hr3 3
  have r4 : w3.cell? ⟨w.heap.size, 4, none⟩ = some (.slice none 0 0) := blk_cell hr3 4
  have rf : ∀ j, w3.frozen? ⟨w.heap.size, j, none⟩ = false := blk_frozen hr3
  have f0 : w3.cell? ⟨w.heap.size + 1, 0, none⟩ = some (.int .i64 0) := blk_cell hf3 0
  have f1 : w3.cell? ⟨w.heap.size + 1, 1, none⟩ = some (.int .i64 0) := blk_cell hf3 1
  have ff : ∀ j, w3.frozen? ⟨w.heap.size + 1, j, none⟩ = false := blk_frozen hf3
  clear nr nf hB2 hb3 hot hr3 hf3 s1
  unfold parseR
  generalize hT : tokensR l = T at *
  obtain ⟨ts, c, a⟩ := T
  simp only
  by_cases hc : c = 0
  · subst hc
    have HTL := Aside0.mk (show ts.length ≤ 1000000 from tokens_len hT)
    have HT := Aside0.mk hT
    clear hT
    obtain ⟨At, ct, rfl⟩ := own_slice HOT.out
    try simp only at *
    have hrf : w.heap.size ≠ w.heap.size + 1 := by omega
    have hr5 := (far_set (w3.setCell ⟨w.heap.size + 1, 0, none⟩ (.int .i64 0)) (w.heap.size + 1) 1 (.int .i64 a) _ hrf).trans ((far_set w3 (w.heap.size + 1) 0 (.int .i64 0) _ hrf).trans HR3.out)
    have hf5 := blk_put (blk_put HF3.out 0 (.int .i64 0) rfl) 1 (.int .i64 a) rfl
    have ho5 := own_move HOT.out (w1 := (w3.setCell ⟨w.heap.size + 1, 0, none⟩ (.int .i64 0)).setCell ⟨w.heap.size + 1, 1, none⟩ (.int .i64 a)) fun k hk => (far_set _ _ _ _ _ (by have := own_base HOT.out k hk; omega)).trans (far_set _ _ _ _ _ (by have := own_base HOT.out k hk; omega))
    have hb5 := (HB3.out.setCell (p := ⟨w.heap.size + 1, 0, none⟩) (by simp) (.int .i64 0)).setCell (p := ⟨w.heap.size + 1, 1, none⟩) (by simp) (.int .i64 a)
    have hs5 : ((w3.setCell ⟨w.heap.size + 1, 0, none⟩ (.int .i64 0)).setCell ⟨w.heap.size + 1, 1, none⟩ (.int .i64 a)).heap.size = w3.heap.size := by simp [World.setCell]
    have HR5 := Aside0.mk hr5
    have HF5 := Aside0.mk hf5
    have HO5 := Aside0.mk ho5
    have HB5 := Aside0.mk hb5
    have HS5 := Aside0.mk hs5
    clear hr5 hf5 ho5 hb5 hs5
    go_wp2_with (first | (with_reducible refine gate_builtin (b := .append) (xs := #[.tmp 17, .tmp 21]) rfl ?_); at_builtin; refine print_append_cells (w0 := (w3.setCell ⟨w.heap.size + 1, 0, none⟩ (.int .i64 0)).setCell ⟨w.heap.size + 1, 1, none⟩ (.int .i64 a)) (w.heap.size + 2) rfl (.tmp 17) (.tmp 21) 43 51 (.agg #[(.int .i64 0), (.string ⟨#[]⟩), (.int .i64 0), (.int .i64 0)]) 4 40 rfl Tryz.underlying43 infoTok rfl (by decide) (by decide) (.slice At ts.length ct) ts.length (tksCs ts) (tkCs ⟨0, [], 0, l.length⟩) rfl (by first | (go_simp; done) | (go_simp; rfl)) rfl (by simp [tkCs, Value.oneCell']) HO5.out (Below.refl _ _) (by rw [HS5.out]; omega) (by have := HTL.out; omega) ?_; intro v1 w6 ho6 hb6 hg6 hat6; obtain ⟨g, c9, G, rfl, hgb, hG6, hRG, hc9⟩ := rowG_of ho6; have HG6 := Aside0.mk hG6; have HRG := Aside0.mk hRG; have HGR := Aside0.mk hg6; have HB6 := Aside0.mk hb6; clear ho6 hat6 hG6 hRG hg6 hb6)
    have h6s := HGR.out.size
    have hs5 := HS5.out
    have hgl : g < w6.heap.size := blk_lt HG6.out
    have hlt : ∀ k, k < w.heap.size + 2 → w6.heap[k]? = ((w3.setCell ⟨w.heap.size + 1, 0, none⟩ (.int .i64 0)).setCell ⟨w.heap.size + 1, 1, none⟩ (.int .i64 a)).heap[k]? := fun k hk => HGR.out.block k (by omega) (fun e => by have := own_base HO5.out k e.symm; omega)
    have hB6 : Below w.heap.size w w6 := ⟨HGR.out.os.trans HB5.out.os, HGR.out.tape.trans HB5.out.tape, HGR.out.output.trans HB5.out.output, Nat.le_trans HB5.out.size h6s, fun k hk => (hlt k (by omega)).trans (HB5.out.block k hk)⟩
    have hw6 : w.heap.size + 2 ≤ w6.heap.size := by omega
    have hba := (Below.refl w6.heap.size w6).alloc (Nat.le_refl _) (.cells #[.slice (some ⟨g, 0, none⟩) (ts.length + 1) c9, .int .i64 0] 53 (0, 0))
    have hs7 : (w6.alloc (.cells #[.slice (some ⟨g, 0, none⟩) (ts.length + 1) c9, .int .i64 0] 53 (0, 0))).heap.size = w6.heap.size + 1 := by simp
    have hr7 := blkA ((hlt w.heap.size (by omega)).trans HR5.out) (.cells #[.slice (some ⟨g, 0, none⟩) (ts.length + 1) c9, .int .i64 0] 53 (0, 0))
    have hf7 := blkA ((hlt (w.heap.size + 1) (by omega)).trans HF5.out) (.cells #[.slice (some ⟨g, 0, none⟩) (ts.length + 1) c9, .int .i64 0] 53 (0, 0))
    have hpz : Pz ts l.length G g w6.heap.size 0 0 (w6.alloc (.cells #[.slice (some ⟨g, 0, none⟩) (ts.length + 1) c9, .int .i64 0] 53 (0, 0))) := ⟨⟨c9, blk_new w6 _, by omega⟩, blkA HG6.out _, Nat.zero_le _, by omega⟩
    have HB7 := Aside0.mk (hB6.trans (hba.mono hB6.size))
    generalize w6.alloc (.cells #[.slice (some ⟨g, 0, none⟩) (ts.length + 1) c9, .int .i64 0] 53 (0, 0)) = W7 at *
    obtain ⟨r, hr⟩ := (fuel_all ts l.length (2 * ts.length + 2)).1 0 0 (by omega)
    refine (value_all ts l.length G HRG.out HTL.out (2 * ts.length + 2) g w6.heap.size 0 0 r W7 (by omega) hr hpz).mono ?_
    rintro e w8 ⟨hk8, h8⟩
    have hr8 := (hk8.2.2 w.heap.size (by omega) (by omega)).trans hr7
    have hf8 := (hk8.2.2 (w.heap.size + 1) (by omega) (by omega)).trans hf7
    have hs8 := hk8.2.1
    have hB8 : Below w.heap.size w w8 := HB7.out.trans (hk8.1.mono (by omega))
    cases r with
    | bad c a =>
      obtain rfl := h8
      have HP := Aside0.mk (show parseR l = (zV, c, a) by unfold parseR; rw [HT.out]; simp only [hr])
      show Leaves _ _ _ _ [_] _ _
      refine leaves_cons (f := 20) (args := #[.pointer (some ⟨w.heap.size, 0, none⟩), .pointer (some ⟨w.heap.size + 1, 0, none⟩)]) (by simp) (by simp [go_sem]) ?_
      refine (catch_panicking w.heap.size (w.heap.size + 1) _ _ _ _ _ _ _ c a [] w8 (by omega) hr8 hf8).mono ?_
      rintro e u' w9 ⟨rfl, rfl, h1, h2, h3⟩
      refine ⟨.tuple #[.agg zeroC, .agg #[.int .i64 (c : Nat), .int .i64 (a : Nat)]], results_Parse _ _ w.heap.size (w.heap.size + 1) _ _ _ _ _ _ _ rfl rfl h1 h2, ?_⟩
      rw [HP.out]
      exact ⟨hB8.trans (h3 _ (Nat.le_refl _) (by omega) (by omega)), _, _, rfl, Kd.R_nil _ _ _ _ _, Kd.R_nil _ _ _ _ _⟩
    | ok v p =>
      obtain ⟨⟨v3, v4, rfl, h3, h4⟩, hz8⟩ := h8
      obtain ⟨A3, c3, rfl⟩ := Kd.R_slice h3
      obtain ⟨A4, c4, rfl⟩ := Kd.R_slice h4
      have HR8 := Aside0.mk hr8
      have HF8 := Aside0.mk hf8
      have HB8 := Aside0.mk hB8
      have HZ8 := Aside0.mk hz8
      have H3 := Aside0.mk h3
      have H4 := Aside0.mk h4
      have HV := Aside0.mk hr
      have q0 : w8.cell? ⟨w.heap.size, 0, none⟩ = some (.int .i64 0) := blk_cell hr8 0
      have q1 : w8.cell? ⟨w.heap.size, 1, none⟩ = some (.int .i64 0) := blk_cell hr8 1
      have q2 : w8.cell? ⟨w.heap.size, 2, none⟩ = some (.string ⟨#[]⟩) := blk_cell hr8 2
      have q3 : w8.cell? ⟨w.heap.size, 3, none⟩ = some (.slice none 0 0) := blk_cell hr8 3
      have q4 : w8.cell? ⟨w.heap.size, 4, none⟩ = some (.slice none 0 0) := blk_cell hr8 4
      have qf : ∀ j, w8.frozen? ⟨w.heap.size, j, none⟩ = false := blk_frozen hr8
      clear hr8 hf8 hB8 hz8 h3 h4 hr hk8 hpz hr7 hf7 hba hB6 hlt r0 r1 r2 r3 r4 rf f0 f1 ff
      go_wp2_with fail
      have hr9 := blk_set5 HR8.out (.int .i64 v.f0) (.int .i64 v.f1) (.string v.f2) (.slice A3 v.f3.length c3) (.slice A4 v.f4.length c4)
      have hf9 := far5 HF8.out (show w.heap.size + 1 ≠ w.heap.size by omega) (.int .i64 v.f0) (.int .i64 v.f1) (.string v.f2) (.slice A3 v.f3.length c3) (.slice A4 v.f4.length c4)
      have hB9 := below5 HB8.out (Nat.le_refl w.heap.size) (.int .i64 v.f0) (.int .i64 v.f1) (.string v.f2) (.slice A3 v.f3.length c3) (.slice A4 v.f4.length c4)
      have hz9 : Pz ts l.length G g w6.heap.size p 0 (((((w8.setCell ⟨w.heap.size, 0, none⟩ (.int .i64 v.f0)).setCell ⟨w.heap.size, 1, none⟩ (.int .i64 v.f1)).setCell ⟨w.heap.size, 2, none⟩ (.string v.f2)).setCell ⟨w.heap.size, 3, none⟩ (.slice A3 v.f3.length c3)).setCell ⟨w.heap.size, 4, none⟩ (.slice A4 v.f4.length c4)) := HZ8.out.move (far5' (by omega) _ _ _ _ _) (far5' (by omega) _ _ _ _ _)
      have h39 := Kd.R_mono (Kd.R_step (Kd.R_bound H3.out) (w1 := ((((w8.setCell ⟨w.heap.size, 0, none⟩ (.int .i64 v.f0)).setCell ⟨w.heap.size, 1, none⟩ (.int .i64 v.f1)).setCell ⟨w.heap.size, 2, none⟩ (.string v.f2)).setCell ⟨w.heap.size, 3, none⟩ (.slice A3 v.f3.length c3)).setCell ⟨w.heap.size, 4, none⟩ (.slice A4 v.f4.length c4)) fun k hk1 _ => far5' (by have := hk1.2.1; omega) _ _ _ _ _) (ok' := fun k => W7.heap.size ≤ k) (fun k hk => hk.2.1)
      have h49 := Kd.R_mono (Kd.R_step (Kd.R_bound H4.out) (w1 := ((((w8.setCell ⟨w.heap.size, 0, none⟩ (.int .i64 v.f0)).setCell ⟨w.heap.size, 1, none⟩ (.int .i64 v.f1)).setCell ⟨w.heap.size, 2, none⟩ (.string v.f2)).setCell ⟨w.heap.size, 3, none⟩ (.slice A3 v.f3.length c3)).setCell ⟨w.heap.size, 4, none⟩ (.slice A4 v.f4.length c4)) fun k hk1 _ => far5' (by have := hk1.2.1; omega) _ _ _ _ _) (ok' := fun k => W7.heap.size ≤ k) (fun k hk => hk.2.1)
      have hs9 : (((((w8.setCell ⟨w.heap.size, 0, none⟩ (.int .i64 v.f0)).setCell ⟨w.heap.size, 1, none⟩ (.int .i64 v.f1)).setCell ⟨w.heap.size, 2, none⟩ (.string v.f2)).setCell ⟨w.heap.size, 3, none⟩ (.slice A3 v.f3.length c3)).setCell ⟨w.heap.size, 4, none⟩ (.slice A4 v.f4.length c4)).heap.size = w8.heap.size := by simp [World.setCell]
      generalize ((((w8.setCell ⟨w.heap.size, 0, none⟩ (.int .i64 v.f0)).setCell ⟨w.heap.size, 1, none⟩ (.int .i64 v.f1)).setCell ⟨w.heap.size, 2, none⟩ (.string v.f2)).setCell ⟨w.heap.size, 3, none⟩ (.slice A3 v.f3.length c3)).setCell ⟨w.heap.size, 4, none⟩ (.slice A4 v.f4.length c4) = W9 at *
      have hrf : w.heap.size ≠ w6.heap.size := by omega
      by_cases h0 : (tokAt ts l.length p).kind = 0
      · have hN : Calls Tryz.prog 22 #[.pointer (some ⟨w6.heap.size, 0, none⟩), .int .i64 0] W9 fun e w' => e = .returned (tkV (tokAt ts l.length p)) ∧ KeepR w6.heap.size W9 w' := by
          rcases Nat.lt_or_ge p ts.length with hpl | hpl
          · have hN := next_ok ts l.length G HRG.out g w6.heap.size p 0 W9 hz9 hpl HTL.out
            rw [h0] at hN
            exact hN.mono fun e w' h => ⟨h.1, h.2.2⟩
          · have hN := next_end ts l.length G HRG.out g w6.heap.size p 0 W9 hz9 (by have := hz9.le; omega) HTL.out
            rw [h0] at hN
            exact hN
        refine hN.mono ?_
        clear hN
        rintro e w10 ⟨rfl, hk10⟩
        have hr10 := (hk10.2.2 w.heap.size (by omega) (by omega)).trans hr9
        have hf10 := (hk10.2.2 (w.heap.size + 1) (by omega) (by omega)).trans hf9
        have hs10 := hk10.2.1
        have HB10 := Aside0.mk (hB9.trans (hk10.1.mono (by omega)))
        have H310 := Aside0.mk (Kd.R_step h39 fun k hk hk2 => hk10.2.2 k hk2 (by omega))
        have H410 := Aside0.mk (Kd.R_step h49 fun k hk hk2 => hk10.2.2 k hk2 (by omega))
        have HR10 := Aside0.mk hr10
        have HF10 := Aside0.mk hf10
        have HP := Aside0.mk (show parseR l = (v, 0, 0) by unfold parseR; rw [HT.out]; simp only [HV.out]; rw [if_pos h0])
        have t0 : w10.cell? ⟨w.heap.size, 0, none⟩ = some (.int .i64 v.f0) := blk_cell hr10 0
        have t1 : w10.cell? ⟨w.heap.size, 1, none⟩ = some (.int .i64 v.f1) := blk_cell hr10 1
        have t2 : w10.cell? ⟨w.heap.size, 2, none⟩ = some (.string v.f2) := blk_cell hr10 2
        have t3 : w10.cell? ⟨w.heap.size, 3, none⟩ = some (.slice A3 v.f3.length c3) := blk_cell hr10 3
        have t4 : w10.cell? ⟨w.heap.size, 4, none⟩ = some (.slice A4 v.f4.length c4) := blk_cell hr10 4
        have tf : ∀ j, w10.frozen? ⟨w.heap.size, j, none⟩ = false := blk_frozen hr10
        have u0 : w10.cell? ⟨w.heap.size + 1, 0, none⟩ = some (.int .i64 0) := blk_cell hf10 0
        have u1 : w10.cell? ⟨w.heap.size + 1, 1, none⟩ = some (.int .i64 a) := blk_cell hf10 1
        have uf : ∀ j, w10.frozen? ⟨w.heap.size + 1, j, none⟩ = false := blk_frozen hf10
        clear hr9 hf9 hB9 hz9 h39 h49 hk10 hr10 hf10 q0 q1 q2 q3 q4 qf
        unfold tkV
        go_wp2_with fail
        have g1 := blk_set5 HR10.out (.int .i64 v.f0) (.int .i64 v.f1) (.string v.f2) (.slice A3 v.f3.length c3) (.slice A4 v.f4.length c4)
        have g2 := far5 HF10.out (show w.heap.size + 1 ≠ w.heap.size by omega) (.int .i64 v.f0) (.int .i64 v.f1) (.string v.f2) (.slice A3 v.f3.length c3) (.slice A4 v.f4.length c4)
        have g3 := below5 HB10.out (Nat.le_refl w.heap.size) (.int .i64 v.f0) (.int .i64 v.f1) (.string v.f2) (.slice A3 v.f3.length c3) (.slice A4 v.f4.length c4)
        have g4 := Kd.R_step H310.out (w1 := ((((w10.setCell ⟨w.heap.size, 0, none⟩ (.int .i64 v.f0)).setCell ⟨w.heap.size, 1, none⟩ (.int .i64 v.f1)).setCell ⟨w.heap.size, 2, none⟩ (.string v.f2)).setCell ⟨w.heap.size, 3, none⟩ (.slice A3 v.f3.length c3)).setCell ⟨w.heap.size, 4, none⟩ (.slice A4 v.f4.length c4)) fun k hk _ => far5' (by omega) _ _ _ _ _
        have g5 := Kd.R_step H410.out (w1 := ((((w10.setCell ⟨w.heap.size, 0, none⟩ (.int .i64 v.f0)).setCell ⟨w.heap.size, 1, none⟩ (.int .i64 v.f1)).setCell ⟨w.heap.size, 2, none⟩ (.string v.f2)).setCell ⟨w.heap.size, 3, none⟩ (.slice A3 v.f3.length c3)).setCell ⟨w.heap.size, 4, none⟩ (.slice A4 v.f4.length c4)) fun k hk _ => far5' (by omega) _ _ _ _ _
        clear t0 t1 t2 t3 t4 tf u0 u1 uf
        generalize ((((w10.setCell ⟨w.heap.size, 0, none⟩ (.int .i64 v.f0)).setCell ⟨w.heap.size, 1, none⟩ (.int .i64 v.f1)).setCell ⟨w.heap.size, 2, none⟩ (.string v.f2)).setCell ⟨w.heap.size, 3, none⟩ (.slice A3 v.f3.length c3)).setCell ⟨w.heap.size, 4, none⟩ (.slice A4 v.f4.length c4) = W11 at *
        have hrr : w.heap.size ≠ w.heap.size + 1 := by omega
        have k1 := far1 (j := 1) (far1 (j := 0) g1 hrr (.int .i64 0)) hrr (.int .i64 0)
        have k2 := blk_put (blk_put g2 0 (.int .i64 0) rfl) 1 (.int .i64 0) rfl
        have k3 := (g3.setCell (p := ⟨w.heap.size + 1, 0, none⟩) (by simp) (.int .i64 0)).setCell (p := ⟨w.heap.size + 1, 1, none⟩) (by simp) (.int .i64 0)
        have k4 := Kd.R_step g4 (w1 := (W11.setCell ⟨w.heap.size + 1, 0, none⟩ (.int .i64 0)).setCell ⟨w.heap.size + 1, 1, none⟩ (.int .i64 0)) fun k hk _ => (far_set _ _ _ _ _ (by omega)).trans (far_set _ _ _ _ _ (by omega))
        have k5 := Kd.R_step g5 (w1 := (W11.setCell ⟨w.heap.size + 1, 0, none⟩ (.int .i64 0)).setCell ⟨w.heap.size + 1, 1, none⟩ (.int .i64 0)) fun k hk _ => (far_set _ _ _ _ _ (by omega)).trans (far_set _ _ _ _ _ (by omega))
        clear g1 g2 g3 g4 g5
        generalize (W11.setCell ⟨w.heap.size + 1, 0, none⟩ (.int .i64 0)).setCell ⟨w.heap.size + 1, 1, none⟩ (.int .i64 0) = W12 at *
        refine leaves_cons (f := 20) (args := #[.pointer (some ⟨w.heap.size, 0, none⟩), .pointer (some ⟨w.heap.size + 1, 0, none⟩)]) (by simp) (by simp [go_sem]) ?_
        refine (catch_idle _ _ _).mono ?_
        rintro e u' w13 ⟨rfl, rfl, rfl⟩
        refine ⟨.tuple #[.agg #[.int .i64 v.f0, .int .i64 v.f1, .string v.f2, .slice A3 v.f3.length c3, .slice A4 v.f4.length c4], .agg #[.int .i64 0, .int .i64 0]], results_Parse _ _ w.heap.size (w.heap.size + 1) _ _ _ _ _ _ _ rfl rfl k1 k2, ?_⟩
        rw [HP.out]
        exact ⟨k3, _, _, rfl, Kd.R_mono (Kd.R_lower k4 (by omega)) (fun _ _ => trivial), Kd.R_mono (Kd.R_lower k5 (by omega)) (fun _ _ => trivial)⟩
      · have HP := Aside0.mk (show parseR l = (zV, 20, (tokAt ts l.length p).pos) by unfold parseR; rw [HT.out]; simp only [HV.out]; rw [if_neg h0])
        refine (next_bad ts l.length G HRG.out g w6.heap.size p 0 0 W9 hz9 h0).mono ?_
        rintro e w10 ⟨rfl, hb10⟩
        have hr10 := blk_below hr9 hb10
        have hf10 := blk_below hf9 hb10
        have hs10 := hb10.size
        have hB10 := hB9.trans (hb10.mono (by omega))
        show Leaves _ _ _ _ [_] _ _
        refine leaves_cons (f := 20) (args := #[.pointer (some ⟨w.heap.size, 0, none⟩), .pointer (some ⟨w.heap.size + 1, 0, none⟩)]) (by simp) (by simp [go_sem]) ?_
        refine (catch_panicking w.heap.size (w.heap.size + 1) _ _ _ _ _ _ _ 20 (tokAt ts l.length p).pos [] w10 (by omega) hr10 hf10).mono ?_
        rintro e u' w11 ⟨rfl, rfl, h1, h2, h3⟩
        refine ⟨.tuple #[.agg zeroC, .agg #[.int .i64 (20 : Nat), .int .i64 ((tokAt ts l.length p).pos : Nat)]], results_Parse _ _ w.heap.size (w.heap.size + 1) _ _ _ _ _ _ _ rfl rfl h1 h2, ?_⟩
        rw [HP.out]
        exact ⟨hB10.trans (h3 _ (Nat.le_refl _) (by omega) (by omega)), _, _, rfl, Kd.R_nil _ _ _ _ _, Kd.R_nil _ _ _ _ _⟩
  · have HC := Aside0.mk hc
    have hcb : (((c : Nat) : Int) == 0) = false := by simp; omega
    clear hc
    go_wp2_with fail
    have hrf : w.heap.size ≠ w.heap.size + 1 := by omega
    have hr5 := (far_set (w3.setCell ⟨w.heap.size + 1, 0, none⟩ (.int .i64 c)) (w.heap.size + 1) 1 (.int .i64 a) _ hrf).trans ((far_set w3 (w.heap.size + 1) 0 (.int .i64 c) _ hrf).trans HR3.out)
    have hf5 := blk_put (blk_put HF3.out 0 (.int .i64 c) rfl) 1 (.int .i64 a) rfl
    have hb5 := (HB3.out.setCell (p := ⟨w.heap.size + 1, 0, none⟩) (by simp) (.int .i64 c)).setCell (p := ⟨w.heap.size + 1, 1, none⟩) (by simp) (.int .i64 a)
    generalize (w3.setCell ⟨w.heap.size + 1, 0, none⟩ (.int .i64 c)).setCell ⟨w.heap.size + 1, 1, none⟩ (.int .i64 a) = W5 at *
    clear r0 r1 r2 r3 r4 rf f0 f1 ff
    have r0 : W5.cell? ⟨w.heap.size, 0, none⟩ = some (.int .i64 0) := blk_cell hr5 0
    have r1 : W5.cell? ⟨w.heap.size, 1, none⟩ = some (.int .i64 0) := blk_cell hr5 1
    have r2 : W5.cell? ⟨w.heap.size, 2, none⟩ = some (.string ⟨#[]⟩) := blk_cell hr5 2
    have r3 : W5.cell? ⟨w.heap.size, 3, none⟩ = some (.slice none 0 0) := blk_cell hr5 3
    have r4 : W5.cell? ⟨w.heap.size, 4, none⟩ = some (.slice none 0 0) := blk_cell hr5 4
    have rf : ∀ j, W5.frozen? ⟨w.heap.size, j, none⟩ = false := blk_frozen hr5
    have f0 : W5.cell? ⟨w.heap.size + 1, 0, none⟩ = some (.int .i64 c) := blk_cell hf5 0
    have f1 : W5.cell? ⟨w.heap.size + 1, 1, none⟩ = some (.int .i64 a) := blk_cell hf5 1
    have ff : ∀ j, W5.frozen? ⟨w.heap.size + 1, j, none⟩ = false := blk_frozen hf5
    have HR5 := Aside0.mk hr5
    have HF5 := Aside0.mk hf5
    have HB5 := Aside0.mk hb5
    have HP := Aside0.mk (show parseR l = (zV, c, a) from parseR_bad hT HC.out)
    clear hr5 hf5 hb5
    refine start_ (n := 4) (S := fun w' => w'.cell? ⟨w.heap.size + 1, 0, none⟩ = some (.int .i64 c) ∧ w'.cell? ⟨w.heap.size + 1, 1, none⟩ = some (.int .i64 a)) (ds := [3]) #[fF, fF, fF, fF] (by kernel_rfl) rfl rfl ⟨f0, f1⟩ (fun hHeld => ?_)
    refine pure_ (i := 0) (N := some 14) (v := ?_) (a' := ?_) #[tT, fF, fF, fF] rfl rfl (by kernel_rfl) (fun _ _ _ h => leaves_put _ _ 14 _ (by omega) _ _ _ h) (Or.inl ⟨by rfl, ?_⟩) ?_ ?_
    rotate_left
    · intro w'
      go_simp
      with_reducible rfl
    rotate_left
    · simp only [Act.put, sA, sZ, sS, i64_w, i32_w]
      rfl
    refine take_ (i := 1) (N := some 15) (v := ?_) (a' := ?_) #[tT, tT, fF, fF] rfl rfl (by kernel_rfl) (fun _ _ _ h => leaves_put _ _ 15 _ (by omega) _ _ _ h) (Or.inl ⟨by rfl, ?_⟩) hHeld ?_ ?_
    rotate_left
    · rintro w' ⟨e1, e2⟩
      go_simp
      with_reducible rfl
    rotate_left
    · simp only [Act.put, sA, sZ, sS, i64_w, i32_w]
      rfl
    have n1 : w.heap.size + 1 ≠ w.heap.size := by omega
    refine one_ (i := 2) (N := none) #[tT, tT, tT, fF] rfl rfl (by kernel_rfl) (by decide) (fun K hK => ?_)
    rw [if_pos (by rfl)]
    unfold Oper.wp
    go_simp
    refine hK.out _ _ ⟨by go_simp, by go_simp⟩ fun hHeld => ?_
    clear hK K
    refine last_ (i := 3) (N := none) #[tT, tT, tT, tT] rfl rfl (by kernel_rfl) (by decide) (fun K hK => ?_)
    rw [if_pos (by rfl)]
    unfold Oper.wp
    go_simp
    refine hK.out _ _ ?_
    clear hK K
    refine done_ (by kernel_rfl) ?_
    have g1 := blk_set5 HR5.out (.int .i64 0) (.int .i64 0) (.string ⟨#[]⟩) (.slice none 0 0) (.slice none 0 0)
    have g2 := far5 HF5.out n1 (.int .i64 0) (.int .i64 0) (.string ⟨#[]⟩) (.slice none 0 0) (.slice none 0 0)
    have g3 := below5 HB5.out (Nat.le_refl w.heap.size) (.int .i64 0) (.int .i64 0) (.string ⟨#[]⟩) (.slice none 0 0) (.slice none 0 0)
    have k1 := far1 (j := 1) (far1 (j := 0) g1 hrf (.int .i64 c)) hrf (.int .i64 a)
    have k2 := blk_put (blk_put g2 0 (.int .i64 c) rfl) 1 (.int .i64 a) rfl
    have k3 := (g3.setCell (p := ⟨w.heap.size + 1, 0, none⟩) (by simp) (.int .i64 c)).setCell (p := ⟨w.heap.size + 1, 1, none⟩) (by simp) (.int .i64 a)
    clear g1 g2 g3 r0 r1 r2 r3 r4 rf f0 f1 ff hHeld
    generalize ((((((W5.setCell ⟨w.heap.size, 0, none⟩ (.int .i64 0)).setCell ⟨w.heap.size, 1, none⟩ (.int .i64 0)).setCell ⟨w.heap.size, 2, none⟩ (.string ⟨#[]⟩)).setCell ⟨w.heap.size, 3, none⟩ (.slice none 0 0)).setCell ⟨w.heap.size, 4, none⟩ (.slice none 0 0)).setCell ⟨w.heap.size + 1, 0, none⟩ (.int .i64 c)).setCell ⟨w.heap.size + 1, 1, none⟩ (.int .i64 a) = W9 at *
    have k1' : W9.drew.heap[w.heap.size]? = _ := k1
    have k2' : W9.drew.heap[w.heap.size + 1]? = _ := k2
    have k3' : Below w.heap.size w W9.drew := ⟨k3.os, k3.tape, k3.output, k3.size, k3.block⟩
    clear k1 k2 k3
    generalize W9.drew = W10 at *
    go_wp2
    refine ⟨.tuple #[.agg #[.int .i64 0, .int .i64 0, .string ⟨#[]⟩, .slice none 0 0, .slice none 0 0], .agg #[.int .i64 c, .int .i64 a]], results_Parse _ _ w.heap.size (w.heap.size + 1) _ _ _ _ _ _ _ rfl rfl k1' k2', ?_⟩
    rw [HP.out]
    exact ⟨k3', _, _, rfl, Kd.R_nil _ _ _ _ _, Kd.R_nil _ _ _ _ _⟩
end Go.Proofs.YtegppkngdkkdcaaGreatDoor.Tr
end
section
set_option linter.unusedVariables false
set_option linter.unusedSimpArgs false
namespace Go.Proofs.YtegppkngdkkdcaaGreatDoor.Lx
open Go.RowKit Go.Proofs.YtegppkngdkkdcaaGreatDoorW.PrintWords Go.Proofs.YtegppkngdkkdcaaGreatDoorW.PrintLast Go.Proofs.YtegppkngdkkdcaaGreatDoorW.PrintMore
theorem gPow : ∃ g, Tryz.prog.globalNamed "internal/strconv.uint64pow10" = some g := by
  have h : (Tryz.prog.globalNamed "internal/strconv.uint64pow10").isSome = true := by kernel_rfl
  exact Option.isSome_iff_exists.1 h
theorem P10.below {w w' : World} (h : P10 w) (hb : Below w.heap.size w w') : P10 w' := by
  obtain ⟨g, hg⟩ := gPow
  unfold P10 Lib.TabIs World.var? at h ⊢
  rw [hg] at h ⊢
  simp only [Option.bind_some] at h ⊢
  have hlt : g < w.heap.size := by
    rcases Nat.lt_or_ge g w.heap.size with h' | h'
    · exact h'
    · rw [Array.getElem?_eq_none h'] at h; cases h
  rw [hb.block g hlt]
  exact h
theorem LW.below {w w' : World} (h : LW w) (hb : Below w.heap.size w w') : LW w' := ⟨h.te.below hb, h.deb.below hb, h.p10.below hb⟩
end Go.Proofs.YtegppkngdkkdcaaGreatDoor.Lx
namespace Go.Proofs.YtegppkngdkkdcaaGreatDoor.PS
open Go.RowKit Go.Proofs.YtegppkngdkkdcaaGreatDoorW.PrintWords Go.Proofs.YtegppkngdkkdcaaGreatDoorW.PrintLast Go.Proofs.YtegppkngdkkdcaaGreatDoorW.PrintMore
open Go.Proofs.YtegppkngdkkdcaaGreatDoor.Lx Go.Proofs.YtegppkngdkkdcaaGreatDoor.Tr
def i64B (n : Int) : Bool := decide (-9223372036854775808 ≤ n) && decide (n ≤ 9223372036854775807)
def okB : Nat → V → Bool
  | 0, x => i64B x.f1 && (decide (x.f3.length ≤ 1000000000000) && decide (x.f4.length ≤ 1000000000000))
  | d + 1, x => (i64B x.f1 && (decide (x.f3.length ≤ 1000000000000) && decide (x.f4.length ≤ 1000000000000))) && x.f3.all (okB d)
theorem okB_of : ∀ (d : Nat) (x : V), okB d x = true → numsR d x ∧ fitsR d x
  | 0, x, h => by
    simp only [okB, i64B, Bool.and_eq_true, decide_eq_true_eq] at h
    exact ⟨h.1, h.2⟩
  | d + 1, x, h => by
    simp only [okB, i64B, Bool.and_eq_true, decide_eq_true_eq, List.all_eq_true] at h
    exact ⟨⟨h.1.1, fun y hy => (okB_of d y (h.2 y hy)).1⟩, h.1.2.1, h.1.2.2, fun y hy => (okB_of d y (h.2 y hy)).2⟩
def tree_Parse.f (_ : Nat) (a0 : ByteArray) : Option (Int × Int × ByteArray × List (S26) × List ByteArray × Int × Int) :=
  some ((parseR a0.data.toList).1.f0, (parseR a0.data.toList).1.f1, (parseR a0.data.toList).1.f2, (parseR a0.data.toList).1.f3, (parseR a0.data.toList).1.f4, ((parseR a0.data.toList).2.1 : Int), ((parseR a0.data.toList).2.2 : Int))
theorem tree_Parse.mono (a0 : ByteArray) (k : Nat) : LeO (tree_Parse.f k a0) (tree_Parse.f (k + 1) a0) := LeO.refl _
theorem tree_Parse.calls (k : Nat) (a0 : ByteArray) (r0 r1 : Int) (r2 : ByteArray) (r3 : List (S26)) (r4 : List ByteArray) (r5 r6 : Int) (w : World) (h : tree_Parse.f k a0 = some (r0, r1, r2, r3, r4, r5, r6)) (htab : LW w) :
    Calls Tryz.prog 8 #[.string a0] w fun e w' => ∃ v3_ v4_ : Value, e = .returned (.tuple #[.agg #[.int .i64 r0, .int .i64 r1, .string r2, v3_, v4_], .agg #[.int .i64 r5, .int .i64 r6]]) ∧ Kd.R k26 26 w' w.heap.size (fun _ => True) v3_ r3 ∧ Kd.R Kd.string 9 w' w.heap.size (fun _ => True) v4_ r4 ∧ Below w.heap.size w w' := by
  unfold tree_Parse.f at h
  have h2 := Option.some.inj h
  simp only [Prod.mk.injEq] at h2
  obtain ⟨rfl, rfl, rfl, rfl, rfl, rfl, rfl⟩ := h2
  refine (Parse_calls a0.data.toList w (fun w1 h1 => (htab.below h1).te)).mono ?_
  rintro e w' ⟨hb, v3, v4, he, h3, h4⟩
  exact ⟨v3, v4, he, h3, h4, hb⟩
def tree_Print.f (_ : Nat) (a0 a1 : Int) (a2 : ByteArray) (l3 : List (S26)) (l4 : List ByteArray) : Option (ByteArray × Int) :=
  bif okB 8 ⟨a0, a1, a2, l3, l4⟩ && decide ((writeD 8 ⟨a0, a1, a2, l3, l4⟩).length ≤ 10000000000000) then some (Tr.toB (printR ⟨a0, a1, a2, l3, l4⟩).1, ((printR ⟨a0, a1, a2, l3, l4⟩).2 : Int)) else none
theorem tree_Print.mono (a0 a1 : Int) (a2 : ByteArray) (l3 : List (S26)) (l4 : List ByteArray) (k : Nat) : LeO (tree_Print.f k a0 a1 a2 l3 l4) (tree_Print.f (k + 1) a0 a1 a2 l3 l4) := LeO.refl _
theorem tree_Print.calls (k : Nat) (a0 a1 : Int) (a2 : ByteArray) (A3 : Option Addr) (c3 : Nat) (l3 : List (S26)) (A4 : Option Addr) (c4 : Nat) (l4 : List ByteArray) (r1 : ByteArray) (r2 : Int) (w : World) (hr3 : Kd.C k26 w A3 l3.length l3) (hc3 : l3.length ≤ c3) (hr4 : Kd.C Kd.string w A4 l4.length l4) (hc4 : l4.length ≤ c4) (h : tree_Print.f k a0 a1 a2 l3 l4 = some (r1, r2)) (htab : LW w) :
    Calls Tryz.prog 12 #[.agg #[.int .i64 a0, .int .i64 a1, .string a2, .slice A3 l3.length c3, .slice A4 l4.length c4]] w fun e w' => e = .returned (.tuple #[.string r1, .int .i64 r2]) ∧ Below w.heap.size w w' := by
  unfold tree_Print.f at h
  cases hk : okB 8 ⟨a0, a1, a2, l3, l4⟩ && decide ((writeD 8 ⟨a0, a1, a2, l3, l4⟩).length ≤ 10000000000000) with
  | false => rw [hk] at h; cases h
  | true =>
    rw [hk] at h
    have h2 := Option.some.inj h
    simp only [Prod.mk.injEq] at h2
    obtain ⟨rfl, rfl⟩ := h2
    rw [Bool.and_eq_true, decide_eq_true_eq] at hk
    obtain ⟨h3, h4⟩ := okB_of 8 _ hk.1
    exact Print_calls ⟨a0, a1, a2, l3, l4⟩ A3 c3 A4 c4 w h4 h3 hc3 hr3 hc4 hr4 hk.2 (fun w1 h1 => htab.below h1)
end Go.Proofs.YtegppkngdkkdcaaGreatDoor.PS
end
section
namespace Go.Proofs.YtegppkngdkkdcaaGreatDoor.PS
open Go.RowKit Go.Proofs.YtegppkngdkkdcaaGreatDoorW.PrintWords Go.Proofs.YtegppkngdkkdcaaGreatDoorW.PrintLast Go.Proofs.YtegppkngdkkdcaaGreatDoorW.PrintMore
attribute [local go_sem] max2_int min2_int max_two min_two max_three min_three max_four min_four   -- for this text's walks alone
set_option linter.unusedVariables false
set_option linter.unusedSimpArgs false
def assizelaw02_alive.f (k : Nat)  : Option (Bool) := (tree_Parse.f k (⟨#[91, 49, 44, 32, 110, 117, 108, 108, 93]⟩ : ByteArray)).bind fun bt101 => ((tree_Print.f k bt101.1 bt101.2.1 bt101.2.2.1 bt101.2.2.2.1 bt101.2.2.2.2.1).bind fun bt114 => (if bt101.2.2.2.2.2.1 = 0 then (if bt101.1 = 5 then (if (bt101.2.2.2.1.length : Int) = 2 then (if bt114.2 = 0 then (some (bt114.1.toList == ([91, 49, 44, 110, 117, 108, 108, 93] : List UInt8))) else (some false)) else (some false)) else (some false)) else (some false)))
theorem assizelaw02_alive.mono : ∀ k, LeO (assizelaw02_alive.f k ) (assizelaw02_alive.f (k + 1) ) := by
  intro  k
  unfold assizelaw02_alive.f
  repeat' first
      | (with_reducible exact tree_Parse.mono _ _)
      | (with_reducible exact tree_Print.mono _ _ _ _ _ _)
      | (with_reducible exact LeO.refl _)
      | (with_reducible exact LeO.none _)
      | (with_reducible refine LeO.ite ?_ ?_)
      | (with_reducible refine LeO.bind ?_ (fun _ => ?_))
      | exact tree_Parse.mono _ _
      | exact tree_Print.mono _ _ _ _ _ _
      | exact LeO.none _
      | refine LeO.ite ?_ ?_
      | refine LeO.bind ?_ (fun _ => ?_)
set_option maxHeartbeats 8000000 in
set_option maxRecDepth 100000 in
theorem assizelaw02_alive.calls (k : Nat)  (r : Bool) (w : World) (h : assizelaw02_alive.f k  = some r) (htab : Go.Proofs.YtegppkngdkkdcaaGreatDoor.Lx.LW w) :
    Calls Tryz.prog 7 #[] w fun e w' => e = .returned (.bool r) ∧ Below w.heap.size w w' := by
  have HTAB := Aside0.mk htab
  clear htab
  have hu26 := Tryz.underlying26
  have hu29 := Tryz.underlying29
  have HB := Aside0.mk (Below.refl w.heap.size w)
  have H : ((tree_Parse.f k (⟨#[91, 49, 44, 32, 110, 117, 108, 108, 93]⟩ : ByteArray)).bind fun bt101 => ((tree_Print.f k bt101.1 bt101.2.1 bt101.2.2.1 bt101.2.2.2.1 bt101.2.2.2.2.1).bind fun bt114 => (if bt101.2.2.2.2.2.1 = 0 then (if bt101.1 = 5 then (if (bt101.2.2.2.1.length : Int) = 2 then (if bt114.2 = 0 then (some (bt114.1.toList == ([91, 49, 44, 110, 117, 108, 108, 93] : List UInt8))) else (some false)) else (some false)) else (some false)) else (some false)))) = some r := h
  clear h
  replace H := Option.bind_eq_some_iff.mp H
  obtain ⟨⟨t101, t102, t103, t104, t107, t110, t111⟩, A10, H⟩ := H
  replace H : ((tree_Print.f k t101 t102 t103 t104 t107).bind fun bt114 => (if t110 = 0 then (if t101 = 5 then (if (t104.length : Int) = 2 then (if bt114.2 = 0 then (some (bt114.1.toList == ([91, 49, 44, 110, 117, 108, 108, 93] : List UInt8))) else (some false)) else (some false)) else (some false)) else (some false))) = some r := H
  have A1 := Aside0.mk A10
  clear A10
  replace H := Option.bind_eq_some_iff.mp H
  obtain ⟨⟨t114, t115⟩, A20, H⟩ := H
  replace H : (if t110 = 0 then (if t101 = 5 then (if (t104.length : Int) = 2 then (if t115 = 0 then (some (t114.toList == ([91, 49, 44, 110, 117, 108, 108, 93] : List UInt8))) else (some false)) else (some false)) else (some false)) else (some false)) = some r := H
  have A2 := Aside0.mk A20
  clear A20
  by_cases c3 : t110 = 0
  · rw [if_pos c3] at H
    have c3b0 : (t110 == 0) = true := beq_iff_eq.mpr c3
    have c3b1 : (t110 != 0) = false := bne_eq_false_iff_eq.mpr c3
    clear c3
    by_cases c4 : t101 = 5
    · rw [if_pos c4] at H
      have c4b0 : (t101 == 5) = true := beq_iff_eq.mpr c4
      have c4b1 : (t101 != 5) = false := bne_eq_false_iff_eq.mpr c4
      clear c4
      by_cases c5 : (t104.length : Int) = 2
      · rw [if_pos c5] at H
        have c5b0 : ((t104.length : Int) == 2) = true := beq_iff_eq.mpr c5
        have c5b1 : ((t104.length : Int) != 2) = false := bne_eq_false_iff_eq.mpr c5
        clear c5
        by_cases c6 : t115 = 0
        · rw [if_pos c6] at H
          have c6b0 : (t115 == 0) = true := beq_iff_eq.mpr c6
          have c6b1 : (t115 != 0) = false := bne_eq_false_iff_eq.mpr c6
          clear c6
          obtain rfl := Option.some.inj H
          go_enter Tryz.func7, Tryz.ntmps7
          go_wp2_with (first | ((with_reducible refine gate_callee (f := 8) rfl ?_); refine goesL_ (some 6) rfl rfl Tryz.func8 (by kernel_rfl) rfl #[.string (⟨#[91, 49, 44, 32, 110, 117, 108, 108, 93]⟩ : ByteArray)] rfl (by (try simp only [List.map_toArray, List.map_cons, List.map_nil]); first | done | rfl | (simp only [List.length_drop, List.length_take]; rfl)) ?_; (with_reducible refine (tree_Parse.calls k (⟨#[91, 49, 44, 32, 110, 117, 108, 108, 93]⟩ : ByteArray) t101 t102 t103 t104 t107 t110 t111 _ A1.out (HTAB.out.below (by repeat (first | (with_reducible first | exact HB.out | apply below_alloc | apply pw_below_drewN | apply below_drew1 | refine below_set ?_ (by assumption) | refine below_set ?_ (Aside0.out (by assumption))) | exact HB.out)))).mono ?_); rintro e w7 ⟨v105, v108, rfl, ho0, ho1, hb⟩; refine ⟨_, rfl, ?_⟩; have n0_ := Aside0.mk (Kd.R_lower ho0 (below_size (by repeat (first | (with_reducible first | exact HB.out | apply below_alloc | apply pw_below_drewN | apply below_drew1) | exact HB.out)))); have n1_ := Aside0.mk (Kd.R_lower ho1 (below_size (by repeat (first | (with_reducible first | exact HB.out | apply below_alloc | apply pw_below_drewN | apply below_drew1) | exact HB.out)))); have n2_ := Aside0.mk (below_step (by repeat (first | (with_reducible first | exact HB.out | apply below_alloc | apply pw_below_drewN | apply below_drew1) | exact HB.out)) hb); clear HB; have HO106 := n0_; have HO109 := n1_; have HB := n2_; clear n0_ n1_ n2_; (try clear hb); (try clear hb2); (try clear hk); (try clear hi); (try clear ho0); (try clear ho1)) | ((with_reducible refine gate_dst (N := 1) rfl ?_); (try (refine gate_guard (by rfl) ?_; dsimp only)); refine box_event ?hg (N := 1) ?hd (cs := #[.int .i64 0, .int .i64 0, .string (⟨#[]⟩ : ByteArray), .slice none 0 0, .slice none 0 0]) (t := 26) ?hr ?_; (case hd => rfl); (case hg => rfl); (case hr => first | (go_simp; done) | (go_simp; rfl)); intro gb112 hg w8 hbox hb; have n0_ := Aside0.mk (Kd.R_below (Kd.R_elderB (by (with_reducible repeat (first | apply Kd.R_alloc | apply Kd.R_drewN | apply Kd.R_drew)); exact HO106.out) gb112 (Nat.le_of_eq hg.symm)) hb); have n1_ := Aside0.mk (Kd.R_below (by (with_reducible repeat (first | apply Kd.R_alloc | apply Kd.R_drewN | apply Kd.R_drew)); exact HO109.out) hb); have n2_ := Aside0.mk (below_step (by repeat (first | (with_reducible first | exact HB.out | apply below_alloc | apply pw_below_drewN | apply below_drew1) | exact HB.out)) hb); have n3_ := Aside0.mk (hbox); have n4_ := Aside0.mk ((by rw [hg]; exact (below_size (by repeat (first | (with_reducible first | exact HB.out | apply below_alloc | apply pw_below_drewN | apply below_drew1) | exact HB.out))) : w.heap.size ≤ gb112)); have n5_ := Aside0.mk ((by rw [hg]; exact (below_size (by repeat (first | (with_reducible first | exact HB.out | apply below_alloc | apply pw_below_drewN | apply below_drew1) | exact HB.out))) : w.heap.size ≤ gb112)); clear HO106; clear HO109; clear HB; have HO106 := n0_; have HO109 := n1_; have HB := n2_; have BK112 := n3_; have GW112 := n4_; have GE112 := n5_; clear n0_ n1_ n2_ n3_ n4_ n5_; clear hb hbox hg) | ((with_reducible refine gate_dst (N := 2) rfl ?_); (try (refine gate_guard (by rfl) ?_; dsimp only)); refine box_event ?hg (N := 2) ?hd (cs := #[.int .i64 0, .int .i64 0]) (t := 29) ?hr ?_; (case hd => rfl); (case hg => rfl); (case hr => first | (go_simp; done) | (go_simp; rfl)); intro gb113 hg w9 hbox hb; have n0_ := Aside0.mk (Kd.R_below (by (with_reducible repeat (first | apply Kd.R_alloc | apply Kd.R_drewN | apply Kd.R_drew)); exact HO106.out) hb); have n1_ := Aside0.mk (Kd.R_below (by (with_reducible repeat (first | apply Kd.R_alloc | apply Kd.R_drewN | apply Kd.R_drew)); exact HO109.out) hb); have n2_ := Aside0.mk (blk_below (g := gb112) (o := .cells #[.int .i64 0, .int .i64 0, .string (⟨#[]⟩ : ByteArray), .slice none 0 0, .slice none 0 0] 26 (0, 0)) (by (with_reducible repeat (first | refine blk_drewN ?_ _ | refine blk_drew ?_ | refine blk_alloc ?_ _)); exact BK112.out) hb); have n3_ := Aside0.mk (below_step (by repeat (first | (with_reducible first | exact HB.out | apply below_alloc | apply pw_below_drewN | apply below_drew1 | refine below_set ?_ GE112.out) | exact HB.out)) hb); have n4_ := Aside0.mk (hbox); have n5_ := Aside0.mk ((by rw [hg]; exact (below_size (by repeat (first | (with_reducible first | exact HB.out | apply below_alloc | apply pw_below_drewN | apply below_drew1 | refine below_set ?_ GE112.out) | exact HB.out))) : w.heap.size ≤ gb113)); have n6_ := Aside0.mk ((by rw [hg]; exact (below_size (by repeat (first | (with_reducible first | exact HB.out | apply below_alloc | apply pw_below_drewN | apply below_drew1 | refine below_set ?_ GE112.out) | exact HB.out))) : w.heap.size ≤ gb113)); have n7_ := Aside0.mk ((by rw [hg]; exact Nat.ne_of_lt (blk_lt (g := gb112) (o := .cells #[.int .i64 0, .int .i64 0, .string (⟨#[]⟩ : ByteArray), .slice none 0 0, .slice none 0 0] 26 (0, 0)) (by (with_reducible repeat (first | refine blk_drewN ?_ _ | refine blk_drew ?_ | refine blk_alloc ?_ _)); exact BK112.out)) : gb112 ≠ gb113)); have n8_ := Aside0.mk ((by rw [hg]; exact Nat.ne_of_gt (blk_lt (g := gb112) (o := .cells #[.int .i64 0, .int .i64 0, .string (⟨#[]⟩ : ByteArray), .slice none 0 0, .slice none 0 0] 26 (0, 0)) (by (with_reducible repeat (first | refine blk_drewN ?_ _ | refine blk_drew ?_ | refine blk_alloc ?_ _)); exact BK112.out)) : gb113 ≠ gb112)); clear HO106; clear HO109; clear BK112; clear HB; have HO106 := n0_; have HO109 := n1_; have BK112 := n2_; have HB := n3_; have BK113 := n4_; have GW113 := n5_; have GE113 := n6_; have NB112_113 := n7_; have NB113_112 := n8_; clear n0_ n1_ n2_ n3_ n4_ n5_ n6_ n7_ n8_; clear hb hbox hg; have hnb10 := NB112_113.out; have hnc10 := NB113_112.out; have hcz11_0 : w9.cell? ⟨gb112, 0, none⟩ = some (.int .i64 0) := (blk_cell BK112.out 0).trans rfl; have hcz11_1 : w9.cell? ⟨gb112, 1, none⟩ = some (.int .i64 0) := (blk_cell BK112.out 1).trans rfl; have hcz11_2 : w9.cell? ⟨gb112, 2, none⟩ = some (.string (⟨#[]⟩ : ByteArray)) := (blk_cell BK112.out 2).trans rfl; have hcz11_3 : w9.cell? ⟨gb112, 3, none⟩ = some (.slice none 0 0) := (blk_cell BK112.out 3).trans rfl; have hcz11_4 : w9.cell? ⟨gb112, 4, none⟩ = some (.slice none 0 0) := (blk_cell BK112.out 4).trans rfl; have hfz11_0 := blk_frozen BK112.out 0; have hfz11_1 := blk_frozen BK112.out 1; have hfz11_2 := blk_frozen BK112.out 2; have hfz11_3 := blk_frozen BK112.out 3; have hfz11_4 := blk_frozen BK112.out 4; obtain ⟨Ao12, co12, eo12⟩ := Kd.R_slice HO106.out; subst eo12; obtain ⟨Ao13, co13, eo13⟩ := Kd.R_slice HO109.out; subst eo13; have hcz14_0 : w9.cell? ⟨gb113, 0, none⟩ = some (.int .i64 0) := (blk_cell BK113.out 0).trans rfl; have hcz14_1 : w9.cell? ⟨gb113, 1, none⟩ = some (.int .i64 0) := (blk_cell BK113.out 1).trans rfl; have hfz14_0 := blk_frozen BK113.out 0; have hfz14_1 := blk_frozen BK113.out 1) | ((with_reducible refine gate_callee (f := 12) rfl ?_); refine goesL_ (some 11) rfl rfl Tryz.func12 (by kernel_rfl) rfl #[.agg #[.int .i64 t101, .int .i64 t102, .string t103, .slice Ao12 t104.length co12, .slice Ao13 t107.length co13]] rfl (by (try simp only [List.map_toArray, List.map_cons, List.map_nil]); first | done | rfl | (simp only [List.length_drop, List.length_take]; rfl)) ?_; (with_reducible refine (tree_Print.calls k t101 t102 t103 _ _ t104 _ _ t107 t114 t115 _ ?side1 ?side2 ?side3 ?side4 A2.out (HTAB.out.below (by repeat (first | (with_reducible first | exact HB.out | apply below_alloc | apply pw_below_drewN | apply below_drew1 | refine below_set ?_ (by assumption) | refine below_set ?_ (Aside0.out (by assumption))) | exact HB.out)))).mono ?_); (case side1 => refine (Kd.R_reads' (e := 26) (base := w.heap.size) (ok := fun k_ => (True ∧ k_ ≠ gb112)) (n := t104.length) (c := co12) ?_).2.2; exact (by (with_reducible repeat (first | apply Kd.R_alloc | apply Kd.R_drewN | apply Kd.R_drew)); exact (Kd.R_mono (Kd.R_mono (Kd.R_far (p := ⟨gb113, 1, none⟩) (Kd.R_far (p := ⟨gb113, 0, none⟩) (Kd.R_far (p := ⟨gb112, 4, none⟩) (Kd.R_far (p := ⟨gb112, 3, none⟩) (Kd.R_far (p := ⟨gb112, 2, none⟩) (Kd.R_far (p := ⟨gb112, 1, none⟩) (Kd.R_far (p := ⟨gb112, 0, none⟩) (Kd.R_types (Kd.R_mono HO106.out (fun k_ hk => (⟨hk, hk.2⟩ : _ ∧ k_ ≠ gb112))) BK113.out (by decide)) (fun _ hk => hk.1.2) (.int .i64 t101)) (fun _ hk => hk.1.2) (.int .i64 t102)) (fun _ hk => hk.1.2) (.string t103)) (fun _ hk => hk.1.2) (.slice Ao12 t104.length co12)) (fun _ hk => hk.1.2) (.slice Ao13 t107.length co13)) (fun _ hk => hk.2) (.int .i64 t110)) (fun _ hk => hk.2) (.int .i64 t111)) (fun _ h_ => h_.1)) (fun _ h_ => h_.1)))); (case side2 => exact (Kd.R_reads' HO106.out).2.1); (case side3 => refine (Kd.R_reads' (e := 9) (base := w.heap.size) (ok := fun k_ => True) (n := t107.length) (c := co13) ?_).2.2; exact (by (with_reducible repeat (first | apply Kd.R_alloc | apply Kd.R_drewN | apply Kd.R_drew)); exact (Kd.R_mono (Kd.R_mono (Kd.R_far (p := ⟨gb113, 1, none⟩) (Kd.R_far (p := ⟨gb113, 0, none⟩) (Kd.R_far (p := ⟨gb112, 4, none⟩) (Kd.R_far (p := ⟨gb112, 3, none⟩) (Kd.R_far (p := ⟨gb112, 2, none⟩) (Kd.R_far (p := ⟨gb112, 1, none⟩) (Kd.R_far (p := ⟨gb112, 0, none⟩) (Kd.R_types (Kd.R_types HO109.out BK112.out (by decide)) BK113.out (by decide)) (fun _ hk => hk.1.2) (.int .i64 t101)) (fun _ hk => hk.1.2) (.int .i64 t102)) (fun _ hk => hk.1.2) (.string t103)) (fun _ hk => hk.1.2) (.slice Ao12 t104.length co12)) (fun _ hk => hk.1.2) (.slice Ao13 t107.length co13)) (fun _ hk => hk.2) (.int .i64 t110)) (fun _ hk => hk.2) (.int .i64 t111)) (fun _ h_ => h_.1)) (fun _ h_ => h_.1)))); (case side4 => exact (Kd.R_reads' HO109.out).2.1); rintro e w15 ⟨rfl, hb⟩; refine ⟨_, rfl, ?_⟩; have n0_ := Aside0.mk (Kd.R_below (by (with_reducible repeat (first | apply Kd.R_alloc | apply Kd.R_drewN | apply Kd.R_drew)); exact (Kd.R_mono (Kd.R_mono (Kd.R_far (p := ⟨gb113, 1, none⟩) (Kd.R_far (p := ⟨gb113, 0, none⟩) (Kd.R_far (p := ⟨gb112, 4, none⟩) (Kd.R_far (p := ⟨gb112, 3, none⟩) (Kd.R_far (p := ⟨gb112, 2, none⟩) (Kd.R_far (p := ⟨gb112, 1, none⟩) (Kd.R_far (p := ⟨gb112, 0, none⟩) (Kd.R_types (Kd.R_mono HO106.out (fun k_ hk => (⟨hk, hk.2⟩ : _ ∧ k_ ≠ gb112))) BK113.out (by decide)) (fun _ hk => hk.1.2) (.int .i64 t101)) (fun _ hk => hk.1.2) (.int .i64 t102)) (fun _ hk => hk.1.2) (.string t103)) (fun _ hk => hk.1.2) (.slice Ao12 t104.length co12)) (fun _ hk => hk.1.2) (.slice Ao13 t107.length co13)) (fun _ hk => hk.2) (.int .i64 t110)) (fun _ hk => hk.2) (.int .i64 t111)) (fun _ h_ => h_.1)) (fun _ h_ => h_.1))) hb); have n1_ := Aside0.mk (Kd.R_below (by (with_reducible repeat (first | apply Kd.R_alloc | apply Kd.R_drewN | apply Kd.R_drew)); exact (Kd.R_mono (Kd.R_mono (Kd.R_far (p := ⟨gb113, 1, none⟩) (Kd.R_far (p := ⟨gb113, 0, none⟩) (Kd.R_far (p := ⟨gb112, 4, none⟩) (Kd.R_far (p := ⟨gb112, 3, none⟩) (Kd.R_far (p := ⟨gb112, 2, none⟩) (Kd.R_far (p := ⟨gb112, 1, none⟩) (Kd.R_far (p := ⟨gb112, 0, none⟩) (Kd.R_types (Kd.R_types HO109.out BK112.out (by decide)) BK113.out (by decide)) (fun _ hk => hk.1.2) (.int .i64 t101)) (fun _ hk => hk.1.2) (.int .i64 t102)) (fun _ hk => hk.1.2) (.string t103)) (fun _ hk => hk.1.2) (.slice Ao12 t104.length co12)) (fun _ hk => hk.1.2) (.slice Ao13 t107.length co13)) (fun _ hk => hk.2) (.int .i64 t110)) (fun _ hk => hk.2) (.int .i64 t111)) (fun _ h_ => h_.1)) (fun _ h_ => h_.1))) hb); have n2_ := Aside0.mk (blk_below (g := gb112) (o := .cells #[.int .i64 t101, .int .i64 t102, .string t103, .slice Ao12 t104.length co12, .slice Ao13 t107.length co13] 26 (0, 0)) (by (with_reducible repeat (first | refine blk_drewN ?_ _ | refine blk_drew ?_ | refine blk_alloc ?_ _)); refine blk_far ?_ NB112_113.out _; (with_reducible repeat (first | refine blk_drewN ?_ _ | refine blk_drew ?_ | refine blk_alloc ?_ _)); refine blk_far ?_ NB112_113.out _; (with_reducible repeat (first | refine blk_drewN ?_ _ | refine blk_drew ?_ | refine blk_alloc ?_ _)); refine blk_put (cs := #[.int .i64 t101, .int .i64 t102, .string t103, .slice Ao12 t104.length co12, .slice none 0 0]) ?_ 4 _ rfl; (with_reducible repeat (first | refine blk_drewN ?_ _ | refine blk_drew ?_ | refine blk_alloc ?_ _)); refine blk_put (cs := #[.int .i64 t101, .int .i64 t102, .string t103, .slice none 0 0, .slice none 0 0]) ?_ 3 _ rfl; (with_reducible repeat (first | refine blk_drewN ?_ _ | refine blk_drew ?_ | refine blk_alloc ?_ _)); refine blk_put (cs := #[.int .i64 t101, .int .i64 t102, .string (⟨#[]⟩ : ByteArray), .slice none 0 0, .slice none 0 0]) ?_ 2 _ rfl; (with_reducible repeat (first | refine blk_drewN ?_ _ | refine blk_drew ?_ | refine blk_alloc ?_ _)); refine blk_put (cs := #[.int .i64 t101, .int .i64 0, .string (⟨#[]⟩ : ByteArray), .slice none 0 0, .slice none 0 0]) ?_ 1 _ rfl; (with_reducible repeat (first | refine blk_drewN ?_ _ | refine blk_drew ?_ | refine blk_alloc ?_ _)); refine blk_put (cs := #[.int .i64 0, .int .i64 0, .string (⟨#[]⟩ : ByteArray), .slice none 0 0, .slice none 0 0]) ?_ 0 _ rfl; (with_reducible repeat (first | refine blk_drewN ?_ _ | refine blk_drew ?_ | refine blk_alloc ?_ _)); exact BK112.out) hb); have n3_ := Aside0.mk (blk_below (g := gb113) (o := .cells #[.int .i64 t110, .int .i64 t111] 29 (0, 0)) (by (with_reducible repeat (first | refine blk_drewN ?_ _ | refine blk_drew ?_ | refine blk_alloc ?_ _)); refine blk_put (cs := #[.int .i64 t110, .int .i64 0]) ?_ 1 _ rfl; (with_reducible repeat (first | refine blk_drewN ?_ _ | refine blk_drew ?_ | refine blk_alloc ?_ _)); refine blk_put (cs := #[.int .i64 0, .int .i64 0]) ?_ 0 _ rfl; (with_reducible repeat (first | refine blk_drewN ?_ _ | refine blk_drew ?_ | refine blk_alloc ?_ _)); refine blk_far ?_ NB113_112.out _; (with_reducible repeat (first | refine blk_drewN ?_ _ | refine blk_drew ?_ | refine blk_alloc ?_ _)); refine blk_far ?_ NB113_112.out _; (with_reducible repeat (first | refine blk_drewN ?_ _ | refine blk_drew ?_ | refine blk_alloc ?_ _)); refine blk_far ?_ NB113_112.out _; (with_reducible repeat (first | refine blk_drewN ?_ _ | refine blk_drew ?_ | refine blk_alloc ?_ _)); refine blk_far ?_ NB113_112.out _; (with_reducible repeat (first | refine blk_drewN ?_ _ | refine blk_drew ?_ | refine blk_alloc ?_ _)); refine blk_far ?_ NB113_112.out _; (with_reducible repeat (first | refine blk_drewN ?_ _ | refine blk_drew ?_ | refine blk_alloc ?_ _)); exact BK113.out) hb); have n4_ := Aside0.mk (below_step (by repeat (first | (with_reducible first | exact HB.out | apply below_alloc | apply pw_below_drewN | apply below_drew1 | refine below_set ?_ GE112.out | refine below_set ?_ GE113.out) | exact HB.out)) hb); clear HO106; clear HO109; clear BK112; clear BK113; clear HB; have HO106 := n0_; have HO109 := n1_; have BK112 := n2_; have BK113 := n3_; have HB := n4_; clear n0_ n1_ n2_ n3_ n4_; (try clear hb); (try clear hb2); (try clear hk); (try clear hi); have hcz16_0 : w15.cell? ⟨gb113, 0, none⟩ = some (.int .i64 t110) := (blk_cell BK113.out 0).trans rfl; have hcz16_1 : w15.cell? ⟨gb113, 1, none⟩ = some (.int .i64 t111) := (blk_cell BK113.out 1).trans rfl; have hfz16_0 := blk_frozen BK113.out 0; have hfz16_1 := blk_frozen BK113.out 1; have hcz17_0 : w15.cell? ⟨gb112, 0, none⟩ = some (.int .i64 t101) := (blk_cell BK112.out 0).trans rfl; have hcz17_1 : w15.cell? ⟨gb112, 1, none⟩ = some (.int .i64 t102) := (blk_cell BK112.out 1).trans rfl; have hcz17_2 : w15.cell? ⟨gb112, 2, none⟩ = some (.string t103) := (blk_cell BK112.out 2).trans rfl; have hcz17_3 : w15.cell? ⟨gb112, 3, none⟩ = some (.slice Ao12 t104.length co12) := (blk_cell BK112.out 3).trans rfl; have hcz17_4 : w15.cell? ⟨gb112, 4, none⟩ = some (.slice Ao13 t107.length co13) := (blk_cell BK112.out 4).trans rfl; have hfz17_0 := blk_frozen BK112.out 0; have hfz17_1 := blk_frozen BK112.out 1; have hfz17_2 := blk_frozen BK112.out 2; have hfz17_3 := blk_frozen BK112.out 3; have hfz17_4 := blk_frozen BK112.out 4))
          go_ret
          exact ⟨by first | rfl | (simp [errW_none, errW_some] <;> rfl) | (simp [*, errW_none, errW_some] <;> rfl), by repeat (first | (with_reducible first | exact HB.out | apply below_alloc | apply pw_below_drewN | apply below_drew1 | refine below_set ?_ GE112.out | refine below_set ?_ GE113.out) | exact HB.out)⟩
        · rw [if_neg c6] at H
          have c6b0 : (t115 == 0) = false := beq_eq_false_iff_ne.mpr c6
          have c6b1 : (t115 != 0) = true := bne_iff_ne.mpr c6
          obtain rfl := Option.some.inj H
          go_enter Tryz.func7, Tryz.ntmps7
          go_wp2_with (first | ((with_reducible refine gate_callee (f := 8) rfl ?_); refine goesL_ (some 6) rfl rfl Tryz.func8 (by kernel_rfl) rfl #[.string (⟨#[91, 49, 44, 32, 110, 117, 108, 108, 93]⟩ : ByteArray)] rfl (by (try simp only [List.map_toArray, List.map_cons, List.map_nil]); first | done | rfl | (simp only [List.length_drop, List.length_take]; rfl)) ?_; (with_reducible refine (tree_Parse.calls k (⟨#[91, 49, 44, 32, 110, 117, 108, 108, 93]⟩ : ByteArray) t101 t102 t103 t104 t107 t110 t111 _ A1.out (HTAB.out.below (by repeat (first | (with_reducible first | exact HB.out | apply below_alloc | apply pw_below_drewN | apply below_drew1 | refine below_set ?_ (by assumption) | refine below_set ?_ (Aside0.out (by assumption))) | exact HB.out)))).mono ?_); rintro e w18 ⟨v105, v108, rfl, ho0, ho1, hb⟩; refine ⟨_, rfl, ?_⟩; have n0_ := Aside0.mk (Kd.R_lower ho0 (below_size (by repeat (first | (with_reducible first | exact HB.out | apply below_alloc | apply pw_below_drewN | apply below_drew1) | exact HB.out)))); have n1_ := Aside0.mk (Kd.R_lower ho1 (below_size (by repeat (first | (with_reducible first | exact HB.out | apply below_alloc | apply pw_below_drewN | apply below_drew1) | exact HB.out)))); have n2_ := Aside0.mk (below_step (by repeat (first | (with_reducible first | exact HB.out | apply below_alloc | apply pw_below_drewN | apply below_drew1) | exact HB.out)) hb); clear HB; have HO106 := n0_; have HO109 := n1_; have HB := n2_; clear n0_ n1_ n2_; (try clear hb); (try clear hb2); (try clear hk); (try clear hi); (try clear ho0); (try clear ho1)) | ((with_reducible refine gate_dst (N := 1) rfl ?_); (try (refine gate_guard (by rfl) ?_; dsimp only)); refine box_event ?hg (N := 1) ?hd (cs := #[.int .i64 0, .int .i64 0, .string (⟨#[]⟩ : ByteArray), .slice none 0 0, .slice none 0 0]) (t := 26) ?hr ?_; (case hd => rfl); (case hg => rfl); (case hr => first | (go_simp; done) | (go_simp; rfl)); intro gb112 hg w19 hbox hb; have n0_ := Aside0.mk (Kd.R_below (Kd.R_elderB (by (with_reducible repeat (first | apply Kd.R_alloc | apply Kd.R_drewN | apply Kd.R_drew)); exact HO106.out) gb112 (Nat.le_of_eq hg.symm)) hb); have n1_ := Aside0.mk (Kd.R_below (by (with_reducible repeat (first | apply Kd.R_alloc | apply Kd.R_drewN | apply Kd.R_drew)); exact HO109.out) hb); have n2_ := Aside0.mk (below_step (by repeat (first | (with_reducible first | exact HB.out | apply below_alloc | apply pw_below_drewN | apply below_drew1) | exact HB.out)) hb); have n3_ := Aside0.mk (hbox); have n4_ := Aside0.mk ((by rw [hg]; exact (below_size (by repeat (first | (with_reducible first | exact HB.out | apply below_alloc | apply pw_below_drewN | apply below_drew1) | exact HB.out))) : w.heap.size ≤ gb112)); have n5_ := Aside0.mk ((by rw [hg]; exact (below_size (by repeat (first | (with_reducible first | exact HB.out | apply below_alloc | apply pw_below_drewN | apply below_drew1) | exact HB.out))) : w.heap.size ≤ gb112)); clear HO106; clear HO109; clear HB; have HO106 := n0_; have HO109 := n1_; have HB := n2_; have BK112 := n3_; have GW112 := n4_; have GE112 := n5_; clear n0_ n1_ n2_ n3_ n4_ n5_; clear hb hbox hg) | ((with_reducible refine gate_dst (N := 2) rfl ?_); (try (refine gate_guard (by rfl) ?_; dsimp only)); refine box_event ?hg (N := 2) ?hd (cs := #[.int .i64 0, .int .i64 0]) (t := 29) ?hr ?_; (case hd => rfl); (case hg => rfl); (case hr => first | (go_simp; done) | (go_simp; rfl)); intro gb113 hg w20 hbox hb; have n0_ := Aside0.mk (Kd.R_below (by (with_reducible repeat (first | apply Kd.R_alloc | apply Kd.R_drewN | apply Kd.R_drew)); exact HO106.out) hb); have n1_ := Aside0.mk (Kd.R_below (by (with_reducible repeat (first | apply Kd.R_alloc | apply Kd.R_drewN | apply Kd.R_drew)); exact HO109.out) hb); have n2_ := Aside0.mk (blk_below (g := gb112) (o := .cells #[.int .i64 0, .int .i64 0, .string (⟨#[]⟩ : ByteArray), .slice none 0 0, .slice none 0 0] 26 (0, 0)) (by (with_reducible repeat (first | refine blk_drewN ?_ _ | refine blk_drew ?_ | refine blk_alloc ?_ _)); exact BK112.out) hb); have n3_ := Aside0.mk (below_step (by repeat (first | (with_reducible first | exact HB.out | apply below_alloc | apply pw_below_drewN | apply below_drew1 | refine below_set ?_ GE112.out) | exact HB.out)) hb); have n4_ := Aside0.mk (hbox); have n5_ := Aside0.mk ((by rw [hg]; exact (below_size (by repeat (first | (with_reducible first | exact HB.out | apply below_alloc | apply pw_below_drewN | apply below_drew1 | refine below_set ?_ GE112.out) | exact HB.out))) : w.heap.size ≤ gb113)); have n6_ := Aside0.mk ((by rw [hg]; exact (below_size (by repeat (first | (with_reducible first | exact HB.out | apply below_alloc | apply pw_below_drewN | apply below_drew1 | refine below_set ?_ GE112.out) | exact HB.out))) : w.heap.size ≤ gb113)); have n7_ := Aside0.mk ((by rw [hg]; exact Nat.ne_of_lt (blk_lt (g := gb112) (o := .cells #[.int .i64 0, .int .i64 0, .string (⟨#[]⟩ : ByteArray), .slice none 0 0, .slice none 0 0] 26 (0, 0)) (by (with_reducible repeat (first | refine blk_drewN ?_ _ | refine blk_drew ?_ | refine blk_alloc ?_ _)); exact BK112.out)) : gb112 ≠ gb113)); have n8_ := Aside0.mk ((by rw [hg]; exact Nat.ne_of_gt (blk_lt (g := gb112) (o := .cells #[.int .i64 0, .int .i64 0, .string (⟨#[]⟩ : ByteArray), .slice none 0 0, .slice none 0 0] 26 (0, 0)) (by (with_reducible repeat (first | refine blk_drewN ?_ _ | refine blk_drew ?_ | refine blk_alloc ?_ _)); exact BK112.out)) : gb113 ≠ gb112)); clear HO106; clear HO109; clear BK112; clear HB; have HO106 := n0_; have HO109 := n1_; have BK112 := n2_; have HB := n3_; have BK113 := n4_; have GW113 := n5_; have GE113 := n6_; have NB112_113 := n7_; have NB113_112 := n8_; clear n0_ n1_ n2_ n3_ n4_ n5_ n6_ n7_ n8_; clear hb hbox hg; have hnb21 := NB112_113.out; have hnc21 := NB113_112.out; have hcz22_0 : w20.cell? ⟨gb112, 0, none⟩ = some (.int .i64 0) := (blk_cell BK112.out 0).trans rfl; have hcz22_1 : w20.cell? ⟨gb112, 1, none⟩ = some (.int .i64 0) := (blk_cell BK112.out 1).trans rfl; have hcz22_2 : w20.cell? ⟨gb112, 2, none⟩ = some (.string (⟨#[]⟩ : ByteArray)) := (blk_cell BK112.out 2).trans rfl; have hcz22_3 : w20.cell? ⟨gb112, 3, none⟩ = some (.slice none 0 0) := (blk_cell BK112.out 3).trans rfl; have hcz22_4 : w20.cell? ⟨gb112, 4, none⟩ = some (.slice none 0 0) := (blk_cell BK112.out 4).trans rfl; have hfz22_0 := blk_frozen BK112.out 0; have hfz22_1 := blk_frozen BK112.out 1; have hfz22_2 := blk_frozen BK112.out 2; have hfz22_3 := blk_frozen BK112.out 3; have hfz22_4 := blk_frozen BK112.out 4; obtain ⟨Ao23, co23, eo23⟩ := Kd.R_slice HO106.out; subst eo23; obtain ⟨Ao24, co24, eo24⟩ := Kd.R_slice HO109.out; subst eo24; have hcz25_0 : w20.cell? ⟨gb113, 0, none⟩ = some (.int .i64 0) := (blk_cell BK113.out 0).trans rfl; have hcz25_1 : w20.cell? ⟨gb113, 1, none⟩ = some (.int .i64 0) := (blk_cell BK113.out 1).trans rfl; have hfz25_0 := blk_frozen BK113.out 0; have hfz25_1 := blk_frozen BK113.out 1) | ((with_reducible refine gate_callee (f := 12) rfl ?_); refine goesL_ (some 11) rfl rfl Tryz.func12 (by kernel_rfl) rfl #[.agg #[.int .i64 t101, .int .i64 t102, .string t103, .slice Ao23 t104.length co23, .slice Ao24 t107.length co24]] rfl (by (try simp only [List.map_toArray, List.map_cons, List.map_nil]); first | done | rfl | (simp only [List.length_drop, List.length_take]; rfl)) ?_; (with_reducible refine (tree_Print.calls k t101 t102 t103 _ _ t104 _ _ t107 t114 t115 _ ?side1 ?side2 ?side3 ?side4 A2.out (HTAB.out.below (by repeat (first | (with_reducible first | exact HB.out | apply below_alloc | apply pw_below_drewN | apply below_drew1 | refine below_set ?_ (by assumption) | refine below_set ?_ (Aside0.out (by assumption))) | exact HB.out)))).mono ?_); (case side1 => refine (Kd.R_reads' (e := 26) (base := w.heap.size) (ok := fun k_ => (True ∧ k_ ≠ gb112)) (n := t104.length) (c := co23) ?_).2.2; exact (by (with_reducible repeat (first | apply Kd.R_alloc | apply Kd.R_drewN | apply Kd.R_drew)); exact (Kd.R_mono (Kd.R_mono (Kd.R_far (p := ⟨gb113, 1, none⟩) (Kd.R_far (p := ⟨gb113, 0, none⟩) (Kd.R_far (p := ⟨gb112, 4, none⟩) (Kd.R_far (p := ⟨gb112, 3, none⟩) (Kd.R_far (p := ⟨gb112, 2, none⟩) (Kd.R_far (p := ⟨gb112, 1, none⟩) (Kd.R_far (p := ⟨gb112, 0, none⟩) (Kd.R_types (Kd.R_mono HO106.out (fun k_ hk => (⟨hk, hk.2⟩ : _ ∧ k_ ≠ gb112))) BK113.out (by decide)) (fun _ hk => hk.1.2) (.int .i64 t101)) (fun _ hk => hk.1.2) (.int .i64 t102)) (fun _ hk => hk.1.2) (.string t103)) (fun _ hk => hk.1.2) (.slice Ao23 t104.length co23)) (fun _ hk => hk.1.2) (.slice Ao24 t107.length co24)) (fun _ hk => hk.2) (.int .i64 t110)) (fun _ hk => hk.2) (.int .i64 t111)) (fun _ h_ => h_.1)) (fun _ h_ => h_.1)))); (case side2 => exact (Kd.R_reads' HO106.out).2.1); (case side3 => refine (Kd.R_reads' (e := 9) (base := w.heap.size) (ok := fun k_ => True) (n := t107.length) (c := co24) ?_).2.2; exact (by (with_reducible repeat (first | apply Kd.R_alloc | apply Kd.R_drewN | apply Kd.R_drew)); exact (Kd.R_mono (Kd.R_mono (Kd.R_far (p := ⟨gb113, 1, none⟩) (Kd.R_far (p := ⟨gb113, 0, none⟩) (Kd.R_far (p := ⟨gb112, 4, none⟩) (Kd.R_far (p := ⟨gb112, 3, none⟩) (Kd.R_far (p := ⟨gb112, 2, none⟩) (Kd.R_far (p := ⟨gb112, 1, none⟩) (Kd.R_far (p := ⟨gb112, 0, none⟩) (Kd.R_types (Kd.R_types HO109.out BK112.out (by decide)) BK113.out (by decide)) (fun _ hk => hk.1.2) (.int .i64 t101)) (fun _ hk => hk.1.2) (.int .i64 t102)) (fun _ hk => hk.1.2) (.string t103)) (fun _ hk => hk.1.2) (.slice Ao23 t104.length co23)) (fun _ hk => hk.1.2) (.slice Ao24 t107.length co24)) (fun _ hk => hk.2) (.int .i64 t110)) (fun _ hk => hk.2) (.int .i64 t111)) (fun _ h_ => h_.1)) (fun _ h_ => h_.1)))); (case side4 => exact (Kd.R_reads' HO109.out).2.1); rintro e w26 ⟨rfl, hb⟩; refine ⟨_, rfl, ?_⟩; have n0_ := Aside0.mk (Kd.R_below (by (with_reducible repeat (first | apply Kd.R_alloc | apply Kd.R_drewN | apply Kd.R_drew)); exact (Kd.R_mono (Kd.R_mono (Kd.R_far (p := ⟨gb113, 1, none⟩) (Kd.R_far (p := ⟨gb113, 0, none⟩) (Kd.R_far (p := ⟨gb112, 4, none⟩) (Kd.R_far (p := ⟨gb112, 3, none⟩) (Kd.R_far (p := ⟨gb112, 2, none⟩) (Kd.R_far (p := ⟨gb112, 1, none⟩) (Kd.R_far (p := ⟨gb112, 0, none⟩) (Kd.R_types (Kd.R_mono HO106.out (fun k_ hk => (⟨hk, hk.2⟩ : _ ∧ k_ ≠ gb112))) BK113.out (by decide)) (fun _ hk => hk.1.2) (.int .i64 t101)) (fun _ hk => hk.1.2) (.int .i64 t102)) (fun _ hk => hk.1.2) (.string t103)) (fun _ hk => hk.1.2) (.slice Ao23 t104.length co23)) (fun _ hk => hk.1.2) (.slice Ao24 t107.length co24)) (fun _ hk => hk.2) (.int .i64 t110)) (fun _ hk => hk.2) (.int .i64 t111)) (fun _ h_ => h_.1)) (fun _ h_ => h_.1))) hb); have n1_ := Aside0.mk (Kd.R_below (by (with_reducible repeat (first | apply Kd.R_alloc | apply Kd.R_drewN | apply Kd.R_drew)); exact (Kd.R_mono (Kd.R_mono (Kd.R_far (p := ⟨gb113, 1, none⟩) (Kd.R_far (p := ⟨gb113, 0, none⟩) (Kd.R_far (p := ⟨gb112, 4, none⟩) (Kd.R_far (p := ⟨gb112, 3, none⟩) (Kd.R_far (p := ⟨gb112, 2, none⟩) (Kd.R_far (p := ⟨gb112, 1, none⟩) (Kd.R_far (p := ⟨gb112, 0, none⟩) (Kd.R_types (Kd.R_types HO109.out BK112.out (by decide)) BK113.out (by decide)) (fun _ hk => hk.1.2) (.int .i64 t101)) (fun _ hk => hk.1.2) (.int .i64 t102)) (fun _ hk => hk.1.2) (.string t103)) (fun _ hk => hk.1.2) (.slice Ao23 t104.length co23)) (fun _ hk => hk.1.2) (.slice Ao24 t107.length co24)) (fun _ hk => hk.2) (.int .i64 t110)) (fun _ hk => hk.2) (.int .i64 t111)) (fun _ h_ => h_.1)) (fun _ h_ => h_.1))) hb); have n2_ := Aside0.mk (blk_below (g := gb112) (o := .cells #[.int .i64 t101, .int .i64 t102, .string t103, .slice Ao23 t104.length co23, .slice Ao24 t107.length co24] 26 (0, 0)) (by (with_reducible repeat (first | refine blk_drewN ?_ _ | refine blk_drew ?_ | refine blk_alloc ?_ _)); refine blk_far ?_ NB112_113.out _; (with_reducible repeat (first | refine blk_drewN ?_ _ | refine blk_drew ?_ | refine blk_alloc ?_ _)); refine blk_far ?_ NB112_113.out _; (with_reducible repeat (first | refine blk_drewN ?_ _ | refine blk_drew ?_ | refine blk_alloc ?_ _)); refine blk_put (cs := #[.int .i64 t101, .int .i64 t102, .string t103, .slice Ao23 t104.length co23, .slice none 0 0]) ?_ 4 _ rfl; (with_reducible repeat (first | refine blk_drewN ?_ _ | refine blk_drew ?_ | refine blk_alloc ?_ _)); refine blk_put (cs := #[.int .i64 t101, .int .i64 t102, .string t103, .slice none 0 0, .slice none 0 0]) ?_ 3 _ rfl; (with_reducible repeat (first | refine blk_drewN ?_ _ | refine blk_drew ?_ | refine blk_alloc ?_ _)); refine blk_put (cs := #[.int .i64 t101, .int .i64 t102, .string (⟨#[]⟩ : ByteArray), .slice none 0 0, .slice none 0 0]) ?_ 2 _ rfl; (with_reducible repeat (first | refine blk_drewN ?_ _ | refine blk_drew ?_ | refine blk_alloc ?_ _)); refine blk_put (cs := #[.int .i64 t101, .int .i64 0, .string (⟨#[]⟩ : ByteArray), .slice none 0 0, .slice none 0 0]) ?_ 1 _ rfl; (with_reducible repeat (first | refine blk_drewN ?_ _ | refine blk_drew ?_ | refine blk_alloc ?_ _)); refine blk_put (cs := #[.int .i64 0, .int .i64 0, .string (⟨#[]⟩ : ByteArray), .slice none 0 0, .slice none 0 0]) ?_ 0 _ rfl; (with_reducible repeat (first | refine blk_drewN ?_ _ | refine blk_drew ?_ | refine blk_alloc ?_ _)); exact BK112.out) hb); have n3_ := Aside0.mk (blk_below (g := gb113) (o := .cells #[.int .i64 t110, .int .i64 t111] 29 (0, 0)) (by (with_reducible repeat (first | refine blk_drewN ?_ _ | refine blk_drew ?_ | refine blk_alloc ?_ _)); refine blk_put (cs := #[.int .i64 t110, .int .i64 0]) ?_ 1 _ rfl; (with_reducible repeat (first | refine blk_drewN ?_ _ | refine blk_drew ?_ | refine blk_alloc ?_ _)); refine blk_put (cs := #[.int .i64 0, .int .i64 0]) ?_ 0 _ rfl; (with_reducible repeat (first | refine blk_drewN ?_ _ | refine blk_drew ?_ | refine blk_alloc ?_ _)); refine blk_far ?_ NB113_112.out _; (with_reducible repeat (first | refine blk_drewN ?_ _ | refine blk_drew ?_ | refine blk_alloc ?_ _)); refine blk_far ?_ NB113_112.out _; (with_reducible repeat (first | refine blk_drewN ?_ _ | refine blk_drew ?_ | refine blk_alloc ?_ _)); refine blk_far ?_ NB113_112.out _; (with_reducible repeat (first | refine blk_drewN ?_ _ | refine blk_drew ?_ | refine blk_alloc ?_ _)); refine blk_far ?_ NB113_112.out _; (with_reducible repeat (first | refine blk_drewN ?_ _ | refine blk_drew ?_ | refine blk_alloc ?_ _)); refine blk_far ?_ NB113_112.out _; (with_reducible repeat (first | refine blk_drewN ?_ _ | refine blk_drew ?_ | refine blk_alloc ?_ _)); exact BK113.out) hb); have n4_ := Aside0.mk (below_step (by repeat (first | (with_reducible first | exact HB.out | apply below_alloc | apply pw_below_drewN | apply below_drew1 | refine below_set ?_ GE112.out | refine below_set ?_ GE113.out) | exact HB.out)) hb); clear HO106; clear HO109; clear BK112; clear BK113; clear HB; have HO106 := n0_; have HO109 := n1_; have BK112 := n2_; have BK113 := n3_; have HB := n4_; clear n0_ n1_ n2_ n3_ n4_; (try clear hb); (try clear hb2); (try clear hk); (try clear hi); have hcz27_0 : w26.cell? ⟨gb113, 0, none⟩ = some (.int .i64 t110) := (blk_cell BK113.out 0).trans rfl; have hcz27_1 : w26.cell? ⟨gb113, 1, none⟩ = some (.int .i64 t111) := (blk_cell BK113.out 1).trans rfl; have hfz27_0 := blk_frozen BK113.out 0; have hfz27_1 := blk_frozen BK113.out 1; have hcz28_0 : w26.cell? ⟨gb112, 0, none⟩ = some (.int .i64 t101) := (blk_cell BK112.out 0).trans rfl; have hcz28_1 : w26.cell? ⟨gb112, 1, none⟩ = some (.int .i64 t102) := (blk_cell BK112.out 1).trans rfl; have hcz28_2 : w26.cell? ⟨gb112, 2, none⟩ = some (.string t103) := (blk_cell BK112.out 2).trans rfl; have hcz28_3 : w26.cell? ⟨gb112, 3, none⟩ = some (.slice Ao23 t104.length co23) := (blk_cell BK112.out 3).trans rfl; have hcz28_4 : w26.cell? ⟨gb112, 4, none⟩ = some (.slice Ao24 t107.length co24) := (blk_cell BK112.out 4).trans rfl; have hfz28_0 := blk_frozen BK112.out 0; have hfz28_1 := blk_frozen BK112.out 1; have hfz28_2 := blk_frozen BK112.out 2; have hfz28_3 := blk_frozen BK112.out 3; have hfz28_4 := blk_frozen BK112.out 4))
          go_ret
          exact ⟨by first | rfl | (simp [errW_none, errW_some] <;> rfl) | (simp [*, errW_none, errW_some] <;> rfl), by repeat (first | (with_reducible first | exact HB.out | apply below_alloc | apply pw_below_drewN | apply below_drew1 | refine below_set ?_ GE112.out | refine below_set ?_ GE113.out) | exact HB.out)⟩
      · rw [if_neg c5] at H
        have c5b0 : ((t104.length : Int) == 2) = false := beq_eq_false_iff_ne.mpr c5
        have c5b1 : ((t104.length : Int) != 2) = true := bne_iff_ne.mpr c5
        obtain rfl := Option.some.inj H
        go_enter Tryz.func7, Tryz.ntmps7
        go_wp2_with (first | ((with_reducible refine gate_callee (f := 8) rfl ?_); refine goesL_ (some 6) rfl rfl Tryz.func8 (by kernel_rfl) rfl #[.string (⟨#[91, 49, 44, 32, 110, 117, 108, 108, 93]⟩ : ByteArray)] rfl (by (try simp only [List.map_toArray, List.map_cons, List.map_nil]); first | done | rfl | (simp only [List.length_drop, List.length_take]; rfl)) ?_; (with_reducible refine (tree_Parse.calls k (⟨#[91, 49, 44, 32, 110, 117, 108, 108, 93]⟩ : ByteArray) t101 t102 t103 t104 t107 t110 t111 _ A1.out (HTAB.out.below (by repeat (first | (with_reducible first | exact HB.out | apply below_alloc | apply pw_below_drewN | apply below_drew1 | refine below_set ?_ (by assumption) | refine below_set ?_ (Aside0.out (by assumption))) | exact HB.out)))).mono ?_); rintro e w29 ⟨v105, v108, rfl, ho0, ho1, hb⟩; refine ⟨_, rfl, ?_⟩; have n0_ := Aside0.mk (Kd.R_lower ho0 (below_size (by repeat (first | (with_reducible first | exact HB.out | apply below_alloc | apply pw_below_drewN | apply below_drew1) | exact HB.out)))); have n1_ := Aside0.mk (Kd.R_lower ho1 (below_size (by repeat (first | (with_reducible first | exact HB.out | apply below_alloc | apply pw_below_drewN | apply below_drew1) | exact HB.out)))); have n2_ := Aside0.mk (below_step (by repeat (first | (with_reducible first | exact HB.out | apply below_alloc | apply pw_below_drewN | apply below_drew1) | exact HB.out)) hb); clear HB; have HO106 := n0_; have HO109 := n1_; have HB := n2_; clear n0_ n1_ n2_; (try clear hb); (try clear hb2); (try clear hk); (try clear hi); (try clear ho0); (try clear ho1)) | ((with_reducible refine gate_dst (N := 1) rfl ?_); (try (refine gate_guard (by rfl) ?_; dsimp only)); refine box_event ?hg (N := 1) ?hd (cs := #[.int .i64 0, .int .i64 0, .string (⟨#[]⟩ : ByteArray), .slice none 0 0, .slice none 0 0]) (t := 26) ?hr ?_; (case hd => rfl); (case hg => rfl); (case hr => first | (go_simp; done) | (go_simp; rfl)); intro gb112 hg w30 hbox hb; have n0_ := Aside0.mk (Kd.R_below (Kd.R_elderB (by (with_reducible repeat (first | apply Kd.R_alloc | apply Kd.R_drewN | apply Kd.R_drew)); exact HO106.out) gb112 (Nat.le_of_eq hg.symm)) hb); have n1_ := Aside0.mk (Kd.R_below (by (with_reducible repeat (first | apply Kd.R_alloc | apply Kd.R_drewN | apply Kd.R_drew)); exact HO109.out) hb); have n2_ := Aside0.mk (below_step (by repeat (first | (with_reducible first | exact HB.out | apply below_alloc | apply pw_below_drewN | apply below_drew1) | exact HB.out)) hb); have n3_ := Aside0.mk (hbox); have n4_ := Aside0.mk ((by rw [hg]; exact (below_size (by repeat (first | (with_reducible first | exact HB.out | apply below_alloc | apply pw_below_drewN | apply below_drew1) | exact HB.out))) : w.heap.size ≤ gb112)); have n5_ := Aside0.mk ((by rw [hg]; exact (below_size (by repeat (first | (with_reducible first | exact HB.out | apply below_alloc | apply pw_below_drewN | apply below_drew1) | exact HB.out))) : w.heap.size ≤ gb112)); clear HO106; clear HO109; clear HB; have HO106 := n0_; have HO109 := n1_; have HB := n2_; have BK112 := n3_; have GW112 := n4_; have GE112 := n5_; clear n0_ n1_ n2_ n3_ n4_ n5_; clear hb hbox hg) | ((with_reducible refine gate_dst (N := 2) rfl ?_); (try (refine gate_guard (by rfl) ?_; dsimp only)); refine box_event ?hg (N := 2) ?hd (cs := #[.int .i64 0, .int .i64 0]) (t := 29) ?hr ?_; (case hd => rfl); (case hg => rfl); (case hr => first | (go_simp; done) | (go_simp; rfl)); intro gb113 hg w31 hbox hb; have n0_ := Aside0.mk (Kd.R_below (by (with_reducible repeat (first | apply Kd.R_alloc | apply Kd.R_drewN | apply Kd.R_drew)); exact HO106.out) hb); have n1_ := Aside0.mk (Kd.R_below (by (with_reducible repeat (first | apply Kd.R_alloc | apply Kd.R_drewN | apply Kd.R_drew)); exact HO109.out) hb); have n2_ := Aside0.mk (blk_below (g := gb112) (o := .cells #[.int .i64 0, .int .i64 0, .string (⟨#[]⟩ : ByteArray), .slice none 0 0, .slice none 0 0] 26 (0, 0)) (by (with_reducible repeat (first | refine blk_drewN ?_ _ | refine blk_drew ?_ | refine blk_alloc ?_ _)); exact BK112.out) hb); have n3_ := Aside0.mk (below_step (by repeat (first | (with_reducible first | exact HB.out | apply below_alloc | apply pw_below_drewN | apply below_drew1 | refine below_set ?_ GE112.out) | exact HB.out)) hb); have n4_ := Aside0.mk (hbox); have n5_ := Aside0.mk ((by rw [hg]; exact (below_size (by repeat (first | (with_reducible first | exact HB.out | apply below_alloc | apply pw_below_drewN | apply below_drew1 | refine below_set ?_ GE112.out) | exact HB.out))) : w.heap.size ≤ gb113)); have n6_ := Aside0.mk ((by rw [hg]; exact (below_size (by repeat (first | (with_reducible first | exact HB.out | apply below_alloc | apply pw_below_drewN | apply below_drew1 | refine below_set ?_ GE112.out) | exact HB.out))) : w.heap.size ≤ gb113)); have n7_ := Aside0.mk ((by rw [hg]; exact Nat.ne_of_lt (blk_lt (g := gb112) (o := .cells #[.int .i64 0, .int .i64 0, .string (⟨#[]⟩ : ByteArray), .slice none 0 0, .slice none 0 0] 26 (0, 0)) (by (with_reducible repeat (first | refine blk_drewN ?_ _ | refine blk_drew ?_ | refine blk_alloc ?_ _)); exact BK112.out)) : gb112 ≠ gb113)); have n8_ := Aside0.mk ((by rw [hg]; exact Nat.ne_of_gt (blk_lt (g := gb112) (o := .cells #[.int .i64 0, .int .i64 0, .string (⟨#[]⟩ : ByteArray), .slice none 0 0, .slice none 0 0] 26 (0, 0)) (by (with_reducible repeat (first | refine blk_drewN ?_ _ | refine blk_drew ?_ | refine blk_alloc ?_ _)); exact BK112.out)) : gb113 ≠ gb112)); clear HO106; clear HO109; clear BK112; clear HB; have HO106 := n0_; have HO109 := n1_; have BK112 := n2_; have HB := n3_; have BK113 := n4_; have GW113 := n5_; have GE113 := n6_; have NB112_113 := n7_; have NB113_112 := n8_; clear n0_ n1_ n2_ n3_ n4_ n5_ n6_ n7_ n8_; clear hb hbox hg; have hnb32 := NB112_113.out; have hnc32 := NB113_112.out; have hcz33_0 : w31.cell? ⟨gb112, 0, none⟩ = some (.int .i64 0) := (blk_cell BK112.out 0).trans rfl; have hcz33_1 : w31.cell? ⟨gb112, 1, none⟩ = some (.int .i64 0) := (blk_cell BK112.out 1).trans rfl; have hcz33_2 : w31.cell? ⟨gb112, 2, none⟩ = some (.string (⟨#[]⟩ : ByteArray)) := (blk_cell BK112.out 2).trans rfl; have hcz33_3 : w31.cell? ⟨gb112, 3, none⟩ = some (.slice none 0 0) := (blk_cell BK112.out 3).trans rfl; have hcz33_4 : w31.cell? ⟨gb112, 4, none⟩ = some (.slice none 0 0) := (blk_cell BK112.out 4).trans rfl; have hfz33_0 := blk_frozen BK112.out 0; have hfz33_1 := blk_frozen BK112.out 1; have hfz33_2 := blk_frozen BK112.out 2; have hfz33_3 := blk_frozen BK112.out 3; have hfz33_4 := blk_frozen BK112.out 4; obtain ⟨Ao34, co34, eo34⟩ := Kd.R_slice HO106.out; subst eo34; obtain ⟨Ao35, co35, eo35⟩ := Kd.R_slice HO109.out; subst eo35; have hcz36_0 : w31.cell? ⟨gb113, 0, none⟩ = some (.int .i64 0) := (blk_cell BK113.out 0).trans rfl; have hcz36_1 : w31.cell? ⟨gb113, 1, none⟩ = some (.int .i64 0) := (blk_cell BK113.out 1).trans rfl; have hfz36_0 := blk_frozen BK113.out 0; have hfz36_1 := blk_frozen BK113.out 1) | ((with_reducible refine gate_callee (f := 12) rfl ?_); refine goesL_ (some 11) rfl rfl Tryz.func12 (by kernel_rfl) rfl #[.agg #[.int .i64 t101, .int .i64 t102, .string t103, .slice Ao34 t104.length co34, .slice Ao35 t107.length co35]] rfl (by (try simp only [List.map_toArray, List.map_cons, List.map_nil]); first | done | rfl | (simp only [List.length_drop, List.length_take]; rfl)) ?_; (with_reducible refine (tree_Print.calls k t101 t102 t103 _ _ t104 _ _ t107 t114 t115 _ ?side1 ?side2 ?side3 ?side4 A2.out (HTAB.out.below (by repeat (first | (with_reducible first | exact HB.out | apply below_alloc | apply pw_below_drewN | apply below_drew1 | refine below_set ?_ (by assumption) | refine below_set ?_ (Aside0.out (by assumption))) | exact HB.out)))).mono ?_); (case side1 => refine (Kd.R_reads' (e := 26) (base := w.heap.size) (ok := fun k_ => (True ∧ k_ ≠ gb112)) (n := t104.length) (c := co34) ?_).2.2; exact (by (with_reducible repeat (first | apply Kd.R_alloc | apply Kd.R_drewN | apply Kd.R_drew)); exact (Kd.R_mono (Kd.R_mono (Kd.R_far (p := ⟨gb113, 1, none⟩) (Kd.R_far (p := ⟨gb113, 0, none⟩) (Kd.R_far (p := ⟨gb112, 4, none⟩) (Kd.R_far (p := ⟨gb112, 3, none⟩) (Kd.R_far (p := ⟨gb112, 2, none⟩) (Kd.R_far (p := ⟨gb112, 1, none⟩) (Kd.R_far (p := ⟨gb112, 0, none⟩) (Kd.R_types (Kd.R_mono HO106.out (fun k_ hk => (⟨hk, hk.2⟩ : _ ∧ k_ ≠ gb112))) BK113.out (by decide)) (fun _ hk => hk.1.2) (.int .i64 t101)) (fun _ hk => hk.1.2) (.int .i64 t102)) (fun _ hk => hk.1.2) (.string t103)) (fun _ hk => hk.1.2) (.slice Ao34 t104.length co34)) (fun _ hk => hk.1.2) (.slice Ao35 t107.length co35)) (fun _ hk => hk.2) (.int .i64 t110)) (fun _ hk => hk.2) (.int .i64 t111)) (fun _ h_ => h_.1)) (fun _ h_ => h_.1)))); (case side2 => exact (Kd.R_reads' HO106.out).2.1); (case side3 => refine (Kd.R_reads' (e := 9) (base := w.heap.size) (ok := fun k_ => True) (n := t107.length) (c := co35) ?_).2.2; exact (by (with_reducible repeat (first | apply Kd.R_alloc | apply Kd.R_drewN | apply Kd.R_drew)); exact (Kd.R_mono (Kd.R_mono (Kd.R_far (p := ⟨gb113, 1, none⟩) (Kd.R_far (p := ⟨gb113, 0, none⟩) (Kd.R_far (p := ⟨gb112, 4, none⟩) (Kd.R_far (p := ⟨gb112, 3, none⟩) (Kd.R_far (p := ⟨gb112, 2, none⟩) (Kd.R_far (p := ⟨gb112, 1, none⟩) (Kd.R_far (p := ⟨gb112, 0, none⟩) (Kd.R_types (Kd.R_types HO109.out BK112.out (by decide)) BK113.out (by decide)) (fun _ hk => hk.1.2) (.int .i64 t101)) (fun _ hk => hk.1.2) (.int .i64 t102)) (fun _ hk => hk.1.2) (.string t103)) (fun _ hk => hk.1.2) (.slice Ao34 t104.length co34)) (fun _ hk => hk.1.2) (.slice Ao35 t107.length co35)) (fun _ hk => hk.2) (.int .i64 t110)) (fun _ hk => hk.2) (.int .i64 t111)) (fun _ h_ => h_.1)) (fun _ h_ => h_.1)))); (case side4 => exact (Kd.R_reads' HO109.out).2.1); rintro e w37 ⟨rfl, hb⟩; refine ⟨_, rfl, ?_⟩; have n0_ := Aside0.mk (Kd.R_below (by (with_reducible repeat (first | apply Kd.R_alloc | apply Kd.R_drewN | apply Kd.R_drew)); exact (Kd.R_mono (Kd.R_mono (Kd.R_far (p := ⟨gb113, 1, none⟩) (Kd.R_far (p := ⟨gb113, 0, none⟩) (Kd.R_far (p := ⟨gb112, 4, none⟩) (Kd.R_far (p := ⟨gb112, 3, none⟩) (Kd.R_far (p := ⟨gb112, 2, none⟩) (Kd.R_far (p := ⟨gb112, 1, none⟩) (Kd.R_far (p := ⟨gb112, 0, none⟩) (Kd.R_types (Kd.R_mono HO106.out (fun k_ hk => (⟨hk, hk.2⟩ : _ ∧ k_ ≠ gb112))) BK113.out (by decide)) (fun _ hk => hk.1.2) (.int .i64 t101)) (fun _ hk => hk.1.2) (.int .i64 t102)) (fun _ hk => hk.1.2) (.string t103)) (fun _ hk => hk.1.2) (.slice Ao34 t104.length co34)) (fun _ hk => hk.1.2) (.slice Ao35 t107.length co35)) (fun _ hk => hk.2) (.int .i64 t110)) (fun _ hk => hk.2) (.int .i64 t111)) (fun _ h_ => h_.1)) (fun _ h_ => h_.1))) hb); have n1_ := Aside0.mk (Kd.R_below (by (with_reducible repeat (first | apply Kd.R_alloc | apply Kd.R_drewN | apply Kd.R_drew)); exact (Kd.R_mono (Kd.R_mono (Kd.R_far (p := ⟨gb113, 1, none⟩) (Kd.R_far (p := ⟨gb113, 0, none⟩) (Kd.R_far (p := ⟨gb112, 4, none⟩) (Kd.R_far (p := ⟨gb112, 3, none⟩) (Kd.R_far (p := ⟨gb112, 2, none⟩) (Kd.R_far (p := ⟨gb112, 1, none⟩) (Kd.R_far (p := ⟨gb112, 0, none⟩) (Kd.R_types (Kd.R_types HO109.out BK112.out (by decide)) BK113.out (by decide)) (fun _ hk => hk.1.2) (.int .i64 t101)) (fun _ hk => hk.1.2) (.int .i64 t102)) (fun _ hk => hk.1.2) (.string t103)) (fun _ hk => hk.1.2) (.slice Ao34 t104.length co34)) (fun _ hk => hk.1.2) (.slice Ao35 t107.length co35)) (fun _ hk => hk.2) (.int .i64 t110)) (fun _ hk => hk.2) (.int .i64 t111)) (fun _ h_ => h_.1)) (fun _ h_ => h_.1))) hb); have n2_ := Aside0.mk (blk_below (g := gb112) (o := .cells #[.int .i64 t101, .int .i64 t102, .string t103, .slice Ao34 t104.length co34, .slice Ao35 t107.length co35] 26 (0, 0)) (by (with_reducible repeat (first | refine blk_drewN ?_ _ | refine blk_drew ?_ | refine blk_alloc ?_ _)); refine blk_far ?_ NB112_113.out _; (with_reducible repeat (first | refine blk_drewN ?_ _ | refine blk_drew ?_ | refine blk_alloc ?_ _)); refine blk_far ?_ NB112_113.out _; (with_reducible repeat (first | refine blk_drewN ?_ _ | refine blk_drew ?_ | refine blk_alloc ?_ _)); refine blk_put (cs := #[.int .i64 t101, .int .i64 t102, .string t103, .slice Ao34 t104.length co34, .slice none 0 0]) ?_ 4 _ rfl; (with_reducible repeat (first | refine blk_drewN ?_ _ | refine blk_drew ?_ | refine blk_alloc ?_ _)); refine blk_put (cs := #[.int .i64 t101, .int .i64 t102, .string t103, .slice none 0 0, .slice none 0 0]) ?_ 3 _ rfl; (with_reducible repeat (first | refine blk_drewN ?_ _ | refine blk_drew ?_ | refine blk_alloc ?_ _)); refine blk_put (cs := #[.int .i64 t101, .int .i64 t102, .string (⟨#[]⟩ : ByteArray), .slice none 0 0, .slice none 0 0]) ?_ 2 _ rfl; (with_reducible repeat (first | refine blk_drewN ?_ _ | refine blk_drew ?_ | refine blk_alloc ?_ _)); refine blk_put (cs := #[.int .i64 t101, .int .i64 0, .string (⟨#[]⟩ : ByteArray), .slice none 0 0, .slice none 0 0]) ?_ 1 _ rfl; (with_reducible repeat (first | refine blk_drewN ?_ _ | refine blk_drew ?_ | refine blk_alloc ?_ _)); refine blk_put (cs := #[.int .i64 0, .int .i64 0, .string (⟨#[]⟩ : ByteArray), .slice none 0 0, .slice none 0 0]) ?_ 0 _ rfl; (with_reducible repeat (first | refine blk_drewN ?_ _ | refine blk_drew ?_ | refine blk_alloc ?_ _)); exact BK112.out) hb); have n3_ := Aside0.mk (blk_below (g := gb113) (o := .cells #[.int .i64 t110, .int .i64 t111] 29 (0, 0)) (by (with_reducible repeat (first | refine blk_drewN ?_ _ | refine blk_drew ?_ | refine blk_alloc ?_ _)); refine blk_put (cs := #[.int .i64 t110, .int .i64 0]) ?_ 1 _ rfl; (with_reducible repeat (first | refine blk_drewN ?_ _ | refine blk_drew ?_ | refine blk_alloc ?_ _)); refine blk_put (cs := #[.int .i64 0, .int .i64 0]) ?_ 0 _ rfl; (with_reducible repeat (first | refine blk_drewN ?_ _ | refine blk_drew ?_ | refine blk_alloc ?_ _)); refine blk_far ?_ NB113_112.out _; (with_reducible repeat (first | refine blk_drewN ?_ _ | refine blk_drew ?_ | refine blk_alloc ?_ _)); refine blk_far ?_ NB113_112.out _; (with_reducible repeat (first | refine blk_drewN ?_ _ | refine blk_drew ?_ | refine blk_alloc ?_ _)); refine blk_far ?_ NB113_112.out _; (with_reducible repeat (first | refine blk_drewN ?_ _ | refine blk_drew ?_ | refine blk_alloc ?_ _)); refine blk_far ?_ NB113_112.out _; (with_reducible repeat (first | refine blk_drewN ?_ _ | refine blk_drew ?_ | refine blk_alloc ?_ _)); refine blk_far ?_ NB113_112.out _; (with_reducible repeat (first | refine blk_drewN ?_ _ | refine blk_drew ?_ | refine blk_alloc ?_ _)); exact BK113.out) hb); have n4_ := Aside0.mk (below_step (by repeat (first | (with_reducible first | exact HB.out | apply below_alloc | apply pw_below_drewN | apply below_drew1 | refine below_set ?_ GE112.out | refine below_set ?_ GE113.out) | exact HB.out)) hb); clear HO106; clear HO109; clear BK112; clear BK113; clear HB; have HO106 := n0_; have HO109 := n1_; have BK112 := n2_; have BK113 := n3_; have HB := n4_; clear n0_ n1_ n2_ n3_ n4_; (try clear hb); (try clear hb2); (try clear hk); (try clear hi); have hcz38_0 : w37.cell? ⟨gb113, 0, none⟩ = some (.int .i64 t110) := (blk_cell BK113.out 0).trans rfl; have hcz38_1 : w37.cell? ⟨gb113, 1, none⟩ = some (.int .i64 t111) := (blk_cell BK113.out 1).trans rfl; have hfz38_0 := blk_frozen BK113.out 0; have hfz38_1 := blk_frozen BK113.out 1; have hcz39_0 : w37.cell? ⟨gb112, 0, none⟩ = some (.int .i64 t101) := (blk_cell BK112.out 0).trans rfl; have hcz39_1 : w37.cell? ⟨gb112, 1, none⟩ = some (.int .i64 t102) := (blk_cell BK112.out 1).trans rfl; have hcz39_2 : w37.cell? ⟨gb112, 2, none⟩ = some (.string t103) := (blk_cell BK112.out 2).trans rfl; have hcz39_3 : w37.cell? ⟨gb112, 3, none⟩ = some (.slice Ao34 t104.length co34) := (blk_cell BK112.out 3).trans rfl; have hcz39_4 : w37.cell? ⟨gb112, 4, none⟩ = some (.slice Ao35 t107.length co35) := (blk_cell BK112.out 4).trans rfl; have hfz39_0 := blk_frozen BK112.out 0; have hfz39_1 := blk_frozen BK112.out 1; have hfz39_2 := blk_frozen BK112.out 2; have hfz39_3 := blk_frozen BK112.out 3; have hfz39_4 := blk_frozen BK112.out 4))
        go_ret
        exact ⟨by first | rfl | (simp [errW_none, errW_some] <;> rfl) | (simp [*, errW_none, errW_some] <;> rfl), by repeat (first | (with_reducible first | exact HB.out | apply below_alloc | apply pw_below_drewN | apply below_drew1 | refine below_set ?_ GE112.out | refine below_set ?_ GE113.out) | exact HB.out)⟩
    · rw [if_neg c4] at H
      have c4b0 : (t101 == 5) = false := beq_eq_false_iff_ne.mpr c4
      have c4b1 : (t101 != 5) = true := bne_iff_ne.mpr c4
      obtain rfl := Option.some.inj H
      go_enter Tryz.func7, Tryz.ntmps7
      go_wp2_with (first | ((with_reducible refine gate_callee (f := 8) rfl ?_); refine goesL_ (some 6) rfl rfl Tryz.func8 (by kernel_rfl) rfl #[.string (⟨#[91, 49, 44, 32, 110, 117, 108, 108, 93]⟩ : ByteArray)] rfl (by (try simp only [List.map_toArray, List.map_cons, List.map_nil]); first | done | rfl | (simp only [List.length_drop, List.length_take]; rfl)) ?_; (with_reducible refine (tree_Parse.calls k (⟨#[91, 49, 44, 32, 110, 117, 108, 108, 93]⟩ : ByteArray) t101 t102 t103 t104 t107 t110 t111 _ A1.out (HTAB.out.below (by repeat (first | (with_reducible first | exact HB.out | apply below_alloc | apply pw_below_drewN | apply below_drew1 | refine below_set ?_ (by assumption) | refine below_set ?_ (Aside0.out (by assumption))) | exact HB.out)))).mono ?_); rintro e w40 ⟨v105, v108, rfl, ho0, ho1, hb⟩; refine ⟨_, rfl, ?_⟩; have n0_ := Aside0.mk (Kd.R_lower ho0 (below_size (by repeat (first | (with_reducible first | exact HB.out | apply below_alloc | apply pw_below_drewN | apply below_drew1) | exact HB.out)))); have n1_ := Aside0.mk (Kd.R_lower ho1 (below_size (by repeat (first | (with_reducible first | exact HB.out | apply below_alloc | apply pw_below_drewN | apply below_drew1) | exact HB.out)))); have n2_ := Aside0.mk (below_step (by repeat (first | (with_reducible first | exact HB.out | apply below_alloc | apply pw_below_drewN | apply below_drew1) | exact HB.out)) hb); clear HB; have HO106 := n0_; have HO109 := n1_; have HB := n2_; clear n0_ n1_ n2_; (try clear hb); (try clear hb2); (try clear hk); (try clear hi); (try clear ho0); (try clear ho1)) | ((with_reducible refine gate_dst (N := 1) rfl ?_); (try (refine gate_guard (by rfl) ?_; dsimp only)); refine box_event ?hg (N := 1) ?hd (cs := #[.int .i64 0, .int .i64 0, .string (⟨#[]⟩ : ByteArray), .slice none 0 0, .slice none 0 0]) (t := 26) ?hr ?_; (case hd => rfl); (case hg => rfl); (case hr => first | (go_simp; done) | (go_simp; rfl)); intro gb112 hg w41 hbox hb; have n0_ := Aside0.mk (Kd.R_below (Kd.R_elderB (by (with_reducible repeat (first | apply Kd.R_alloc | apply Kd.R_drewN | apply Kd.R_drew)); exact HO106.out) gb112 (Nat.le_of_eq hg.symm)) hb); have n1_ := Aside0.mk (Kd.R_below (by (with_reducible repeat (first | apply Kd.R_alloc | apply Kd.R_drewN | apply Kd.R_drew)); exact HO109.out) hb); have n2_ := Aside0.mk (below_step (by repeat (first | (with_reducible first | exact HB.out | apply below_alloc | apply pw_below_drewN | apply below_drew1) | exact HB.out)) hb); have n3_ := Aside0.mk (hbox); have n4_ := Aside0.mk ((by rw [hg]; exact (below_size (by repeat (first | (with_reducible first | exact HB.out | apply below_alloc | apply pw_below_drewN | apply below_drew1) | exact HB.out))) : w.heap.size ≤ gb112)); have n5_ := Aside0.mk ((by rw [hg]; exact (below_size (by repeat (first | (with_reducible first | exact HB.out | apply below_alloc | apply pw_below_drewN | apply below_drew1) | exact HB.out))) : w.heap.size ≤ gb112)); clear HO106; clear HO109; clear HB; have HO106 := n0_; have HO109 := n1_; have HB := n2_; have BK112 := n3_; have GW112 := n4_; have GE112 := n5_; clear n0_ n1_ n2_ n3_ n4_ n5_; clear hb hbox hg) | ((with_reducible refine gate_dst (N := 2) rfl ?_); (try (refine gate_guard (by rfl) ?_; dsimp only)); refine box_event ?hg (N := 2) ?hd (cs := #[.int .i64 0, .int .i64 0]) (t := 29) ?hr ?_; (case hd => rfl); (case hg => rfl); (case hr => first | (go_simp; done) | (go_simp; rfl)); intro gb113 hg w42 hbox hb; have n0_ := Aside0.mk (Kd.R_below (by (with_reducible repeat (first | apply Kd.R_alloc | apply Kd.R_drewN | apply Kd.R_drew)); exact HO106.out) hb); have n1_ := Aside0.mk (Kd.R_below (by (with_reducible repeat (first | apply Kd.R_alloc | apply Kd.R_drewN | apply Kd.R_drew)); exact HO109.out) hb); have n2_ := Aside0.mk (blk_below (g := gb112) (o := .cells #[.int .i64 0, .int .i64 0, .string (⟨#[]⟩ : ByteArray), .slice none 0 0, .slice none 0 0] 26 (0, 0)) (by (with_reducible repeat (first | refine blk_drewN ?_ _ | refine blk_drew ?_ | refine blk_alloc ?_ _)); exact BK112.out) hb); have n3_ := Aside0.mk (below_step (by repeat (first | (with_reducible first | exact HB.out | apply below_alloc | apply pw_below_drewN | apply below_drew1 | refine below_set ?_ GE112.out) | exact HB.out)) hb); have n4_ := Aside0.mk (hbox); have n5_ := Aside0.mk ((by rw [hg]; exact (below_size (by repeat (first | (with_reducible first | exact HB.out | apply below_alloc | apply pw_below_drewN | apply below_drew1 | refine below_set ?_ GE112.out) | exact HB.out))) : w.heap.size ≤ gb113)); have n6_ := Aside0.mk ((by rw [hg]; exact (below_size (by repeat (first | (with_reducible first | exact HB.out | apply below_alloc | apply pw_below_drewN | apply below_drew1 | refine below_set ?_ GE112.out) | exact HB.out))) : w.heap.size ≤ gb113)); have n7_ := Aside0.mk ((by rw [hg]; exact Nat.ne_of_lt (blk_lt (g := gb112) (o := .cells #[.int .i64 0, .int .i64 0, .string (⟨#[]⟩ : ByteArray), .slice none 0 0, .slice none 0 0] 26 (0, 0)) (by (with_reducible repeat (first | refine blk_drewN ?_ _ | refine blk_drew ?_ | refine blk_alloc ?_ _)); exact BK112.out)) : gb112 ≠ gb113)); have n8_ := Aside0.mk ((by rw [hg]; exact Nat.ne_of_gt (blk_lt (g := gb112) (o := .cells #[.int .i64 0, .int .i64 0, .string (⟨#[]⟩ : ByteArray), .slice none 0 0, .slice none 0 0] 26 (0, 0)) (by (with_reducible repeat (first | refine blk_drewN ?_ _ | refine blk_drew ?_ | refine blk_alloc ?_ _)); exact BK112.out)) : gb113 ≠ gb112)); clear HO106; clear HO109; clear BK112; clear HB; have HO106 := n0_; have HO109 := n1_; have BK112 := n2_; have HB := n3_; have BK113 := n4_; have GW113 := n5_; have GE113 := n6_; have NB112_113 := n7_; have NB113_112 := n8_; clear n0_ n1_ n2_ n3_ n4_ n5_ n6_ n7_ n8_; clear hb hbox hg; have hnb43 := NB112_113.out; have hnc43 := NB113_112.out; have hcz44_0 : w42.cell? ⟨gb112, 0, none⟩ = some (.int .i64 0) := (blk_cell BK112.out 0).trans rfl; have hcz44_1 : w42.cell? ⟨gb112, 1, none⟩ = some (.int .i64 0) := (blk_cell BK112.out 1).trans rfl; have hcz44_2 : w42.cell? ⟨gb112, 2, none⟩ = some (.string (⟨#[]⟩ : ByteArray)) := (blk_cell BK112.out 2).trans rfl; have hcz44_3 : w42.cell? ⟨gb112, 3, none⟩ = some (.slice none 0 0) := (blk_cell BK112.out 3).trans rfl; have hcz44_4 : w42.cell? ⟨gb112, 4, none⟩ = some (.slice none 0 0) := (blk_cell BK112.out 4).trans rfl; have hfz44_0 := blk_frozen BK112.out 0; have hfz44_1 := blk_frozen BK112.out 1; have hfz44_2 := blk_frozen BK112.out 2; have hfz44_3 := blk_frozen BK112.out 3; have hfz44_4 := blk_frozen BK112.out 4; obtain ⟨Ao45, co45, eo45⟩ := Kd.R_slice HO106.out; subst eo45; obtain ⟨Ao46, co46, eo46⟩ := Kd.R_slice HO109.out; subst eo46; have hcz47_0 : w42.cell? ⟨gb113, 0, none⟩ = some (.int .i64 0) := (blk_cell BK113.out 0).trans rfl; have hcz47_1 : w42.cell? ⟨gb113, 1, none⟩ = some (.int .i64 0) := (blk_cell BK113.out 1).trans rfl; have hfz47_0 := blk_frozen BK113.out 0; have hfz47_1 := blk_frozen BK113.out 1) | ((with_reducible refine gate_callee (f := 12) rfl ?_); refine goesL_ (some 11) rfl rfl Tryz.func12 (by kernel_rfl) rfl #[.agg #[.int .i64 t101, .int .i64 t102, .string t103, .slice Ao45 t104.length co45, .slice Ao46 t107.length co46]] rfl (by (try simp only [List.map_toArray, List.map_cons, List.map_nil]); first | done | rfl | (simp only [List.length_drop, List.length_take]; rfl)) ?_; (with_reducible refine (tree_Print.calls k t101 t102 t103 _ _ t104 _ _ t107 t114 t115 _ ?side1 ?side2 ?side3 ?side4 A2.out (HTAB.out.below (by repeat (first | (with_reducible first | exact HB.out | apply below_alloc | apply pw_below_drewN | apply below_drew1 | refine below_set ?_ (by assumption) | refine below_set ?_ (Aside0.out (by assumption))) | exact HB.out)))).mono ?_); (case side1 => refine (Kd.R_reads' (e := 26) (base := w.heap.size) (ok := fun k_ => (True ∧ k_ ≠ gb112)) (n := t104.length) (c := co45) ?_).2.2; exact (by (with_reducible repeat (first | apply Kd.R_alloc | apply Kd.R_drewN | apply Kd.R_drew)); exact (Kd.R_mono (Kd.R_mono (Kd.R_far (p := ⟨gb113, 1, none⟩) (Kd.R_far (p := ⟨gb113, 0, none⟩) (Kd.R_far (p := ⟨gb112, 4, none⟩) (Kd.R_far (p := ⟨gb112, 3, none⟩) (Kd.R_far (p := ⟨gb112, 2, none⟩) (Kd.R_far (p := ⟨gb112, 1, none⟩) (Kd.R_far (p := ⟨gb112, 0, none⟩) (Kd.R_types (Kd.R_mono HO106.out (fun k_ hk => (⟨hk, hk.2⟩ : _ ∧ k_ ≠ gb112))) BK113.out (by decide)) (fun _ hk => hk.1.2) (.int .i64 t101)) (fun _ hk => hk.1.2) (.int .i64 t102)) (fun _ hk => hk.1.2) (.string t103)) (fun _ hk => hk.1.2) (.slice Ao45 t104.length co45)) (fun _ hk => hk.1.2) (.slice Ao46 t107.length co46)) (fun _ hk => hk.2) (.int .i64 t110)) (fun _ hk => hk.2) (.int .i64 t111)) (fun _ h_ => h_.1)) (fun _ h_ => h_.1)))); (case side2 => exact (Kd.R_reads' HO106.out).2.1); (case side3 => refine (Kd.R_reads' (e := 9) (base := w.heap.size) (ok := fun k_ => True) (n := t107.length) (c := co46) ?_).2.2; exact (by (with_reducible repeat (first | apply Kd.R_alloc | apply Kd.R_drewN | apply Kd.R_drew)); exact (Kd.R_mono (Kd.R_mono (Kd.R_far (p := ⟨gb113, 1, none⟩) (Kd.R_far (p := ⟨gb113, 0, none⟩) (Kd.R_far (p := ⟨gb112, 4, none⟩) (Kd.R_far (p := ⟨gb112, 3, none⟩) (Kd.R_far (p := ⟨gb112, 2, none⟩) (Kd.R_far (p := ⟨gb112, 1, none⟩) (Kd.R_far (p := ⟨gb112, 0, none⟩) (Kd.R_types (Kd.R_types HO109.out BK112.out (by decide)) BK113.out (by decide)) (fun _ hk => hk.1.2) (.int .i64 t101)) (fun _ hk => hk.1.2) (.int .i64 t102)) (fun _ hk => hk.1.2) (.string t103)) (fun _ hk => hk.1.2) (.slice Ao45 t104.length co45)) (fun _ hk => hk.1.2) (.slice Ao46 t107.length co46)) (fun _ hk => hk.2) (.int .i64 t110)) (fun _ hk => hk.2) (.int .i64 t111)) (fun _ h_ => h_.1)) (fun _ h_ => h_.1)))); (case side4 => exact (Kd.R_reads' HO109.out).2.1); rintro e w48 ⟨rfl, hb⟩; refine ⟨_, rfl, ?_⟩; have n0_ := Aside0.mk (Kd.R_below (by (with_reducible repeat (first | apply Kd.R_alloc | apply Kd.R_drewN | apply Kd.R_drew)); exact (Kd.R_mono (Kd.R_mono (Kd.R_far (p := ⟨gb113, 1, none⟩) (Kd.R_far (p := ⟨gb113, 0, none⟩) (Kd.R_far (p := ⟨gb112, 4, none⟩) (Kd.R_far (p := ⟨gb112, 3, none⟩) (Kd.R_far (p := ⟨gb112, 2, none⟩) (Kd.R_far (p := ⟨gb112, 1, none⟩) (Kd.R_far (p := ⟨gb112, 0, none⟩) (Kd.R_types (Kd.R_mono HO106.out (fun k_ hk => (⟨hk, hk.2⟩ : _ ∧ k_ ≠ gb112))) BK113.out (by decide)) (fun _ hk => hk.1.2) (.int .i64 t101)) (fun _ hk => hk.1.2) (.int .i64 t102)) (fun _ hk => hk.1.2) (.string t103)) (fun _ hk => hk.1.2) (.slice Ao45 t104.length co45)) (fun _ hk => hk.1.2) (.slice Ao46 t107.length co46)) (fun _ hk => hk.2) (.int .i64 t110)) (fun _ hk => hk.2) (.int .i64 t111)) (fun _ h_ => h_.1)) (fun _ h_ => h_.1))) hb); have n1_ := Aside0.mk (Kd.R_below (by (with_reducible repeat (first | apply Kd.R_alloc | apply Kd.R_drewN | apply Kd.R_drew)); exact (Kd.R_mono (Kd.R_mono (Kd.R_far (p := ⟨gb113, 1, none⟩) (Kd.R_far (p := ⟨gb113, 0, none⟩) (Kd.R_far (p := ⟨gb112, 4, none⟩) (Kd.R_far (p := ⟨gb112, 3, none⟩) (Kd.R_far (p := ⟨gb112, 2, none⟩) (Kd.R_far (p := ⟨gb112, 1, none⟩) (Kd.R_far (p := ⟨gb112, 0, none⟩) (Kd.R_types (Kd.R_types HO109.out BK112.out (by decide)) BK113.out (by decide)) (fun _ hk => hk.1.2) (.int .i64 t101)) (fun _ hk => hk.1.2) (.int .i64 t102)) (fun _ hk => hk.1.2) (.string t103)) (fun _ hk => hk.1.2) (.slice Ao45 t104.length co45)) (fun _ hk => hk.1.2) (.slice Ao46 t107.length co46)) (fun _ hk => hk.2) (.int .i64 t110)) (fun _ hk => hk.2) (.int .i64 t111)) (fun _ h_ => h_.1)) (fun _ h_ => h_.1))) hb); have n2_ := Aside0.mk (blk_below (g := gb112) (o := .cells #[.int .i64 t101, .int .i64 t102, .string t103, .slice Ao45 t104.length co45, .slice Ao46 t107.length co46] 26 (0, 0)) (by (with_reducible repeat (first | refine blk_drewN ?_ _ | refine blk_drew ?_ | refine blk_alloc ?_ _)); refine blk_far ?_ NB112_113.out _; (with_reducible repeat (first | refine blk_drewN ?_ _ | refine blk_drew ?_ | refine blk_alloc ?_ _)); refine blk_far ?_ NB112_113.out _; (with_reducible repeat (first | refine blk_drewN ?_ _ | refine blk_drew ?_ | refine blk_alloc ?_ _)); refine blk_put (cs := #[.int .i64 t101, .int .i64 t102, .string t103, .slice Ao45 t104.length co45, .slice none 0 0]) ?_ 4 _ rfl; (with_reducible repeat (first | refine blk_drewN ?_ _ | refine blk_drew ?_ | refine blk_alloc ?_ _)); refine blk_put (cs := #[.int .i64 t101, .int .i64 t102, .string t103, .slice none 0 0, .slice none 0 0]) ?_ 3 _ rfl; (with_reducible repeat (first | refine blk_drewN ?_ _ | refine blk_drew ?_ | refine blk_alloc ?_ _)); refine blk_put (cs := #[.int .i64 t101, .int .i64 t102, .string (⟨#[]⟩ : ByteArray), .slice none 0 0, .slice none 0 0]) ?_ 2 _ rfl; (with_reducible repeat (first | refine blk_drewN ?_ _ | refine blk_drew ?_ | refine blk_alloc ?_ _)); refine blk_put (cs := #[.int .i64 t101, .int .i64 0, .string (⟨#[]⟩ : ByteArray), .slice none 0 0, .slice none 0 0]) ?_ 1 _ rfl; (with_reducible repeat (first | refine blk_drewN ?_ _ | refine blk_drew ?_ | refine blk_alloc ?_ _)); refine blk_put (cs := #[.int .i64 0, .int .i64 0, .string (⟨#[]⟩ : ByteArray), .slice none 0 0, .slice none 0 0]) ?_ 0 _ rfl; (with_reducible repeat (first | refine blk_drewN ?_ _ | refine blk_drew ?_ | refine blk_alloc ?_ _)); exact BK112.out) hb); have n3_ := Aside0.mk (blk_below (g := gb113) (o := .cells #[.int .i64 t110, .int .i64 t111] 29 (0, 0)) (by (with_reducible repeat (first | refine blk_drewN ?_ _ | refine blk_drew ?_ | refine blk_alloc ?_ _)); refine blk_put (cs := #[.int .i64 t110, .int .i64 0]) ?_ 1 _ rfl; (with_reducible repeat (first | refine blk_drewN ?_ _ | refine blk_drew ?_ | refine blk_alloc ?_ _)); refine blk_put (cs := #[.int .i64 0, .int .i64 0]) ?_ 0 _ rfl; (with_reducible repeat (first | refine blk_drewN ?_ _ | refine blk_drew ?_ | refine blk_alloc ?_ _)); refine blk_far ?_ NB113_112.out _; (with_reducible repeat (first | refine blk_drewN ?_ _ | refine blk_drew ?_ | refine blk_alloc ?_ _)); refine blk_far ?_ NB113_112.out _; (with_reducible repeat (first | refine blk_drewN ?_ _ | refine blk_drew ?_ | refine blk_alloc ?_ _)); refine blk_far ?_ NB113_112.out _; (with_reducible repeat (first | refine blk_drewN ?_ _ | refine blk_drew ?_ | refine blk_alloc ?_ _)); refine blk_far ?_ NB113_112.out _; (with_reducible repeat (first | refine blk_drewN ?_ _ | refine blk_drew ?_ | refine blk_alloc ?_ _)); refine blk_far ?_ NB113_112.out _; (with_reducible repeat (first | refine blk_drewN ?_ _ | refine blk_drew ?_ | refine blk_alloc ?_ _)); exact BK113.out) hb); have n4_ := Aside0.mk (below_step (by repeat (first | (with_reducible first | exact HB.out | apply below_alloc | apply pw_below_drewN | apply below_drew1 | refine below_set ?_ GE112.out | refine below_set ?_ GE113.out) | exact HB.out)) hb); clear HO106; clear HO109; clear BK112; clear BK113; clear HB; have HO106 := n0_; have HO109 := n1_; have BK112 := n2_; have BK113 := n3_; have HB := n4_; clear n0_ n1_ n2_ n3_ n4_; (try clear hb); (try clear hb2); (try clear hk); (try clear hi); have hcz49_0 : w48.cell? ⟨gb113, 0, none⟩ = some (.int .i64 t110) := (blk_cell BK113.out 0).trans rfl; have hcz49_1 : w48.cell? ⟨gb113, 1, none⟩ = some (.int .i64 t111) := (blk_cell BK113.out 1).trans rfl; have hfz49_0 := blk_frozen BK113.out 0; have hfz49_1 := blk_frozen BK113.out 1; have hcz50_0 : w48.cell? ⟨gb112, 0, none⟩ = some (.int .i64 t101) := (blk_cell BK112.out 0).trans rfl; have hcz50_1 : w48.cell? ⟨gb112, 1, none⟩ = some (.int .i64 t102) := (blk_cell BK112.out 1).trans rfl; have hcz50_2 : w48.cell? ⟨gb112, 2, none⟩ = some (.string t103) := (blk_cell BK112.out 2).trans rfl; have hcz50_3 : w48.cell? ⟨gb112, 3, none⟩ = some (.slice Ao45 t104.length co45) := (blk_cell BK112.out 3).trans rfl; have hcz50_4 : w48.cell? ⟨gb112, 4, none⟩ = some (.slice Ao46 t107.length co46) := (blk_cell BK112.out 4).trans rfl; have hfz50_0 := blk_frozen BK112.out 0; have hfz50_1 := blk_frozen BK112.out 1; have hfz50_2 := blk_frozen BK112.out 2; have hfz50_3 := blk_frozen BK112.out 3; have hfz50_4 := blk_frozen BK112.out 4))
      go_ret
      exact ⟨by first | rfl | (simp [errW_none, errW_some] <;> rfl) | (simp [*, errW_none, errW_some] <;> rfl), by repeat (first | (with_reducible first | exact HB.out | apply below_alloc | apply pw_below_drewN | apply below_drew1 | refine below_set ?_ GE112.out | refine below_set ?_ GE113.out) | exact HB.out)⟩
  · rw [if_neg c3] at H
    have c3b0 : (t110 == 0) = false := beq_eq_false_iff_ne.mpr c3
    have c3b1 : (t110 != 0) = true := bne_iff_ne.mpr c3
    obtain rfl := Option.some.inj H
    go_enter Tryz.func7, Tryz.ntmps7
    go_wp2_with (first | ((with_reducible refine gate_callee (f := 8) rfl ?_); refine goesL_ (some 6) rfl rfl Tryz.func8 (by kernel_rfl) rfl #[.string (⟨#[91, 49, 44, 32, 110, 117, 108, 108, 93]⟩ : ByteArray)] rfl (by (try simp only [List.map_toArray, List.map_cons, List.map_nil]); first | done | rfl | (simp only [List.length_drop, List.length_take]; rfl)) ?_; (with_reducible refine (tree_Parse.calls k (⟨#[91, 49, 44, 32, 110, 117, 108, 108, 93]⟩ : ByteArray) t101 t102 t103 t104 t107 t110 t111 _ A1.out (HTAB.out.below (by repeat (first | (with_reducible first | exact HB.out | apply below_alloc | apply pw_below_drewN | apply below_drew1 | refine below_set ?_ (by assumption) | refine below_set ?_ (Aside0.out (by assumption))) | exact HB.out)))).mono ?_); rintro e w51 ⟨v105, v108, rfl, ho0, ho1, hb⟩; refine ⟨_, rfl, ?_⟩; have n0_ := Aside0.mk (Kd.R_lower ho0 (below_size (by repeat (first | (with_reducible first | exact HB.out | apply below_alloc | apply pw_below_drewN | apply below_drew1) | exact HB.out)))); have n1_ := Aside0.mk (Kd.R_lower ho1 (below_size (by repeat (first | (with_reducible first | exact HB.out | apply below_alloc | apply pw_below_drewN | apply below_drew1) | exact HB.out)))); have n2_ := Aside0.mk (below_step (by repeat (first | (with_reducible first | exact HB.out | apply below_alloc | apply pw_below_drewN | apply below_drew1) | exact HB.out)) hb); clear HB; have HO106 := n0_; have HO109 := n1_; have HB := n2_; clear n0_ n1_ n2_; (try clear hb); (try clear hb2); (try clear hk); (try clear hi); (try clear ho0); (try clear ho1)) | ((with_reducible refine gate_dst (N := 1) rfl ?_); (try (refine gate_guard (by rfl) ?_; dsimp only)); refine box_event ?hg (N := 1) ?hd (cs := #[.int .i64 0, .int .i64 0, .string (⟨#[]⟩ : ByteArray), .slice none 0 0, .slice none 0 0]) (t := 26) ?hr ?_; (case hd => rfl); (case hg => rfl); (case hr => first | (go_simp; done) | (go_simp; rfl)); intro gb112 hg w52 hbox hb; have n0_ := Aside0.mk (Kd.R_below (Kd.R_elderB (by (with_reducible repeat (first | apply Kd.R_alloc | apply Kd.R_drewN | apply Kd.R_drew)); exact HO106.out) gb112 (Nat.le_of_eq hg.symm)) hb); have n1_ := Aside0.mk (Kd.R_below (by (with_reducible repeat (first | apply Kd.R_alloc | apply Kd.R_drewN | apply Kd.R_drew)); exact HO109.out) hb); have n2_ := Aside0.mk (below_step (by repeat (first | (with_reducible first | exact HB.out | apply below_alloc | apply pw_below_drewN | apply below_drew1) | exact HB.out)) hb); have n3_ := Aside0.mk (hbox); have n4_ := Aside0.mk ((by rw [hg]; exact (below_size (by repeat (first | (with_reducible first | exact HB.out | apply below_alloc | apply pw_below_drewN | apply below_drew1) | exact HB.out))) : w.heap.size ≤ gb112)); have n5_ := Aside0.mk ((by rw [hg]; exact (below_size (by repeat (first | (with_reducible first | exact HB.out | apply below_alloc | apply pw_below_drewN | apply below_drew1) | exact HB.out))) : w.heap.size ≤ gb112)); clear HO106; clear HO109; clear HB; have HO106 := n0_; have HO109 := n1_; have HB := n2_; have BK112 := n3_; have GW112 := n4_; have GE112 := n5_; clear n0_ n1_ n2_ n3_ n4_ n5_; clear hb hbox hg) | ((with_reducible refine gate_dst (N := 2) rfl ?_); (try (refine gate_guard (by rfl) ?_; dsimp only)); refine box_event ?hg (N := 2) ?hd (cs := #[.int .i64 0, .int .i64 0]) (t := 29) ?hr ?_; (case hd => rfl); (case hg => rfl); (case hr => first | (go_simp; done) | (go_simp; rfl)); intro gb113 hg w53 hbox hb; have n0_ := Aside0.mk (Kd.R_below (by (with_reducible repeat (first | apply Kd.R_alloc | apply Kd.R_drewN | apply Kd.R_drew)); exact HO106.out) hb); have n1_ := Aside0.mk (Kd.R_below (by (with_reducible repeat (first | apply Kd.R_alloc | apply Kd.R_drewN | apply Kd.R_drew)); exact HO109.out) hb); have n2_ := Aside0.mk (blk_below (g := gb112) (o := .cells #[.int .i64 0, .int .i64 0, .string (⟨#[]⟩ : ByteArray), .slice none 0 0, .slice none 0 0] 26 (0, 0)) (by (with_reducible repeat (first | refine blk_drewN ?_ _ | refine blk_drew ?_ | refine blk_alloc ?_ _)); exact BK112.out) hb); have n3_ := Aside0.mk (below_step (by repeat (first | (with_reducible first | exact HB.out | apply below_alloc | apply pw_below_drewN | apply below_drew1 | refine below_set ?_ GE112.out) | exact HB.out)) hb); have n4_ := Aside0.mk (hbox); have n5_ := Aside0.mk ((by rw [hg]; exact (below_size (by repeat (first | (with_reducible first | exact HB.out | apply below_alloc | apply pw_below_drewN | apply below_drew1 | refine below_set ?_ GE112.out) | exact HB.out))) : w.heap.size ≤ gb113)); have n6_ := Aside0.mk ((by rw [hg]; exact (below_size (by repeat (first | (with_reducible first | exact HB.out | apply below_alloc | apply pw_below_drewN | apply below_drew1 | refine below_set ?_ GE112.out) | exact HB.out))) : w.heap.size ≤ gb113)); have n7_ := Aside0.mk ((by rw [hg]; exact Nat.ne_of_lt (blk_lt (g := gb112) (o := .cells #[.int .i64 0, .int .i64 0, .string (⟨#[]⟩ : ByteArray), .slice none 0 0, .slice none 0 0] 26 (0, 0)) (by (with_reducible repeat (first | refine blk_drewN ?_ _ | refine blk_drew ?_ | refine blk_alloc ?_ _)); exact BK112.out)) : gb112 ≠ gb113)); have n8_ := Aside0.mk ((by rw [hg]; exact Nat.ne_of_gt (blk_lt (g := gb112) (o := .cells #[.int .i64 0, .int .i64 0, .string (⟨#[]⟩ : ByteArray), .slice none 0 0, .slice none 0 0] 26 (0, 0)) (by (with_reducible repeat (first | refine blk_drewN ?_ _ | refine blk_drew ?_ | refine blk_alloc ?_ _)); exact BK112.out)) : gb113 ≠ gb112)); clear HO106; clear HO109; clear BK112; clear HB; have HO106 := n0_; have HO109 := n1_; have BK112 := n2_; have HB := n3_; have BK113 := n4_; have GW113 := n5_; have GE113 := n6_; have NB112_113 := n7_; have NB113_112 := n8_; clear n0_ n1_ n2_ n3_ n4_ n5_ n6_ n7_ n8_; clear hb hbox hg; have hnb54 := NB112_113.out; have hnc54 := NB113_112.out; have hcz55_0 : w53.cell? ⟨gb112, 0, none⟩ = some (.int .i64 0) := (blk_cell BK112.out 0).trans rfl; have hcz55_1 : w53.cell? ⟨gb112, 1, none⟩ = some (.int .i64 0) := (blk_cell BK112.out 1).trans rfl; have hcz55_2 : w53.cell? ⟨gb112, 2, none⟩ = some (.string (⟨#[]⟩ : ByteArray)) := (blk_cell BK112.out 2).trans rfl; have hcz55_3 : w53.cell? ⟨gb112, 3, none⟩ = some (.slice none 0 0) := (blk_cell BK112.out 3).trans rfl; have hcz55_4 : w53.cell? ⟨gb112, 4, none⟩ = some (.slice none 0 0) := (blk_cell BK112.out 4).trans rfl; have hfz55_0 := blk_frozen BK112.out 0; have hfz55_1 := blk_frozen BK112.out 1; have hfz55_2 := blk_frozen BK112.out 2; have hfz55_3 := blk_frozen BK112.out 3; have hfz55_4 := blk_frozen BK112.out 4; obtain ⟨Ao56, co56, eo56⟩ := Kd.R_slice HO106.out; subst eo56; obtain ⟨Ao57, co57, eo57⟩ := Kd.R_slice HO109.out; subst eo57; have hcz58_0 : w53.cell? ⟨gb113, 0, none⟩ = some (.int .i64 0) := (blk_cell BK113.out 0).trans rfl; have hcz58_1 : w53.cell? ⟨gb113, 1, none⟩ = some (.int .i64 0) := (blk_cell BK113.out 1).trans rfl; have hfz58_0 := blk_frozen BK113.out 0; have hfz58_1 := blk_frozen BK113.out 1) | ((with_reducible refine gate_callee (f := 12) rfl ?_); refine goesL_ (some 11) rfl rfl Tryz.func12 (by kernel_rfl) rfl #[.agg #[.int .i64 t101, .int .i64 t102, .string t103, .slice Ao56 t104.length co56, .slice Ao57 t107.length co57]] rfl (by (try simp only [List.map_toArray, List.map_cons, List.map_nil]); first | done | rfl | (simp only [List.length_drop, List.length_take]; rfl)) ?_; (with_reducible refine (tree_Print.calls k t101 t102 t103 _ _ t104 _ _ t107 t114 t115 _ ?side1 ?side2 ?side3 ?side4 A2.out (HTAB.out.below (by repeat (first | (with_reducible first | exact HB.out | apply below_alloc | apply pw_below_drewN | apply below_drew1 | refine below_set ?_ (by assumption) | refine below_set ?_ (Aside0.out (by assumption))) | exact HB.out)))).mono ?_); (case side1 => refine (Kd.R_reads' (e := 26) (base := w.heap.size) (ok := fun k_ => (True ∧ k_ ≠ gb112)) (n := t104.length) (c := co56) ?_).2.2; exact (by (with_reducible repeat (first | apply Kd.R_alloc | apply Kd.R_drewN | apply Kd.R_drew)); exact (Kd.R_mono (Kd.R_mono (Kd.R_far (p := ⟨gb113, 1, none⟩) (Kd.R_far (p := ⟨gb113, 0, none⟩) (Kd.R_far (p := ⟨gb112, 4, none⟩) (Kd.R_far (p := ⟨gb112, 3, none⟩) (Kd.R_far (p := ⟨gb112, 2, none⟩) (Kd.R_far (p := ⟨gb112, 1, none⟩) (Kd.R_far (p := ⟨gb112, 0, none⟩) (Kd.R_types (Kd.R_mono HO106.out (fun k_ hk => (⟨hk, hk.2⟩ : _ ∧ k_ ≠ gb112))) BK113.out (by decide)) (fun _ hk => hk.1.2) (.int .i64 t101)) (fun _ hk => hk.1.2) (.int .i64 t102)) (fun _ hk => hk.1.2) (.string t103)) (fun _ hk => hk.1.2) (.slice Ao56 t104.length co56)) (fun _ hk => hk.1.2) (.slice Ao57 t107.length co57)) (fun _ hk => hk.2) (.int .i64 t110)) (fun _ hk => hk.2) (.int .i64 t111)) (fun _ h_ => h_.1)) (fun _ h_ => h_.1)))); (case side2 => exact (Kd.R_reads' HO106.out).2.1); (case side3 => refine (Kd.R_reads' (e := 9) (base := w.heap.size) (ok := fun k_ => True) (n := t107.length) (c := co57) ?_).2.2; exact (by (with_reducible repeat (first | apply Kd.R_alloc | apply Kd.R_drewN | apply Kd.R_drew)); exact (Kd.R_mono (Kd.R_mono (Kd.R_far (p := ⟨gb113, 1, none⟩) (Kd.R_far (p := ⟨gb113, 0, none⟩) (Kd.R_far (p := ⟨gb112, 4, none⟩) (Kd.R_far (p := ⟨gb112, 3, none⟩) (Kd.R_far (p := ⟨gb112, 2, none⟩) (Kd.R_far (p := ⟨gb112, 1, none⟩) (Kd.R_far (p := ⟨gb112, 0, none⟩) (Kd.R_types (Kd.R_types HO109.out BK112.out (by decide)) BK113.out (by decide)) (fun _ hk => hk.1.2) (.int .i64 t101)) (fun _ hk => hk.1.2) (.int .i64 t102)) (fun _ hk => hk.1.2) (.string t103)) (fun _ hk => hk.1.2) (.slice Ao56 t104.length co56)) (fun _ hk => hk.1.2) (.slice Ao57 t107.length co57)) (fun _ hk => hk.2) (.int .i64 t110)) (fun _ hk => hk.2) (.int .i64 t111)) (fun _ h_ => h_.1)) (fun _ h_ => h_.1)))); (case side4 => exact (Kd.R_reads' HO109.out).2.1); rintro e w59 ⟨rfl, hb⟩; refine ⟨_, rfl, ?_⟩; have n0_ := Aside0.mk (Kd.R_below (by (with_reducible repeat (first | apply Kd.R_alloc | apply Kd.R_drewN | apply Kd.R_drew)); exact (Kd.R_mono (Kd.R_mono (Kd.R_far (p := ⟨gb113, 1, none⟩) (Kd.R_far (p := ⟨gb113, 0, none⟩) (Kd.R_far (p := ⟨gb112, 4, none⟩) (Kd.R_far (p := ⟨gb112, 3, none⟩) (Kd.R_far (p := ⟨gb112, 2, none⟩) (Kd.R_far (p := ⟨gb112, 1, none⟩) (Kd.R_far (p := ⟨gb112, 0, none⟩) (Kd.R_types (Kd.R_mono HO106.out (fun k_ hk => (⟨hk, hk.2⟩ : _ ∧ k_ ≠ gb112))) BK113.out (by decide)) (fun _ hk => hk.1.2) (.int .i64 t101)) (fun _ hk => hk.1.2) (.int .i64 t102)) (fun _ hk => hk.1.2) (.string t103)) (fun _ hk => hk.1.2) (.slice Ao56 t104.length co56)) (fun _ hk => hk.1.2) (.slice Ao57 t107.length co57)) (fun _ hk => hk.2) (.int .i64 t110)) (fun _ hk => hk.2) (.int .i64 t111)) (fun _ h_ => h_.1)) (fun _ h_ => h_.1))) hb); have n1_ := Aside0.mk (Kd.R_below (by (with_reducible repeat (first | apply Kd.R_alloc | apply Kd.R_drewN | apply Kd.R_drew)); exact (Kd.R_mono (Kd.R_mono (Kd.R_far (p := ⟨gb113, 1, none⟩) (Kd.R_far (p := ⟨gb113, 0, none⟩) (Kd.R_far (p := ⟨gb112, 4, none⟩) (Kd.R_far (p := ⟨gb112, 3, none⟩) (Kd.R_far (p := ⟨gb112, 2, none⟩) (Kd.R_far (p := ⟨gb112, 1, none⟩) (Kd.R_far (p := ⟨gb112, 0, none⟩) (Kd.R_types (Kd.R_types HO109.out BK112.out (by decide)) BK113.out (by decide)) (fun _ hk => hk.1.2) (.int .i64 t101)) (fun _ hk => hk.1.2) (.int .i64 t102)) (fun _ hk => hk.1.2) (.string t103)) (fun _ hk => hk.1.2) (.slice Ao56 t104.length co56)) (fun _ hk => hk.1.2) (.slice Ao57 t107.length co57)) (fun _ hk => hk.2) (.int .i64 t110)) (fun _ hk => hk.2) (.int .i64 t111)) (fun _ h_ => h_.1)) (fun _ h_ => h_.1))) hb); have n2_ := Aside0.mk (blk_below (g := gb112) (o := .cells #[.int .i64 t101, .int .i64 t102, .string t103, .slice Ao56 t104.length co56, .slice Ao57 t107.length co57] 26 (0, 0)) (by (with_reducible repeat (first | refine blk_drewN ?_ _ | refine blk_drew ?_ | refine blk_alloc ?_ _)); refine blk_far ?_ NB112_113.out _; (with_reducible repeat (first | refine blk_drewN ?_ _ | refine blk_drew ?_ | refine blk_alloc ?_ _)); refine blk_far ?_ NB112_113.out _; (with_reducible repeat (first | refine blk_drewN ?_ _ | refine blk_drew ?_ | refine blk_alloc ?_ _)); refine blk_put (cs := #[.int .i64 t101, .int .i64 t102, .string t103, .slice Ao56 t104.length co56, .slice none 0 0]) ?_ 4 _ rfl; (with_reducible repeat (first | refine blk_drewN ?_ _ | refine blk_drew ?_ | refine blk_alloc ?_ _)); refine blk_put (cs := #[.int .i64 t101, .int .i64 t102, .string t103, .slice none 0 0, .slice none 0 0]) ?_ 3 _ rfl; (with_reducible repeat (first | refine blk_drewN ?_ _ | refine blk_drew ?_ | refine blk_alloc ?_ _)); refine blk_put (cs := #[.int .i64 t101, .int .i64 t102, .string (⟨#[]⟩ : ByteArray), .slice none 0 0, .slice none 0 0]) ?_ 2 _ rfl; (with_reducible repeat (first | refine blk_drewN ?_ _ | refine blk_drew ?_ | refine blk_alloc ?_ _)); refine blk_put (cs := #[.int .i64 t101, .int .i64 0, .string (⟨#[]⟩ : ByteArray), .slice none 0 0, .slice none 0 0]) ?_ 1 _ rfl; (with_reducible repeat (first | refine blk_drewN ?_ _ | refine blk_drew ?_ | refine blk_alloc ?_ _)); refine blk_put (cs := #[.int .i64 0, .int .i64 0, .string (⟨#[]⟩ : ByteArray), .slice none 0 0, .slice none 0 0]) ?_ 0 _ rfl; (with_reducible repeat (first | refine blk_drewN ?_ _ | refine blk_drew ?_ | refine blk_alloc ?_ _)); exact BK112.out) hb); have n3_ := Aside0.mk (blk_below (g := gb113) (o := .cells #[.int .i64 t110, .int .i64 t111] 29 (0, 0)) (by (with_reducible repeat (first | refine blk_drewN ?_ _ | refine blk_drew ?_ | refine blk_alloc ?_ _)); refine blk_put (cs := #[.int .i64 t110, .int .i64 0]) ?_ 1 _ rfl; (with_reducible repeat (first | refine blk_drewN ?_ _ | refine blk_drew ?_ | refine blk_alloc ?_ _)); refine blk_put (cs := #[.int .i64 0, .int .i64 0]) ?_ 0 _ rfl; (with_reducible repeat (first | refine blk_drewN ?_ _ | refine blk_drew ?_ | refine blk_alloc ?_ _)); refine blk_far ?_ NB113_112.out _; (with_reducible repeat (first | refine blk_drewN ?_ _ | refine blk_drew ?_ | refine blk_alloc ?_ _)); refine blk_far ?_ NB113_112.out _; (with_reducible repeat (first | refine blk_drewN ?_ _ | refine blk_drew ?_ | refine blk_alloc ?_ _)); refine blk_far ?_ NB113_112.out _; (with_reducible repeat (first | refine blk_drewN ?_ _ | refine blk_drew ?_ | refine blk_alloc ?_ _)); refine blk_far ?_ NB113_112.out _; (with_reducible repeat (first | refine blk_drewN ?_ _ | refine blk_drew ?_ | refine blk_alloc ?_ _)); refine blk_far ?_ NB113_112.out _; (with_reducible repeat (first | refine blk_drewN ?_ _ | refine blk_drew ?_ | refine blk_alloc ?_ _)); exact BK113.out) hb); have n4_ := Aside0.mk (below_step (by repeat (first | (with_reducible first | exact HB.out | apply below_alloc | apply pw_below_drewN | apply below_drew1 | refine below_set ?_ GE112.out | refine below_set ?_ GE113.out) | exact HB.out)) hb); clear HO106; clear HO109; clear BK112; clear BK113; clear HB; have HO106 := n0_; have HO109 := n1_; have BK112 := n2_; have BK113 := n3_; have HB := n4_; clear n0_ n1_ n2_ n3_ n4_; (try clear hb); (try clear hb2); (try clear hk); (try clear hi); have hcz60_0 : w59.cell? ⟨gb113, 0, none⟩ = some (.int .i64 t110) := (blk_cell BK113.out 0).trans rfl; have hcz60_1 : w59.cell? ⟨gb113, 1, none⟩ = some (.int .i64 t111) := (blk_cell BK113.out 1).trans rfl; have hfz60_0 := blk_frozen BK113.out 0; have hfz60_1 := blk_frozen BK113.out 1))
    go_ret
    exact ⟨by first | rfl | (simp [errW_none, errW_some] <;> rfl) | (simp [*, errW_none, errW_some] <;> rfl), by repeat (first | (with_reducible first | exact HB.out | apply below_alloc | apply pw_below_drewN | apply below_drew1 | refine below_set ?_ GE112.out | refine below_set ?_ GE113.out) | exact HB.out)⟩
end Go.Proofs.YtegppkngdkkdcaaGreatDoor.PS
end
