-- MADE BY A PROGRAM (the kit's print.py, several functions in one set) out of the translation; Lean checks it.
import Derived.Test.YtidkjiglmfhjpaaDoorPSx0
import Derived.Test.YtidkjiglmfhjpaaDoorPJa
import Derived.Test.YtidkjiglmfhjpaaDoorLexPrn
namespace Go.Proofs.YtidkjiglmfhjpaaDoor.PS
open Go.RowKit Go.Proofs.YtidkjiglmfhjpaaDoorW.PrintWords Go.Proofs.YtidkjiglmfhjpaaDoorW.PrintLast Go.Proofs.YtidkjiglmfhjpaaDoorW.PrintMore
attribute [local go_sem] max2_int min2_int max_two min_two max_three min_three max_four min_four   -- for this text's walks alone
set_option linter.unusedVariables false
set_option linter.unusedSimpArgs false

/-! ### assizeref01_Join: function 16 -/
mutual
def assizeref01_Join.l0 : Nat → List (S33) → List Int → Int → Int → Option (ByteArray × Int)
  | 0, _, _, _, _ => none
  | k + 1, x0, x4, x5, x6 => if x6 < (x0.length : Int) then (if 0 ≤ x6 then (if x5 = 8 then (if ((rd_T33 x0 x6).f0) = 8 then (assizeref01_Join.j1 k x0 x4 x6 ((rd_T33 x0 x6).f0) true) else (assizeref01_Join.j1 k x0 x4 x6 ((rd_T33 x0 x6).f0) (((rd_T33 x0 x6).f0) == 9))) else (if x5 = 9 then (if ((rd_T33 x0 x6).f0) = 8 then (assizeref01_Join.j1 k x0 x4 x6 ((rd_T33 x0 x6).f0) true) else (assizeref01_Join.j1 k x0 x4 x6 ((rd_T33 x0 x6).f0) (((rd_T33 x0 x6).f0) == 9))) else (assizeref01_Join.j1 k x0 x4 x6 ((rd_T33 x0 x6).f0) false))) else (none)) else (some (strOfNums x4, 0))
def assizeref01_Join.j1 : Nat → List (S33) → List Int → Int → Int → Bool → Option (ByteArray × Int)
  | 0, _, _, _, _, _ => none
  | k + 1, x0, x4, x6, x7, x32 => if x32 = true then (if x4.length < 140737488355328 then (assizeref01_Join.j2 k x0 (x4 ++ [32]) x6 x7) else (none)) else (assizeref01_Join.j2 k x0 x4 x6 x7)
def assizeref01_Join.j2 : Nat → List (S33) → List Int → Int → Int → Option (ByteArray × Int)
  | 0, _, _, _, _ => none
  | k + 1, x0, x4, x6, x7 => if x7 ≥ 1 then (assizeref01_Join.j3 k x0 x4 x7 x6 x7 (decide (x7 ≤ 6))) else (assizeref01_Join.j3 k x0 x4 x7 x6 x7 false)
def assizeref01_Join.j3 : Nat → List (S33) → List Int → Int → Int → Int → Bool → Option (ByteArray × Int)
  | 0, _, _, _, _, _, _ => none
  | k + 1, x0, x4, x5, x6, x7, x37 => if x37 = true then (if 0 ≤ (wrap64 (x7 - 1)) then (if (wrap64 (x7 - 1)) < 6 then (if x4.length < 140737488355328 then (assizeref01_Join.l0 k x0 (x4 ++ [bt (⟨#[123, 125, 91, 93, 58, 44]⟩ : ByteArray) (wrap64 (x7 - 1))]) x5 (wrap64 (x6 + 1))) else (none)) else (none)) else (none)) else (if x7 = 7 then (if 0 ≤ x6 then (if x6 < (x0.length : Int) then ((assizeref01_Quote.f k ((rd_T33 x0 x6).f1)).bind fun t243 => (if x4.length + t243.size < 140737488355328 then (assizeref01_Join.l0 k x0 (x4 ++ bytesOf t243) x5 (wrap64 (x6 + 1))) else (none))) else (none)) else (none)) else (if x7 = 8 then (if 0 ≤ x6 then (if x6 < (x0.length : Int) then ((strconv_FormatInt.f k ((rd_T33 x0 x6).f2) 10).bind fun t248 => (if x4.length + t248.size < 140737488355328 then (assizeref01_Join.l0 k x0 (x4 ++ bytesOf t248) x5 (wrap64 (x6 + 1))) else (none))) else (none)) else (none)) else (if x7 = 9 then (if 0 ≤ x6 then (if x6 < (x0.length : Int) then (if ((rd_T33 x0 x6).f1).toList = ([116, 114, 117, 101] : List UInt8) then (assizeref01_Join.j4 k x0 x4 x5 x6 x7 true) else (if ((rd_T33 x0 x6).f1).toList = ([102, 97, 108, 115, 101] : List UInt8) then (assizeref01_Join.j4 k x0 x4 x5 x6 x7 true) else (assizeref01_Join.j4 k x0 x4 x5 x6 x7 (((rd_T33 x0 x6).f1).toList == ([110, 117, 108, 108] : List UInt8))))) else (none)) else (none)) else (assizeref01_Join.j4 k x0 x4 x5 x6 x7 false))))
def assizeref01_Join.j4 : Nat → List (S33) → List Int → Int → Int → Int → Bool → Option (ByteArray × Int)
  | 0, _, _, _, _, _, _ => none
  | k + 1, x0, x4, x5, x6, x7, x72 => if x72 = true then (if 0 ≤ x6 then (if x6 < (x0.length : Int) then (if x4.length + ((rd_T33 x0 x6).f1).size < 140737488355328 then (assizeref01_Join.l0 k x0 (x4 ++ bytesOf ((rd_T33 x0 x6).f1)) x5 (wrap64 (x6 + 1))) else (none)) else (none)) else (none)) else (if x7 = 10 then (if x4.length < 140737488355328 then (assizeref01_Join.l0 k x0 (x4 ++ [10]) x5 (wrap64 (x6 + 1))) else (none)) else (some ((⟨#[]⟩ : ByteArray), 1)))
end
def assizeref01_Join.f (k : Nat) (l0 : List (S33)) : Option (ByteArray × Int) := assizeref01_Join.l0 k l0 ([] : List Int) 0 0
theorem assizeref01_Join.mono_l : ∀ k, (∀ y0 y1 y2 y3, LeO (assizeref01_Join.l0 k y0 y1 y2 y3) (assizeref01_Join.l0 (k + 1) y0 y1 y2 y3)) ∧ (∀ y0 y1 y2 y3 y4, LeO (assizeref01_Join.j1 k y0 y1 y2 y3 y4) (assizeref01_Join.j1 (k + 1) y0 y1 y2 y3 y4)) ∧ (∀ y0 y1 y2 y3, LeO (assizeref01_Join.j2 k y0 y1 y2 y3) (assizeref01_Join.j2 (k + 1) y0 y1 y2 y3)) ∧ (∀ y0 y1 y2 y3 y4 y5, LeO (assizeref01_Join.j3 k y0 y1 y2 y3 y4 y5) (assizeref01_Join.j3 (k + 1) y0 y1 y2 y3 y4 y5)) ∧ (∀ y0 y1 y2 y3 y4 y5, LeO (assizeref01_Join.j4 k y0 y1 y2 y3 y4 y5) (assizeref01_Join.j4 (k + 1) y0 y1 y2 y3 y4 y5))
  | 0 => ⟨fun _ _ _ _ r h => by simp [assizeref01_Join.l0] at h, fun _ _ _ _ _ r h => by simp [assizeref01_Join.j1] at h, fun _ _ _ _ r h => by simp [assizeref01_Join.j2] at h, fun _ _ _ _ _ _ r h => by simp [assizeref01_Join.j3] at h, fun _ _ _ _ _ _ r h => by simp [assizeref01_Join.j4] at h⟩
  | k + 1 => by
    obtain ⟨ih0, ih1, ih2, ih3, ih4⟩ := assizeref01_Join.mono_l k
    refine ⟨?_, ?_, ?_, ?_, ?_⟩
    · intro y0 y1 y2 y3
      unfold assizeref01_Join.l0
      repeat' first
      | (with_reducible exact ih0 _ _ _ _)
      | (with_reducible exact ih1 _ _ _ _ _)
      | (with_reducible exact ih2 _ _ _ _)
      | (with_reducible exact ih3 _ _ _ _ _ _)
      | (with_reducible exact ih4 _ _ _ _ _ _)
      | (with_reducible exact assizeref01_Quote.mono _ _)
      | (with_reducible exact strconv_FormatInt.mono _ _ _)
      | (with_reducible exact LeO.refl _)
      | (with_reducible exact LeO.none _)
      | (with_reducible refine LeO.ite ?_ ?_)
      | (with_reducible refine LeO.bind ?_ (fun _ => ?_))
      | exact ih0 _ _ _ _
      | exact ih1 _ _ _ _ _
      | exact ih2 _ _ _ _
      | exact ih3 _ _ _ _ _ _
      | exact ih4 _ _ _ _ _ _
      | exact assizeref01_Quote.mono _ _
      | exact strconv_FormatInt.mono _ _ _
      | exact LeO.none _
      | refine LeO.ite ?_ ?_
      | refine LeO.bind ?_ (fun _ => ?_)
    · intro y0 y1 y2 y3 y4
      unfold assizeref01_Join.j1
      repeat' first
      | (with_reducible exact ih0 _ _ _ _)
      | (with_reducible exact ih1 _ _ _ _ _)
      | (with_reducible exact ih2 _ _ _ _)
      | (with_reducible exact ih3 _ _ _ _ _ _)
      | (with_reducible exact ih4 _ _ _ _ _ _)
      | (with_reducible exact assizeref01_Quote.mono _ _)
      | (with_reducible exact strconv_FormatInt.mono _ _ _)
      | (with_reducible exact LeO.refl _)
      | (with_reducible exact LeO.none _)
      | (with_reducible refine LeO.ite ?_ ?_)
      | (with_reducible refine LeO.bind ?_ (fun _ => ?_))
      | exact ih0 _ _ _ _
      | exact ih1 _ _ _ _ _
      | exact ih2 _ _ _ _
      | exact ih3 _ _ _ _ _ _
      | exact ih4 _ _ _ _ _ _
      | exact assizeref01_Quote.mono _ _
      | exact strconv_FormatInt.mono _ _ _
      | exact LeO.none _
      | refine LeO.ite ?_ ?_
      | refine LeO.bind ?_ (fun _ => ?_)
    · intro y0 y1 y2 y3
      unfold assizeref01_Join.j2
      repeat' first
      | (with_reducible exact ih0 _ _ _ _)
      | (with_reducible exact ih1 _ _ _ _ _)
      | (with_reducible exact ih2 _ _ _ _)
      | (with_reducible exact ih3 _ _ _ _ _ _)
      | (with_reducible exact ih4 _ _ _ _ _ _)
      | (with_reducible exact assizeref01_Quote.mono _ _)
      | (with_reducible exact strconv_FormatInt.mono _ _ _)
      | (with_reducible exact LeO.refl _)
      | (with_reducible exact LeO.none _)
      | (with_reducible refine LeO.ite ?_ ?_)
      | (with_reducible refine LeO.bind ?_ (fun _ => ?_))
      | exact ih0 _ _ _ _
      | exact ih1 _ _ _ _ _
      | exact ih2 _ _ _ _
      | exact ih3 _ _ _ _ _ _
      | exact ih4 _ _ _ _ _ _
      | exact assizeref01_Quote.mono _ _
      | exact strconv_FormatInt.mono _ _ _
      | exact LeO.none _
      | refine LeO.ite ?_ ?_
      | refine LeO.bind ?_ (fun _ => ?_)
    · intro y0 y1 y2 y3 y4 y5
      unfold assizeref01_Join.j3
      repeat' first
      | (with_reducible exact ih0 _ _ _ _)
      | (with_reducible exact ih1 _ _ _ _ _)
      | (with_reducible exact ih2 _ _ _ _)
      | (with_reducible exact ih3 _ _ _ _ _ _)
      | (with_reducible exact ih4 _ _ _ _ _ _)
      | (with_reducible exact assizeref01_Quote.mono _ _)
      | (with_reducible exact strconv_FormatInt.mono _ _ _)
      | (with_reducible exact LeO.refl _)
      | (with_reducible exact LeO.none _)
      | (with_reducible refine LeO.ite ?_ ?_)
      | (with_reducible refine LeO.bind ?_ (fun _ => ?_))
      | exact ih0 _ _ _ _
      | exact ih1 _ _ _ _ _
      | exact ih2 _ _ _ _
      | exact ih3 _ _ _ _ _ _
      | exact ih4 _ _ _ _ _ _
      | exact assizeref01_Quote.mono _ _
      | exact strconv_FormatInt.mono _ _ _
      | exact LeO.none _
      | refine LeO.ite ?_ ?_
      | refine LeO.bind ?_ (fun _ => ?_)
    · intro y0 y1 y2 y3 y4 y5
      unfold assizeref01_Join.j4
      repeat' first
      | (with_reducible exact ih0 _ _ _ _)
      | (with_reducible exact ih1 _ _ _ _ _)
      | (with_reducible exact ih2 _ _ _ _)
      | (with_reducible exact ih3 _ _ _ _ _ _)
      | (with_reducible exact ih4 _ _ _ _ _ _)
      | (with_reducible exact assizeref01_Quote.mono _ _)
      | (with_reducible exact strconv_FormatInt.mono _ _ _)
      | (with_reducible exact LeO.refl _)
      | (with_reducible exact LeO.none _)
      | (with_reducible refine LeO.ite ?_ ?_)
      | (with_reducible refine LeO.bind ?_ (fun _ => ?_))
      | exact ih0 _ _ _ _
      | exact ih1 _ _ _ _ _
      | exact ih2 _ _ _ _
      | exact ih3 _ _ _ _ _ _
      | exact ih4 _ _ _ _ _ _
      | exact assizeref01_Quote.mono _ _
      | exact strconv_FormatInt.mono _ _ _
      | exact LeO.none _
      | refine LeO.ite ?_ ?_
      | refine LeO.bind ?_ (fun _ => ?_)
theorem assizeref01_Join.mono : ∀ a0 k, LeO (assizeref01_Join.f k a0) (assizeref01_Join.f (k + 1) a0) := by
  intro a0 k
  obtain ⟨ih0, ih1, ih2, ih3, ih4⟩ := assizeref01_Join.mono_l k
  unfold assizeref01_Join.f
  repeat' first
      | (with_reducible exact ih0 _ _ _ _)
      | (with_reducible exact ih1 _ _ _ _ _)
      | (with_reducible exact ih2 _ _ _ _)
      | (with_reducible exact ih3 _ _ _ _ _ _)
      | (with_reducible exact ih4 _ _ _ _ _ _)
      | (with_reducible exact assizeref01_Quote.mono _ _)
      | (with_reducible exact strconv_FormatInt.mono _ _ _)
      | (with_reducible exact LeO.refl _)
      | (with_reducible exact LeO.none _)
      | (with_reducible refine LeO.ite ?_ ?_)
      | (with_reducible refine LeO.bind ?_ (fun _ => ?_))
      | exact ih0 _ _ _ _
      | exact ih1 _ _ _ _ _
      | exact ih2 _ _ _ _
      | exact ih3 _ _ _ _ _ _
      | exact ih4 _ _ _ _ _ _
      | exact assizeref01_Quote.mono _ _
      | exact strconv_FormatInt.mono _ _ _
      | exact LeO.none _
      | refine LeO.ite ?_ ?_
      | refine LeO.bind ?_ (fun _ => ?_)
set_option maxHeartbeats 8000000 in
set_option maxRecDepth 100000 in
theorem assizeref01_Join.calls (k : Nat) (A0 : Option Addr) (c0 : Nat) (l0 : List (S33)) (r1 : ByteArray) (r2 : Int) (w : World) (hr0 : Kd.C k33 w A0 l0.length l0) (hc0 : l0.length ≤ c0) (h : assizeref01_Join.f k l0 = some (r1, r2)) (htab : Go.Proofs.YtidkjiglmfhjpaaDoor.Lx.LW w) :
    Calls Tryd.prog 16 #[.slice A0 l0.length c0] w fun e w' => e = .returned (.tuple #[.string r1, .int .i64 r2]) ∧ Below w.heap.size w w' := by
  have HTAB := Aside0.mk htab
  clear htab
  have HR0 := Aside0.mk hr0
  have HC0 := Aside0.mk hc0
  clear hr0 hc0
  have HB := Aside0.mk (Below.refl w.heap.size w)
  have H : (assizeref01_Join.l0 k l0 ([] : List Int) 0 0) = some (r1, r2) := h
  clear h
  have H' := Aside0.mk H
  clear H
  go_enter Tryd.func16, Tryd.ntmps16
  go_wp2
  go_loopg [4, 5, 6] k (fun kq v4 v5 v6 w' => ∃ (x4_1 : List Int) (x5_1 : Int) (x6_1 : Int), v5 = .int .i64 x5_1 ∧ v6 = .int .i64 x6_1 ∧ Aside0 (assizeref01_Join.l0 kq l0 x4_1 x5_1 x6_1 = some (r1, r2)) ∧ Aside0 (kq ≤ k) ∧ Aside0 (Kd.R (Kd.int .u8) 5 w' w.heap.size (fun _ => True) v4 x4_1) ∧ Aside0 (Below w.heap.size w w'))
  case atStart => exact ⟨(([] : List Int)), (0), (0), (by first | rfl | (simp; done) | (simp [*]; done)), (by first | rfl | (simp; done) | (simp [*]; done)), H', ⟨Nat.le_refl _⟩, ⟨by first | exact Kd.R_nil _ _ _ _ _ | exact Kd.N_nil _ _ _ _ _ | exact Kd.V_nil _ _ _ _ _ | exact Kd.Q_nil _ _ _ _ _ | exact Kd.S_nil _ _ _ _ _⟩, ⟨by repeat (first | (with_reducible first | exact HB.out | apply below_alloc | apply pw_below_drewN | apply below_drew1) | exact HB.out)⟩⟩
  case round =>
    clear H'
    try clear c1
    obtain ⟨x4_1, x5_1, x6_1, rfl, rfl, HA, HK1, HO_4, HB⟩ := hrel
    cases gk with
    | zero => exact absurd HA.out (by simp [assizeref01_Join.l0])
    | succ k1 =>
      have H := HA.out
      clear HA
      simp only [assizeref01_Join.l0] at H
      by_cases c2 : x6_1 < (l0.length : Int)
      · rw [if_pos c2] at H
        have c2b0 : decide (x6_1 < (l0.length : Int)) = true := decide_eq_true c2
        clear c2
        by_cases c3 : 0 ≤ x6_1
        · rw [if_pos c3] at H
          have c3b0 : decide (0 ≤ x6_1) = true := decide_eq_true c3
          clear c3
          have HC4 := Aside0.mk H
          clear H
          have p235 : 0 ≤ (x6_1 : Int) := of_decide_eq_true (by first | (with_reducible assumption) | assumption)
          have q235 : x6_1 < (l0.length : Int) := of_decide_eq_true (by first | (with_reducible assumption) | assumption)
          obtain ⟨ad235, e235, hx235_0, hx235_1, hx235_2, hx235_3⟩ := at_T33 HR0.out x6_1 p235 q235
          cases e235
          replace hx235_0 := (HB.out.cell (World.block_lt_of_cell? w _ hx235_0)).trans hx235_0
          replace hx235_1 := (HB.out.cell (World.block_lt_of_cell? w _ hx235_1)).trans hx235_1
          replace hx235_2 := (HB.out.cell (World.block_lt_of_cell? w _ hx235_2)).trans hx235_2
          replace hx235_3 := (HB.out.cell (World.block_lt_of_cell? w _ hx235_3)).trans hx235_3
          replace p235 := eq_true p235
          replace q235 := eq_true q235
          go_upto_region 7 with (fail)
          go_cut [32] (fun v32 wc => ∃ (kq : Nat) (x32_3 : Bool), v32 = .bool x32_3 ∧ Aside0 (assizeref01_Join.j1 kq l0 x4_1 x6_1 ((rd_T33 l0 x6_1).f0) x32_3 = some (r1, r2)) ∧ Aside0 (kq ≤ k1) ∧ Aside0 (Kd.R (Kd.int .u8) 5 wc w.heap.size (fun _ => True) u4 x4_1) ∧ Aside0 (Below w.heap.size w wc))
          case first =>
            have H := HC4.out
            clear HC4
            by_cases c5 : x5_1 = 8
            · rw [if_pos c5] at H
              have c5b0 : (x5_1 == 8) = true := beq_iff_eq.mpr c5
              have c5b1 : (x5_1 != 8) = false := bne_eq_false_iff_eq.mpr c5
              clear c5
              (first | rw [c5b0] | (simp only [i64_w, i32_w]; rw [c5b0]) | skip)
              by_cases c6 : ((rd_T33 l0 x6_1).f0) = 8
              · rw [if_pos c6] at H
                have c6b0 : (((rd_T33 l0 x6_1).f0) == 8) = true := beq_iff_eq.mpr c6
                have c6b1 : (((rd_T33 l0 x6_1).f0) != 8) = false := bne_eq_false_iff_eq.mpr c6
                clear c6
                have H' := Aside0.mk H
                clear H
                go_wp2
                go_meet
                case rel => exact ⟨_, (true), (by first | rfl | (simp; done) | (simp [*]; done)), H', ⟨by have := HK1.out; first | omega | exact Nat.le_refl _⟩, ⟨by (with_reducible repeat (first | apply Kd.R_alloc | apply Kd.R_drewN | apply Kd.R_drew)); exact HO_4.out⟩, ⟨by repeat (first | (with_reducible first | exact HB.out | apply below_alloc | apply pw_below_drewN | apply below_drew1) | exact HB.out)⟩⟩
              · rw [if_neg c6] at H
                have c6b0 : (((rd_T33 l0 x6_1).f0) == 8) = false := beq_eq_false_iff_ne.mpr c6
                have c6b1 : (((rd_T33 l0 x6_1).f0) != 8) = true := bne_iff_ne.mpr c6
                have H' := Aside0.mk H
                clear H
                go_wp2
                go_meet
                case rel => exact ⟨_, ((((rd_T33 l0 x6_1).f0) == 9)), (by first | rfl | (simp; done) | (simp [*]; done)), H', ⟨by have := HK1.out; first | omega | exact Nat.le_refl _⟩, ⟨by (with_reducible repeat (first | apply Kd.R_alloc | apply Kd.R_drewN | apply Kd.R_drew)); exact HO_4.out⟩, ⟨by repeat (first | (with_reducible first | exact HB.out | apply below_alloc | apply pw_below_drewN | apply below_drew1) | exact HB.out)⟩⟩
            · rw [if_neg c5] at H
              have c5b0 : (x5_1 == 8) = false := beq_eq_false_iff_ne.mpr c5
              have c5b1 : (x5_1 != 8) = true := bne_iff_ne.mpr c5
              (first | rw [c5b0] | (simp only [i64_w, i32_w]; rw [c5b0]) | skip)
              by_cases c7 : x5_1 = 9
              · rw [if_pos c7] at H
                have c7b0 : (x5_1 == 9) = true := beq_iff_eq.mpr c7
                have c7b1 : (x5_1 != 9) = false := bne_eq_false_iff_eq.mpr c7
                clear c7
                by_cases c8 : ((rd_T33 l0 x6_1).f0) = 8
                · rw [if_pos c8] at H
                  have c8b0 : (((rd_T33 l0 x6_1).f0) == 8) = true := beq_iff_eq.mpr c8
                  have c8b1 : (((rd_T33 l0 x6_1).f0) != 8) = false := bne_eq_false_iff_eq.mpr c8
                  clear c8
                  have H' := Aside0.mk H
                  clear H
                  go_wp2
                  go_meet
                  case rel => exact ⟨_, (true), (by first | rfl | (simp; done) | (simp [*]; done)), H', ⟨by have := HK1.out; first | omega | exact Nat.le_refl _⟩, ⟨by (with_reducible repeat (first | apply Kd.R_alloc | apply Kd.R_drewN | apply Kd.R_drew)); exact HO_4.out⟩, ⟨by repeat (first | (with_reducible first | exact HB.out | apply below_alloc | apply pw_below_drewN | apply below_drew1) | exact HB.out)⟩⟩
                · rw [if_neg c8] at H
                  have c8b0 : (((rd_T33 l0 x6_1).f0) == 8) = false := beq_eq_false_iff_ne.mpr c8
                  have c8b1 : (((rd_T33 l0 x6_1).f0) != 8) = true := bne_iff_ne.mpr c8
                  have H' := Aside0.mk H
                  clear H
                  go_wp2
                  go_meet
                  case rel => exact ⟨_, ((((rd_T33 l0 x6_1).f0) == 9)), (by first | rfl | (simp; done) | (simp [*]; done)), H', ⟨by have := HK1.out; first | omega | exact Nat.le_refl _⟩, ⟨by (with_reducible repeat (first | apply Kd.R_alloc | apply Kd.R_drewN | apply Kd.R_drew)); exact HO_4.out⟩, ⟨by repeat (first | (with_reducible first | exact HB.out | apply below_alloc | apply pw_below_drewN | apply below_drew1) | exact HB.out)⟩⟩
              · rw [if_neg c7] at H
                have c7b0 : (x5_1 == 9) = false := beq_eq_false_iff_ne.mpr c7
                have c7b1 : (x5_1 != 9) = true := bne_iff_ne.mpr c7
                have H' := Aside0.mk H
                clear H
                go_wp2
                go_meet
                case rel => exact ⟨_, (false), (by first | rfl | (simp; done) | (simp [*]; done)), H', ⟨by have := HK1.out; first | omega | exact Nat.le_refl _⟩, ⟨by (with_reducible repeat (first | apply Kd.R_alloc | apply Kd.R_drewN | apply Kd.R_drew)); exact HO_4.out⟩, ⟨by repeat (first | (with_reducible first | exact HB.out | apply below_alloc | apply pw_below_drewN | apply below_drew1) | exact HB.out)⟩⟩
          case rest =>
            clear HC4
            try clear c1
            try clear c2
            try clear c2b0
            try clear p2
            try clear q2
            try clear hx2
            try clear c3
            try clear c3b0
            try clear c5
            try clear c5b0
            try clear c5b1
            try clear c6
            try clear c6b0
            try clear c6b1
            try clear c7
            try clear c7b0
            try clear c7b1
            try clear c8
            try clear c8b0
            try clear c8b1
            try clear hx235_0
            try clear hx235_1
            try clear hx235_2
            try clear hx235_3
            try clear p235
            try clear q235
            obtain ⟨kq, x32_3, rfl, HA, HJ3, HO_4, HB⟩ := hcut
            cases kq with
            | zero => exact absurd HA.out (by simp [assizeref01_Join.j1])
            | succ kj3 =>
              have H := HA.out
              clear HA
              simp only [assizeref01_Join.j1] at H
              have HC9 := Aside0.mk H
              clear H
              go_upto_if 32 with (fail)
              go_cut [4] (fun v4 wc => ∃ (kq : Nat) (x4_8 : List Int), Aside0 (assizeref01_Join.j2 kq l0 x4_8 x6_1 ((rd_T33 l0 x6_1).f0) = some (r1, r2)) ∧ Aside0 (kq ≤ kj3) ∧ Aside0 (Kd.R (Kd.int .u8) 5 wc w.heap.size (fun _ => True) v4 x4_8) ∧ Aside0 (Below w.heap.size w wc))
              case first =>
                have H := HC9.out
                clear HC9
                by_cases c10 : x32_3 = true
                · subst c10
                  have H1 : (if x4_1.length < 140737488355328 then (assizeref01_Join.j2 kj3 l0 (x4_1 ++ [32]) x6_1 ((rd_T33 l0 x6_1).f0)) else (none)) = some (r1, r2) := by rw [if_pos rfl] at H; exact H
                  clear H
                  have H := H1
                  clear H1
                  by_cases c11 : x4_1.length < 140737488355328
                  · rw [if_pos c11] at H
                    have LMc11 := Aside0.mk c11
                    clear c11
                    obtain ⟨y236, hy236⟩ : ∃ y_ : List Int, y_ = (x4_1 ++ [32]) := ⟨_, rfl⟩
                    replace H : (assizeref01_Join.j2 kj3 l0 y236 x6_1 ((rd_T33 l0 x6_1).f0)) = some (r1, r2) := by first | (rw [hy236]; with_reducible exact H) | (have H2_ := (Option.bind_some _ _).symm.trans H; rw [hy236]; with_reducible exact H2_) | (have H2_ := (Option.bind_some _ _).symm.trans H; with_reducible exact H2_) | with_reducible exact H | (rw [hy236]; exact H) | exact H
                    have Ny236 := Aside0.mk hy236
                    clear hy236
                    have H' := Aside0.mk H
                    clear H
                    go_wp2_with (first | ((with_reducible refine gate_builtin (b := .append) (xs := #[.tmp 33, .tmp 34]) rfl ?_); at_builtin; refine Kd.R_append (Kd.int .u8) (w0 := w) w.heap.size rfl (.tmp 33) (.tmp 34) 51 5 (.int .u8 0) 1 rfl Tryd.underlying51 info5 rfl (by decide) (by omega) u4 x4_1 32 [.int .u8 32] (fun _ => True) (fun _ => False) rfl rfl ?aP (fun _ hk => hk.elim) ?aF ?aO ?aB ?aS ?aL ?_; (case aP => exact rfl); (case aB => exact (by repeat (first | (with_reducible first | exact HB.out | apply below_alloc | apply pw_below_drewN | apply below_drew1) | exact HB.out))); (case aF => exact (fun _ _ => trivial)); (case aO => exact (by (with_reducible repeat (first | apply Kd.R_alloc | apply Kd.R_drewN | apply Kd.R_drew)); exact HO_4.out)); (case aS => exact (below_size (by repeat (first | (with_reducible first | exact HB.out | apply below_alloc | apply pw_below_drewN | apply below_drew1) | exact HB.out)))); (case aL => have := LMc11.out; omega); intro v237 w12 ho hb hg hat; rw [← Ny236.out] at ho; have n0_ := Aside0.mk (hb); have n1_ := Aside0.mk (ho); clear HB; clear HO_4; have HB := n0_; have HO238 := n1_; clear n0_ n1_; clear ho hb hg hat))
                    go_meet
                    case rel => exact ⟨_, (y236), H', ⟨by have := HK1.out; have := HJ3.out; first | omega | exact Nat.le_refl _⟩, ⟨by (with_reducible repeat (first | apply Kd.R_alloc | apply Kd.R_drewN | apply Kd.R_drew)); exact HO238.out⟩, ⟨by repeat (first | (with_reducible first | exact HB.out | apply below_alloc | apply pw_below_drewN | apply below_drew1) | exact HB.out)⟩⟩
                  · rw [if_neg c11] at H
                    exact absurd H (by simp)
                · replace c10 := Bool.eq_false_iff.mpr c10
                  subst c10
                  have H1 : (assizeref01_Join.j2 kj3 l0 x4_1 x6_1 ((rd_T33 l0 x6_1).f0)) = some (r1, r2) := by rw [if_neg (show ¬ (false = true) by decide)] at H; exact H
                  clear H
                  have H := H1
                  clear H1
                  have H' := Aside0.mk H
                  clear H
                  go_wp2
                  go_meet
                  case rel => exact ⟨_, (x4_1), H', ⟨by have := HK1.out; have := HJ3.out; first | omega | exact Nat.le_refl _⟩, ⟨by (with_reducible repeat (first | apply Kd.R_alloc | apply Kd.R_drewN | apply Kd.R_drew)); exact HO_4.out⟩, ⟨by repeat (first | (with_reducible first | exact HB.out | apply below_alloc | apply pw_below_drewN | apply below_drew1) | exact HB.out)⟩⟩
              case rest =>
                clear HC9
                try clear c1
                try clear c2
                try clear c2b0
                try clear p2
                try clear q2
                try clear hx2
                try clear c3
                try clear c3b0
                try clear c5
                try clear c5b0
                try clear c5b1
                try clear c6
                try clear c6b0
                try clear c6b1
                try clear c7
                try clear c7b0
                try clear c7b1
                try clear c8
                try clear c8b0
                try clear c8b1
                try clear c10
                try clear c11
                try clear hx235_0
                try clear hx235_1
                try clear hx235_2
                try clear hx235_3
                try clear p2
                try clear p235
                try clear q2
                try clear q235
                obtain ⟨kq, x4_8, HA, HJ8, HO_4, HB⟩ := hcut
                cases kq with
                | zero => exact absurd HA.out (by simp [assizeref01_Join.j2])
                | succ kj8 =>
                  have H := HA.out
                  clear HA
                  simp only [assizeref01_Join.j2] at H
                  have HC13 := Aside0.mk H
                  clear H
                  go_upto_region 11 with (fail)
                  go_cut [37] (fun v37 wc => ∃ (kq : Nat) (x37_12 : Bool), v37 = .bool x37_12 ∧ Aside0 (assizeref01_Join.j3 kq l0 x4_8 ((rd_T33 l0 x6_1).f0) x6_1 ((rd_T33 l0 x6_1).f0) x37_12 = some (r1, r2)) ∧ Aside0 (kq ≤ kj8) ∧ Aside0 (Kd.R (Kd.int .u8) 5 wc w.heap.size (fun _ => True) u4 x4_8) ∧ Aside0 (Below w.heap.size w wc))
                  case first =>
                    have H := HC13.out
                    clear HC13
                    by_cases c14 : ((rd_T33 l0 x6_1).f0) ≥ 1
                    · rw [if_pos c14] at H
                      have c14b0 : decide (1 ≤ ((rd_T33 l0 x6_1).f0)) = true := decide_eq_true c14
                      clear c14
                      (first | rw [c14b0] | (simp only [i64_w, i32_w]; rw [c14b0]) | skip)
                      have H' := Aside0.mk H
                      clear H
                      go_wp2
                      go_meet
                      case rel => exact ⟨_, (decide (((rd_T33 l0 x6_1).f0) ≤ 6)), (by first | rfl | (simp; done) | (simp [*]; done)), H', ⟨by have := HK1.out; have := HJ3.out; have := HJ8.out; first | omega | exact Nat.le_refl _⟩, ⟨by (with_reducible repeat (first | apply Kd.R_alloc | apply Kd.R_drewN | apply Kd.R_drew)); exact HO_4.out⟩, ⟨by repeat (first | (with_reducible first | exact HB.out | apply below_alloc | apply pw_below_drewN | apply below_drew1) | exact HB.out)⟩⟩
                    · rw [if_neg c14] at H
                      have c14b0 : decide (1 ≤ ((rd_T33 l0 x6_1).f0)) = false := decide_eq_false c14
                      clear c14
                      (first | rw [c14b0] | (simp only [i64_w, i32_w]; rw [c14b0]) | skip)
                      have H' := Aside0.mk H
                      clear H
                      go_wp2
                      go_meet
                      case rel => exact ⟨_, (false), (by first | rfl | (simp; done) | (simp [*]; done)), H', ⟨by have := HK1.out; have := HJ3.out; have := HJ8.out; first | omega | exact Nat.le_refl _⟩, ⟨by (with_reducible repeat (first | apply Kd.R_alloc | apply Kd.R_drewN | apply Kd.R_drew)); exact HO_4.out⟩, ⟨by repeat (first | (with_reducible first | exact HB.out | apply below_alloc | apply pw_below_drewN | apply below_drew1) | exact HB.out)⟩⟩
                  case rest =>
                    clear HC13
                    try clear c1
                    try clear c2
                    try clear c2b0
                    try clear p2
                    try clear q2
                    try clear hx2
                    try clear c3
                    try clear c3b0
                    try clear c5
                    try clear c5b0
                    try clear c5b1
                    try clear c6
                    try clear c6b0
                    try clear c6b1
                    try clear c7
                    try clear c7b0
                    try clear c7b1
                    try clear c8
                    try clear c8b0
                    try clear c8b1
                    try clear c10
                    try clear c11
                    try clear c14
                    try clear c14b0
                    try clear hx235_0
                    try clear hx235_1
                    try clear hx235_2
                    try clear hx235_3
                    try clear p2
                    try clear p235
                    try clear q2
                    try clear q235
                    obtain ⟨kq, x37_12, rfl, HA, HJ12, HO_4, HB⟩ := hcut
                    cases kq with
                    | zero => exact absurd HA.out (by simp [assizeref01_Join.j3])
                    | succ kj12 =>
                      have H := HA.out
                      clear HA
                      simp only [assizeref01_Join.j3] at H
                      by_cases c15 : x37_12 = true
                      · subst c15
                        have H1 : (if 0 ≤ (wrap64 (((rd_T33 l0 x6_1).f0) - 1)) then (if (wrap64 (((rd_T33 l0 x6_1).f0) - 1)) < 6 then (if x4_8.length < 140737488355328 then (assizeref01_Join.l0 kj12 l0 (x4_8 ++ [bt (⟨#[123, 125, 91, 93, 58, 44]⟩ : ByteArray) (wrap64 (((rd_T33 l0 x6_1).f0) - 1))]) ((rd_T33 l0 x6_1).f0) (wrap64 (x6_1 + 1))) else (none)) else (none)) else (none)) = some (r1, r2) := by rw [if_pos rfl] at H; exact H
                        clear H
                        have H := H1
                        clear H1
                        obtain ⟨ji16, hji16⟩ : ∃ j_ : Int, (wrap64 (((rd_T33 l0 x6_1).f0) - 1)) = j_ := ⟨_, rfl⟩
                        replace H : (if 0 ≤ (ji16) then (if (ji16) < 6 then (if x4_8.length < 140737488355328 then (assizeref01_Join.l0 kj12 l0 (x4_8 ++ [bt (⟨#[123, 125, 91, 93, 58, 44]⟩ : ByteArray) (ji16)]) ((rd_T33 l0 x6_1).f0) (wrap64 (x6_1 + 1))) else (none)) else (none)) else (none)) = some (r1, r2) := by first | (rw [hji16] at H; exact H) | (simp only [hji16] at H ⊢; exact H)
                        have hji16w : (IntKind.i64.wrap (((rd_T33 l0 x6_1).f0) - 1)) = ji16 := (i64_w _).trans hji16
                        by_cases c17 : 0 ≤ (ji16)
                        · rw [if_pos c17] at H
                          have c17b0 : decide (0 ≤ (ji16)) = true := decide_eq_true c17
                          clear c17
                          by_cases c18 : (ji16) < 6
                          · rw [if_pos c18] at H
                            have c18b0 : decide ((ji16) < 6) = true := decide_eq_true c18
                            clear c18
                            by_cases c20 : x4_8.length < 140737488355328
                            · rw [if_pos c20] at H
                              have LMc20 := Aside0.mk c20
                              clear c20
                              obtain ⟨y239, hy239⟩ : ∃ y_ : List Int, y_ = (x4_8 ++ [bt (⟨#[123, 125, 91, 93, 58, 44]⟩ : ByteArray) (ji16)]) := ⟨_, rfl⟩
                              replace H : (assizeref01_Join.l0 kj12 l0 y239 ((rd_T33 l0 x6_1).f0) (wrap64 (x6_1 + 1))) = some (r1, r2) := by first | (rw [hy239]; with_reducible exact H) | (have H2_ := (Option.bind_some _ _).symm.trans H; rw [hy239]; with_reducible exact H2_) | (have H2_ := (Option.bind_some _ _).symm.trans H; with_reducible exact H2_) | with_reducible exact H | (rw [hy239]; exact H) | exact H
                              have Ny239 := Aside0.mk hy239
                              clear hy239
                              have H' := Aside0.mk H
                              clear H
                              have p19 : 0 ≤ ((ji16) : Int) := of_decide_eq_true (by first | (with_reducible assumption) | assumption)
                              have q19 : (ji16) < (6 : Int) := of_decide_eq_true (by first | (with_reducible assumption) | assumption)
                              have hx19 := bt_at (⟨#[123, 125, 91, 93, 58, 44]⟩ : ByteArray) (ji16)
                              replace p19 := eq_true p19
                              replace q19 := eq_true q19
                              go_wp2_with (first | ((with_reducible refine gate_builtin (b := .append) (xs := #[.tmp 44, .tmp 48]) rfl ?_); at_builtin; refine Kd.R_append (Kd.int .u8) (w0 := w) w.heap.size rfl (.tmp 44) (.tmp 48) 51 5 (.int .u8 0) 1 rfl Tryd.underlying51 info5 rfl (by decide) (by omega) u4 x4_8 (bt (⟨#[123, 125, 91, 93, 58, 44]⟩ : ByteArray) (ji16)) [.int .u8 (bt (⟨#[123, 125, 91, 93, 58, 44]⟩ : ByteArray) (ji16))] (fun _ => True) (fun _ => False) rfl rfl ?aP (fun _ hk => hk.elim) ?aF ?aO ?aB ?aS ?aL ?_; (case aP => exact rfl); (case aB => exact (by repeat (first | (with_reducible first | exact HB.out | apply below_alloc | apply pw_below_drewN | apply below_drew1) | exact HB.out))); (case aF => exact (fun _ _ => trivial)); (case aO => exact (by (with_reducible repeat (first | apply Kd.R_alloc | apply Kd.R_drewN | apply Kd.R_drew)); exact HO_4.out)); (case aS => exact (below_size (by repeat (first | (with_reducible first | exact HB.out | apply below_alloc | apply pw_below_drewN | apply below_drew1) | exact HB.out)))); (case aL => have := LMc20.out; omega); intro v240 w21 ho hb hg hat; rw [← Ny239.out] at ho; have n0_ := Aside0.mk (hb); have n1_ := Aside0.mk (ho); clear HB; clear HO_4; have HB := n0_; have HO241 := n1_; clear n0_ n1_; clear ho hb hg hat))
                              go_roundg kj12
                              case measure => have := HK1.out; have := HJ3.out; have := HJ8.out; have := HJ12.out; omega
                              case rel => exact ⟨(y239), (((rd_T33 l0 x6_1).f0)), (wrap64 (x6_1 + 1)), (by first | rfl | (simp; done) | (simp [*]; done)), (by first | rfl | (simp; done) | (simp [*]; done)), H', ⟨by have := HK1.out; have := HJ3.out; have := HJ8.out; have := HJ12.out; omega⟩, ⟨by (with_reducible repeat (first | apply Kd.R_alloc | apply Kd.R_drewN | apply Kd.R_drew)); exact HO241.out⟩, ⟨by repeat (first | (with_reducible first | exact HB.out | apply below_alloc | apply pw_below_drewN | apply below_drew1) | exact HB.out)⟩⟩
                            · rw [if_neg c20] at H
                              exact absurd H (by simp)
                          · rw [if_neg c18] at H
                            exact absurd H (by simp)
                        · rw [if_neg c17] at H
                          exact absurd H (by simp)
                      · replace c15 := Bool.eq_false_iff.mpr c15
                        subst c15
                        have H1 : (if ((rd_T33 l0 x6_1).f0) = 7 then (if 0 ≤ x6_1 then (if x6_1 < (l0.length : Int) then ((assizeref01_Quote.f kj12 ((rd_T33 l0 x6_1).f1)).bind fun t243 => (if x4_8.length + t243.size < 140737488355328 then (assizeref01_Join.l0 kj12 l0 (x4_8 ++ bytesOf t243) ((rd_T33 l0 x6_1).f0) (wrap64 (x6_1 + 1))) else (none))) else (none)) else (none)) else (if ((rd_T33 l0 x6_1).f0) = 8 then (if 0 ≤ x6_1 then (if x6_1 < (l0.length : Int) then ((strconv_FormatInt.f kj12 ((rd_T33 l0 x6_1).f2) 10).bind fun t248 => (if x4_8.length + t248.size < 140737488355328 then (assizeref01_Join.l0 kj12 l0 (x4_8 ++ bytesOf t248) ((rd_T33 l0 x6_1).f0) (wrap64 (x6_1 + 1))) else (none))) else (none)) else (none)) else (if ((rd_T33 l0 x6_1).f0) = 9 then (if 0 ≤ x6_1 then (if x6_1 < (l0.length : Int) then (if ((rd_T33 l0 x6_1).f1).toList = ([116, 114, 117, 101] : List UInt8) then (assizeref01_Join.j4 kj12 l0 x4_8 ((rd_T33 l0 x6_1).f0) x6_1 ((rd_T33 l0 x6_1).f0) true) else (if ((rd_T33 l0 x6_1).f1).toList = ([102, 97, 108, 115, 101] : List UInt8) then (assizeref01_Join.j4 kj12 l0 x4_8 ((rd_T33 l0 x6_1).f0) x6_1 ((rd_T33 l0 x6_1).f0) true) else (assizeref01_Join.j4 kj12 l0 x4_8 ((rd_T33 l0 x6_1).f0) x6_1 ((rd_T33 l0 x6_1).f0) (((rd_T33 l0 x6_1).f1).toList == ([110, 117, 108, 108] : List UInt8))))) else (none)) else (none)) else (assizeref01_Join.j4 kj12 l0 x4_8 ((rd_T33 l0 x6_1).f0) x6_1 ((rd_T33 l0 x6_1).f0) false)))) = some (r1, r2) := by rw [if_neg (show ¬ (false = true) by decide)] at H; exact H
                        clear H
                        have H := H1
                        clear H1
                        by_cases c22 : ((rd_T33 l0 x6_1).f0) = 7
                        · rw [if_pos c22] at H
                          have c22b0 : (((rd_T33 l0 x6_1).f0) == 7) = true := beq_iff_eq.mpr c22
                          have c22b1 : (((rd_T33 l0 x6_1).f0) != 7) = false := bne_eq_false_iff_eq.mpr c22
                          clear c22
                          by_cases c23 : 0 ≤ x6_1
                          · rw [if_pos c23] at H
                            have c23b0 : decide (0 ≤ x6_1) = true := decide_eq_true c23
                            clear c23
                            by_cases c24 : x6_1 < (l0.length : Int)
                            · rw [if_pos c24] at H
                              have c24b0 : decide (x6_1 < (l0.length : Int)) = true := decide_eq_true c24
                              clear c24
                              replace H := Option.bind_eq_some_iff.mp H
                              obtain ⟨t243, A250, H⟩ := H
                              replace H : (if x4_8.length + t243.size < 140737488355328 then (assizeref01_Join.l0 kj12 l0 (x4_8 ++ bytesOf t243) ((rd_T33 l0 x6_1).f0) (wrap64 (x6_1 + 1))) else (none)) = some (r1, r2) := H
                              have A25 := Aside0.mk A250
                              clear A250
                              by_cases c26 : x4_8.length + t243.size < 140737488355328
                              · rw [if_pos c26] at H
                                have LMc26 := Aside0.mk c26
                                clear c26
                                obtain ⟨y244, hy244⟩ : ∃ y_ : List Int, y_ = (x4_8 ++ bytesOf t243) := ⟨_, rfl⟩
                                replace H : (assizeref01_Join.l0 kj12 l0 y244 ((rd_T33 l0 x6_1).f0) (wrap64 (x6_1 + 1))) = some (r1, r2) := by first | (rw [hy244]; with_reducible exact H) | (have H2_ := (Option.bind_some _ _).symm.trans H; rw [hy244]; with_reducible exact H2_) | (have H2_ := (Option.bind_some _ _).symm.trans H; with_reducible exact H2_) | with_reducible exact H | (rw [hy244]; exact H) | exact H
                                have Ny244 := Aside0.mk hy244
                                clear hy244
                                have H' := Aside0.mk H
                                clear H
                                have p242 : 0 ≤ (x6_1 : Int) := of_decide_eq_true (by first | (with_reducible assumption) | assumption)
                                have q242 : x6_1 < (l0.length : Int) := of_decide_eq_true (by first | (with_reducible assumption) | assumption)
                                obtain ⟨ad242, e242, hx242_0, hx242_1, hx242_2, hx242_3⟩ := at_T33 HR0.out x6_1 p242 q242
                                obtain rfl : ad235 = ad242 := (by injection e242)
                                replace hx242_0 := (HB.out.cell (World.block_lt_of_cell? w _ hx242_0)).trans hx242_0
                                replace hx242_1 := (HB.out.cell (World.block_lt_of_cell? w _ hx242_1)).trans hx242_1
                                replace hx242_2 := (HB.out.cell (World.block_lt_of_cell? w _ hx242_2)).trans hx242_2
                                replace hx242_3 := (HB.out.cell (World.block_lt_of_cell? w _ hx242_3)).trans hx242_3
                                replace p242 := eq_true p242
                                replace q242 := eq_true q242
                                go_wp2_with (first | ((with_reducible refine gate_callee (f := 14) rfl ?_); refine goesL_ (some 59) rfl rfl Tryd.func14 (by kernel_rfl) rfl #[.string ((rd_T33 l0 x6_1).f1)] rfl (by (try simp only [List.map_toArray, List.map_cons, List.map_nil]); first | done | rfl | (simp only [List.length_drop, List.length_take]; rfl)) ?_; (with_reducible refine (assizeref01_Quote.calls kj12 ((rd_T33 l0 x6_1).f1) t243 _ A25.out).mono ?_); rintro e w27 ⟨rfl, hb⟩; refine ⟨_, rfl, ?_⟩; have n0_ := Aside0.mk (Kd.R_below (by (with_reducible repeat (first | apply Kd.R_alloc | apply Kd.R_drewN | apply Kd.R_drew)); exact HO_4.out) hb); have n1_ := Aside0.mk (below_step (by repeat (first | (with_reducible first | exact HB.out | apply below_alloc | apply pw_below_drewN | apply below_drew1) | exact HB.out)) hb); clear HO_4; clear HB; have HO_4 := n0_; have HB := n1_; clear n0_ n1_; (try clear hb); (try clear hb2); (try clear hk); (try clear hi)) | (at_builtin; refine print_append_str (w0 := w) w.heap.size rfl (.tmp 53) _ 51 9 5 rfl Tryd.underlying51 Tryd.underlying9 info5 u4 x4_8 t243 rfl rfl ?aO ?aB ?aS ?aL ?_; (case aB => exact (by repeat (first | (with_reducible first | exact HB.out | apply below_alloc | apply pw_below_drewN | apply below_drew1) | exact HB.out))); (case aO => exact (Kd.own_of_R (by (with_reducible repeat (first | apply Kd.R_alloc | apply Kd.R_drewN | apply Kd.R_drew)); exact HO_4.out))); (case aS => exact (below_size (by repeat (first | (with_reducible first | exact HB.out | apply below_alloc | apply pw_below_drewN | apply below_drew1) | exact HB.out)))); (case aL => have := LMc26.out; omega); intro v245 w28 ho0 hb hg; have ho := Kd.R_of_own (h1 := fun _ => rfl) (ok := fun _ => True) ho0 (fun _ _ => trivial); clear ho0; have hat := True.intro; rw [← Ny244.out] at ho; change Kd.R (Kd.int .u8) 5 w28 w.heap.size (fun _ => True) v245 y244 at ho; have n0_ := Aside0.mk (hb); have n1_ := Aside0.mk (ho); clear HB; clear HO_4; have HB := n0_; have HO246 := n1_; clear n0_ n1_; clear ho hb hg hat))
                                go_roundg kj12
                                case measure => have := HK1.out; have := HJ3.out; have := HJ8.out; have := HJ12.out; omega
                                case rel => exact ⟨(y244), (((rd_T33 l0 x6_1).f0)), (wrap64 (x6_1 + 1)), (by first | rfl | (simp; done) | (simp [*]; done)), (by first | rfl | (simp; done) | (simp [*]; done)), H', ⟨by have := HK1.out; have := HJ3.out; have := HJ8.out; have := HJ12.out; omega⟩, ⟨by (with_reducible repeat (first | apply Kd.R_alloc | apply Kd.R_drewN | apply Kd.R_drew)); exact HO246.out⟩, ⟨by repeat (first | (with_reducible first | exact HB.out | apply below_alloc | apply pw_below_drewN | apply below_drew1) | exact HB.out)⟩⟩
                              · rw [if_neg c26] at H
                                exact absurd H (by simp)
                            · rw [if_neg c24] at H
                              exact absurd H (by simp)
                          · rw [if_neg c23] at H
                            exact absurd H (by simp)
                        · rw [if_neg c22] at H
                          have c22b0 : (((rd_T33 l0 x6_1).f0) == 7) = false := beq_eq_false_iff_ne.mpr c22
                          have c22b1 : (((rd_T33 l0 x6_1).f0) != 7) = true := bne_iff_ne.mpr c22
                          by_cases c29 : ((rd_T33 l0 x6_1).f0) = 8
                          · rw [if_pos c29] at H
                            have c29b0 : (((rd_T33 l0 x6_1).f0) == 8) = true := beq_iff_eq.mpr c29
                            have c29b1 : (((rd_T33 l0 x6_1).f0) != 8) = false := bne_eq_false_iff_eq.mpr c29
                            clear c29
                            by_cases c30 : 0 ≤ x6_1
                            · rw [if_pos c30] at H
                              have c30b0 : decide (0 ≤ x6_1) = true := decide_eq_true c30
                              clear c30
                              by_cases c31 : x6_1 < (l0.length : Int)
                              · rw [if_pos c31] at H
                                have c31b0 : decide (x6_1 < (l0.length : Int)) = true := decide_eq_true c31
                                clear c31
                                replace H := Option.bind_eq_some_iff.mp H
                                obtain ⟨t248, A320, H⟩ := H
                                replace H : (if x4_8.length + t248.size < 140737488355328 then (assizeref01_Join.l0 kj12 l0 (x4_8 ++ bytesOf t248) ((rd_T33 l0 x6_1).f0) (wrap64 (x6_1 + 1))) else (none)) = some (r1, r2) := H
                                have A32 := Aside0.mk A320
                                clear A320
                                by_cases c33 : x4_8.length + t248.size < 140737488355328
                                · rw [if_pos c33] at H
                                  have LMc33 := Aside0.mk c33
                                  clear c33
                                  obtain ⟨y249, hy249⟩ : ∃ y_ : List Int, y_ = (x4_8 ++ bytesOf t248) := ⟨_, rfl⟩
                                  replace H : (assizeref01_Join.l0 kj12 l0 y249 ((rd_T33 l0 x6_1).f0) (wrap64 (x6_1 + 1))) = some (r1, r2) := by first | (rw [hy249]; with_reducible exact H) | (have H2_ := (Option.bind_some _ _).symm.trans H; rw [hy249]; with_reducible exact H2_) | (have H2_ := (Option.bind_some _ _).symm.trans H; with_reducible exact H2_) | with_reducible exact H | (rw [hy249]; exact H) | exact H
                                  have Ny249 := Aside0.mk hy249
                                  clear hy249
                                  have H' := Aside0.mk H
                                  clear H
                                  have p247 : 0 ≤ (x6_1 : Int) := of_decide_eq_true (by first | (with_reducible assumption) | assumption)
                                  have q247 : x6_1 < (l0.length : Int) := of_decide_eq_true (by first | (with_reducible assumption) | assumption)
                                  obtain ⟨ad247, e247, hx247_0, hx247_1, hx247_2, hx247_3⟩ := at_T33 HR0.out x6_1 p247 q247
                                  obtain rfl : ad235 = ad247 := (by injection e247)
                                  replace hx247_0 := (HB.out.cell (World.block_lt_of_cell? w _ hx247_0)).trans hx247_0
                                  replace hx247_1 := (HB.out.cell (World.block_lt_of_cell? w _ hx247_1)).trans hx247_1
                                  replace hx247_2 := (HB.out.cell (World.block_lt_of_cell? w _ hx247_2)).trans hx247_2
                                  replace hx247_3 := (HB.out.cell (World.block_lt_of_cell? w _ hx247_3)).trans hx247_3
                                  replace p247 := eq_true p247
                                  replace q247 := eq_true q247
                                  go_wp2_with (first | ((with_reducible refine gate_callee (f := 25) rfl ?_); refine goesL_ (some 70) rfl rfl Tryd.func25 (by kernel_rfl) rfl #[.int .i64 ((rd_T33 l0 x6_1).f2), .int .i64 10] rfl (by (try simp only [List.map_toArray, List.map_cons, List.map_nil]); first | done | rfl | (simp only [List.length_drop, List.length_take]; rfl)) ?_; (with_reducible refine (strconv_FormatInt.calls kj12 ((rd_T33 l0 x6_1).f2) 10 t248 _ A32.out (HTAB.out.below (by repeat (first | (with_reducible first | exact HB.out | apply below_alloc | apply pw_below_drewN | apply below_drew1 | refine below_set ?_ (by assumption) | refine below_set ?_ (Aside0.out (by assumption))) | exact HB.out)))).mono ?_); rintro e w34 ⟨rfl, hb⟩; refine ⟨_, rfl, ?_⟩; have n0_ := Aside0.mk (Kd.R_below (by (with_reducible repeat (first | apply Kd.R_alloc | apply Kd.R_drewN | apply Kd.R_drew)); exact HO_4.out) hb); have n1_ := Aside0.mk (below_step (by repeat (first | (with_reducible first | exact HB.out | apply below_alloc | apply pw_below_drewN | apply below_drew1) | exact HB.out)) hb); clear HO_4; clear HB; have HO_4 := n0_; have HB := n1_; clear n0_ n1_; (try clear hb); (try clear hb2); (try clear hk); (try clear hi)) | (at_builtin; refine print_append_str (w0 := w) w.heap.size rfl (.tmp 64) _ 51 9 5 rfl Tryd.underlying51 Tryd.underlying9 info5 u4 x4_8 t248 rfl rfl ?aO ?aB ?aS ?aL ?_; (case aB => exact (by repeat (first | (with_reducible first | exact HB.out | apply below_alloc | apply pw_below_drewN | apply below_drew1) | exact HB.out))); (case aO => exact (Kd.own_of_R (by (with_reducible repeat (first | apply Kd.R_alloc | apply Kd.R_drewN | apply Kd.R_drew)); exact HO_4.out))); (case aS => exact (below_size (by repeat (first | (with_reducible first | exact HB.out | apply below_alloc | apply pw_below_drewN | apply below_drew1) | exact HB.out)))); (case aL => have := LMc33.out; omega); intro v250 w35 ho0 hb hg; have ho := Kd.R_of_own (h1 := fun _ => rfl) (ok := fun _ => True) ho0 (fun _ _ => trivial); clear ho0; have hat := True.intro; rw [← Ny249.out] at ho; change Kd.R (Kd.int .u8) 5 w35 w.heap.size (fun _ => True) v250 y249 at ho; have n0_ := Aside0.mk (hb); have n1_ := Aside0.mk (ho); clear HB; clear HO_4; have HB := n0_; have HO251 := n1_; clear n0_ n1_; clear ho hb hg hat))
                                  go_roundg kj12
                                  case measure => have := HK1.out; have := HJ3.out; have := HJ8.out; have := HJ12.out; omega
                                  case rel => exact ⟨(y249), (((rd_T33 l0 x6_1).f0)), (wrap64 (x6_1 + 1)), (by first | rfl | (simp; done) | (simp [*]; done)), (by first | rfl | (simp; done) | (simp [*]; done)), H', ⟨by have := HK1.out; have := HJ3.out; have := HJ8.out; have := HJ12.out; omega⟩, ⟨by (with_reducible repeat (first | apply Kd.R_alloc | apply Kd.R_drewN | apply Kd.R_drew)); exact HO251.out⟩, ⟨by repeat (first | (with_reducible first | exact HB.out | apply below_alloc | apply pw_below_drewN | apply below_drew1) | exact HB.out)⟩⟩
                                · rw [if_neg c33] at H
                                  exact absurd H (by simp)
                              · rw [if_neg c31] at H
                                exact absurd H (by simp)
                            · rw [if_neg c30] at H
                              exact absurd H (by simp)
                          · rw [if_neg c29] at H
                            have c29b0 : (((rd_T33 l0 x6_1).f0) == 8) = false := beq_eq_false_iff_ne.mpr c29
                            have c29b1 : (((rd_T33 l0 x6_1).f0) != 8) = true := bne_iff_ne.mpr c29
                            have HC36 := Aside0.mk H
                            clear H
                            go_upto_region 17 with (fail)
                            go_cut [72] (fun v72 wc => ∃ (kq : Nat) (x72_35 : Bool), v72 = .bool x72_35 ∧ Aside0 (assizeref01_Join.j4 kq l0 x4_8 ((rd_T33 l0 x6_1).f0) x6_1 ((rd_T33 l0 x6_1).f0) x72_35 = some (r1, r2)) ∧ Aside0 (kq ≤ kj12) ∧ Aside0 (Kd.R (Kd.int .u8) 5 wc w.heap.size (fun _ => True) u4 x4_8) ∧ Aside0 (Below w.heap.size w wc))
                            case first =>
                              have H := HC36.out
                              clear HC36
                              by_cases c37 : ((rd_T33 l0 x6_1).f0) = 9
                              · rw [if_pos c37] at H
                                have c37b0 : (((rd_T33 l0 x6_1).f0) == 9) = true := beq_iff_eq.mpr c37
                                have c37b1 : (((rd_T33 l0 x6_1).f0) != 9) = false := bne_eq_false_iff_eq.mpr c37
                                clear c37
                                (first | rw [c37b0] | (simp only [i64_w, i32_w]; rw [c37b0]) | skip)
                                by_cases c38 : 0 ≤ x6_1
                                · rw [if_pos c38] at H
                                  have c38b0 : decide (0 ≤ x6_1) = true := decide_eq_true c38
                                  clear c38
                                  by_cases c39 : x6_1 < (l0.length : Int)
                                  · rw [if_pos c39] at H
                                    have c39b0 : decide (x6_1 < (l0.length : Int)) = true := decide_eq_true c39
                                    clear c39
                                    by_cases c40 : ((rd_T33 l0 x6_1).f1).toList = ([116, 114, 117, 101] : List UInt8)
                                    · rw [if_pos c40] at H
                                      have c40b0 : (((rd_T33 l0 x6_1).f1).toList == ([116, 114, 117, 101] : List UInt8)) = true := beq_iff_eq.mpr c40
                                      have c40b1 : (((rd_T33 l0 x6_1).f1).toList != ([116, 114, 117, 101] : List UInt8)) = false := bne_eq_false_iff_eq.mpr c40
                                      clear c40
                                      have H' := Aside0.mk H
                                      clear H
                                      have p252 : 0 ≤ (x6_1 : Int) := of_decide_eq_true (by first | (with_reducible assumption) | assumption)
                                      have q252 : x6_1 < (l0.length : Int) := of_decide_eq_true (by first | (with_reducible assumption) | assumption)
                                      obtain ⟨ad252, e252, hx252_0, hx252_1, hx252_2, hx252_3⟩ := at_T33 HR0.out x6_1 p252 q252
                                      obtain rfl : ad235 = ad252 := (by injection e252)
                                      replace hx252_0 := (HB.out.cell (World.block_lt_of_cell? w _ hx252_0)).trans hx252_0
                                      replace hx252_1 := (HB.out.cell (World.block_lt_of_cell? w _ hx252_1)).trans hx252_1
                                      replace hx252_2 := (HB.out.cell (World.block_lt_of_cell? w _ hx252_2)).trans hx252_2
                                      replace hx252_3 := (HB.out.cell (World.block_lt_of_cell? w _ hx252_3)).trans hx252_3
                                      replace p252 := eq_true p252
                                      replace q252 := eq_true q252
                                      go_wp2
                                      go_meet
                                      case rel => exact ⟨_, (true), (by first | rfl | (simp; done) | (simp [*]; done)), H', ⟨by have := HK1.out; have := HJ3.out; have := HJ8.out; have := HJ12.out; first | omega | exact Nat.le_refl _⟩, ⟨by (with_reducible repeat (first | apply Kd.R_alloc | apply Kd.R_drewN | apply Kd.R_drew)); exact HO_4.out⟩, ⟨by repeat (first | (with_reducible first | exact HB.out | apply below_alloc | apply pw_below_drewN | apply below_drew1) | exact HB.out)⟩⟩
                                    · rw [if_neg c40] at H
                                      have c40b0 : (((rd_T33 l0 x6_1).f1).toList == ([116, 114, 117, 101] : List UInt8)) = false := beq_eq_false_iff_ne.mpr c40
                                      have c40b1 : (((rd_T33 l0 x6_1).f1).toList != ([116, 114, 117, 101] : List UInt8)) = true := bne_iff_ne.mpr c40
                                      by_cases c41 : ((rd_T33 l0 x6_1).f1).toList = ([102, 97, 108, 115, 101] : List UInt8)
                                      · rw [if_pos c41] at H
                                        have c41b0 : (((rd_T33 l0 x6_1).f1).toList == ([102, 97, 108, 115, 101] : List UInt8)) = true := beq_iff_eq.mpr c41
                                        have c41b1 : (((rd_T33 l0 x6_1).f1).toList != ([102, 97, 108, 115, 101] : List UInt8)) = false := bne_eq_false_iff_eq.mpr c41
                                        clear c41
                                        have H' := Aside0.mk H
                                        clear H
                                        have p252 : 0 ≤ (x6_1 : Int) := of_decide_eq_true (by first | (with_reducible assumption) | assumption)
                                        have q252 : x6_1 < (l0.length : Int) := of_decide_eq_true (by first | (with_reducible assumption) | assumption)
                                        obtain ⟨ad252, e252, hx252_0, hx252_1, hx252_2, hx252_3⟩ := at_T33 HR0.out x6_1 p252 q252
                                        obtain rfl : ad235 = ad252 := (by injection e252)
                                        replace hx252_0 := (HB.out.cell (World.block_lt_of_cell? w _ hx252_0)).trans hx252_0
                                        replace hx252_1 := (HB.out.cell (World.block_lt_of_cell? w _ hx252_1)).trans hx252_1
                                        replace hx252_2 := (HB.out.cell (World.block_lt_of_cell? w _ hx252_2)).trans hx252_2
                                        replace hx252_3 := (HB.out.cell (World.block_lt_of_cell? w _ hx252_3)).trans hx252_3
                                        replace p252 := eq_true p252
                                        replace q252 := eq_true q252
                                        have p253 : 0 ≤ (x6_1 : Int) := of_decide_eq_true (by first | (with_reducible assumption) | assumption)
                                        have q253 : x6_1 < (l0.length : Int) := of_decide_eq_true (by first | (with_reducible assumption) | assumption)
                                        obtain ⟨ad253, e253, hx253_0, hx253_1, hx253_2, hx253_3⟩ := at_T33 HR0.out x6_1 p253 q253
                                        obtain rfl : ad235 = ad253 := (by injection e253)
                                        replace hx253_0 := (HB.out.cell (World.block_lt_of_cell? w _ hx253_0)).trans hx253_0
                                        replace hx253_1 := (HB.out.cell (World.block_lt_of_cell? w _ hx253_1)).trans hx253_1
                                        replace hx253_2 := (HB.out.cell (World.block_lt_of_cell? w _ hx253_2)).trans hx253_2
                                        replace hx253_3 := (HB.out.cell (World.block_lt_of_cell? w _ hx253_3)).trans hx253_3
                                        replace p253 := eq_true p253
                                        replace q253 := eq_true q253
                                        go_wp2
                                        go_meet
                                        case rel => exact ⟨_, (true), (by first | rfl | (simp; done) | (simp [*]; done)), H', ⟨by have := HK1.out; have := HJ3.out; have := HJ8.out; have := HJ12.out; first | omega | exact Nat.le_refl _⟩, ⟨by (with_reducible repeat (first | apply Kd.R_alloc | apply Kd.R_drewN | apply Kd.R_drew)); exact HO_4.out⟩, ⟨by repeat (first | (with_reducible first | exact HB.out | apply below_alloc | apply pw_below_drewN | apply below_drew1) | exact HB.out)⟩⟩
                                      · rw [if_neg c41] at H
                                        have c41b0 : (((rd_T33 l0 x6_1).f1).toList == ([102, 97, 108, 115, 101] : List UInt8)) = false := beq_eq_false_iff_ne.mpr c41
                                        have c41b1 : (((rd_T33 l0 x6_1).f1).toList != ([102, 97, 108, 115, 101] : List UInt8)) = true := bne_iff_ne.mpr c41
                                        have H' := Aside0.mk H
                                        clear H
                                        have p252 : 0 ≤ (x6_1 : Int) := of_decide_eq_true (by first | (with_reducible assumption) | assumption)
                                        have q252 : x6_1 < (l0.length : Int) := of_decide_eq_true (by first | (with_reducible assumption) | assumption)
                                        obtain ⟨ad252, e252, hx252_0, hx252_1, hx252_2, hx252_3⟩ := at_T33 HR0.out x6_1 p252 q252
                                        obtain rfl : ad235 = ad252 := (by injection e252)
                                        replace hx252_0 := (HB.out.cell (World.block_lt_of_cell? w _ hx252_0)).trans hx252_0
                                        replace hx252_1 := (HB.out.cell (World.block_lt_of_cell? w _ hx252_1)).trans hx252_1
                                        replace hx252_2 := (HB.out.cell (World.block_lt_of_cell? w _ hx252_2)).trans hx252_2
                                        replace hx252_3 := (HB.out.cell (World.block_lt_of_cell? w _ hx252_3)).trans hx252_3
                                        replace p252 := eq_true p252
                                        replace q252 := eq_true q252
                                        have p253 : 0 ≤ (x6_1 : Int) := of_decide_eq_true (by first | (with_reducible assumption) | assumption)
                                        have q253 : x6_1 < (l0.length : Int) := of_decide_eq_true (by first | (with_reducible assumption) | assumption)
                                        obtain ⟨ad253, e253, hx253_0, hx253_1, hx253_2, hx253_3⟩ := at_T33 HR0.out x6_1 p253 q253
                                        obtain rfl : ad235 = ad253 := (by injection e253)
                                        replace hx253_0 := (HB.out.cell (World.block_lt_of_cell? w _ hx253_0)).trans hx253_0
                                        replace hx253_1 := (HB.out.cell (World.block_lt_of_cell? w _ hx253_1)).trans hx253_1
                                        replace hx253_2 := (HB.out.cell (World.block_lt_of_cell? w _ hx253_2)).trans hx253_2
                                        replace hx253_3 := (HB.out.cell (World.block_lt_of_cell? w _ hx253_3)).trans hx253_3
                                        replace p253 := eq_true p253
                                        replace q253 := eq_true q253
                                        have p254 : 0 ≤ (x6_1 : Int) := of_decide_eq_true (by first | (with_reducible assumption) | assumption)
                                        have q254 : x6_1 < (l0.length : Int) := of_decide_eq_true (by first | (with_reducible assumption) | assumption)
                                        obtain ⟨ad254, e254, hx254_0, hx254_1, hx254_2, hx254_3⟩ := at_T33 HR0.out x6_1 p254 q254
                                        obtain rfl : ad235 = ad254 := (by injection e254)
                                        replace hx254_0 := (HB.out.cell (World.block_lt_of_cell? w _ hx254_0)).trans hx254_0
                                        replace hx254_1 := (HB.out.cell (World.block_lt_of_cell? w _ hx254_1)).trans hx254_1
                                        replace hx254_2 := (HB.out.cell (World.block_lt_of_cell? w _ hx254_2)).trans hx254_2
                                        replace hx254_3 := (HB.out.cell (World.block_lt_of_cell? w _ hx254_3)).trans hx254_3
                                        replace p254 := eq_true p254
                                        replace q254 := eq_true q254
                                        go_wp2
                                        go_meet
                                        case rel => exact ⟨_, ((((rd_T33 l0 x6_1).f1).toList == ([110, 117, 108, 108] : List UInt8))), (by first | rfl | (simp; done) | (simp [*]; done)), H', ⟨by have := HK1.out; have := HJ3.out; have := HJ8.out; have := HJ12.out; first | omega | exact Nat.le_refl _⟩, ⟨by (with_reducible repeat (first | apply Kd.R_alloc | apply Kd.R_drewN | apply Kd.R_drew)); exact HO_4.out⟩, ⟨by repeat (first | (with_reducible first | exact HB.out | apply below_alloc | apply pw_below_drewN | apply below_drew1) | exact HB.out)⟩⟩
                                  · rw [if_neg c39] at H
                                    exact absurd H (by simp)
                                · rw [if_neg c38] at H
                                  exact absurd H (by simp)
                              · rw [if_neg c37] at H
                                have c37b0 : (((rd_T33 l0 x6_1).f0) == 9) = false := beq_eq_false_iff_ne.mpr c37
                                have c37b1 : (((rd_T33 l0 x6_1).f0) != 9) = true := bne_iff_ne.mpr c37
                                (first | rw [c37b0] | (simp only [i64_w, i32_w]; rw [c37b0]) | skip)
                                have H' := Aside0.mk H
                                clear H
                                go_wp2
                                go_meet
                                case rel => exact ⟨_, (false), (by first | rfl | (simp; done) | (simp [*]; done)), H', ⟨by have := HK1.out; have := HJ3.out; have := HJ8.out; have := HJ12.out; first | omega | exact Nat.le_refl _⟩, ⟨by (with_reducible repeat (first | apply Kd.R_alloc | apply Kd.R_drewN | apply Kd.R_drew)); exact HO_4.out⟩, ⟨by repeat (first | (with_reducible first | exact HB.out | apply below_alloc | apply pw_below_drewN | apply below_drew1) | exact HB.out)⟩⟩
                            case rest =>
                              clear HC36
                              try clear c1
                              try clear p1
                              try clear q1
                              try clear hx1
                              try clear c2
                              try clear c2b0
                              try clear p2
                              try clear q2
                              try clear hx2
                              try clear c3
                              try clear c3b0
                              try clear c4
                              try clear c5
                              try clear c5b0
                              try clear c5b1
                              try clear c6
                              try clear c6b0
                              try clear c6b1
                              try clear p6
                              try clear c7
                              try clear c7b0
                              try clear c7b1
                              try clear c8
                              try clear c8b0
                              try clear c8b1
                              try clear c10
                              try clear c11
                              try clear c14
                              try clear c14b0
                              try clear c15
                              try clear c16
                              try clear c17
                              try clear c17b0
                              try clear c18
                              try clear c18b0
                              try clear p19
                              try clear q19
                              try clear hx19
                              try clear c20
                              try clear c22
                              try clear c22b0
                              try clear c22b1
                              try clear c23
                              try clear c23b0
                              try clear p23
                              try clear q23
                              try clear hx23
                              try clear c24
                              try clear c24b0
                              try clear p24
                              try clear q24
                              try clear hx24
                              try clear c25
                              try clear p25
                              try clear q25
                              try clear hx25
                              try clear c26
                              try clear c29
                              try clear c29b0
                              try clear c29b1
                              try clear c30
                              try clear c30b0
                              try clear c31
                              try clear c31b0
                              try clear c33
                              try clear c37
                              try clear c37b0
                              try clear c37b1
                              try clear c38
                              try clear c38b0
                              try clear c39
                              try clear c39b0
                              try clear c40
                              try clear c40b0
                              try clear c40b1
                              try clear c41
                              try clear c41b0
                              try clear c41b1
                              try clear hx235_0
                              try clear hx235_1
                              try clear hx235_2
                              try clear hx235_3
                              try clear hx242_0
                              try clear hx242_1
                              try clear hx242_2
                              try clear hx242_3
                              try clear hx247_0
                              try clear hx247_1
                              try clear hx247_2
                              try clear hx247_3
                              try clear hx252_0
                              try clear hx252_1
                              try clear hx252_2
                              try clear hx252_3
                              try clear hx253_0
                              try clear hx253_1
                              try clear hx253_2
                              try clear hx253_3
                              try clear hx254_0
                              try clear hx254_1
                              try clear hx254_2
                              try clear hx254_3
                              try clear p19
                              try clear p2
                              try clear p235
                              try clear p242
                              try clear p247
                              try clear p252
                              try clear p253
                              try clear p254
                              try clear q19
                              try clear q2
                              try clear q235
                              try clear q242
                              try clear q247
                              try clear q252
                              try clear q253
                              try clear q254
                              obtain ⟨kq, x72_35, rfl, HA, HJ35, HO_4, HB⟩ := hcut
                              cases kq with
                              | zero => exact absurd HA.out (by simp [assizeref01_Join.j4])
                              | succ kj35 =>
                                have H := HA.out
                                clear HA
                                simp only [assizeref01_Join.j4] at H
                                by_cases c42 : x72_35 = true
                                · subst c42
                                  have H1 : (if 0 ≤ x6_1 then (if x6_1 < (l0.length : Int) then (if x4_8.length + ((rd_T33 l0 x6_1).f1).size < 140737488355328 then (assizeref01_Join.l0 kj35 l0 (x4_8 ++ bytesOf ((rd_T33 l0 x6_1).f1)) ((rd_T33 l0 x6_1).f0) (wrap64 (x6_1 + 1))) else (none)) else (none)) else (none)) = some (r1, r2) := by rw [if_pos rfl] at H; exact H
                                  clear H
                                  have H := H1
                                  clear H1
                                  by_cases c43 : 0 ≤ x6_1
                                  · rw [if_pos c43] at H
                                    have c43b0 : decide (0 ≤ x6_1) = true := decide_eq_true c43
                                    clear c43
                                    by_cases c44 : x6_1 < (l0.length : Int)
                                    · rw [if_pos c44] at H
                                      have c44b0 : decide (x6_1 < (l0.length : Int)) = true := decide_eq_true c44
                                      clear c44
                                      by_cases c45 : x4_8.length + ((rd_T33 l0 x6_1).f1).size < 140737488355328
                                      · rw [if_pos c45] at H
                                        have LMc45 := Aside0.mk c45
                                        clear c45
                                        obtain ⟨y256, hy256⟩ : ∃ y_ : List Int, y_ = (x4_8 ++ bytesOf ((rd_T33 l0 x6_1).f1)) := ⟨_, rfl⟩
                                        replace H : (assizeref01_Join.l0 kj35 l0 y256 ((rd_T33 l0 x6_1).f0) (wrap64 (x6_1 + 1))) = some (r1, r2) := by first | (rw [hy256]; with_reducible exact H) | (have H2_ := (Option.bind_some _ _).symm.trans H; rw [hy256]; with_reducible exact H2_) | (have H2_ := (Option.bind_some _ _).symm.trans H; with_reducible exact H2_) | with_reducible exact H | (rw [hy256]; exact H) | exact H
                                        have Ny256 := Aside0.mk hy256
                                        clear hy256
                                        have H' := Aside0.mk H
                                        clear H
                                        have p255 : 0 ≤ (x6_1 : Int) := of_decide_eq_true (by first | (with_reducible assumption) | assumption)
                                        have q255 : x6_1 < (l0.length : Int) := of_decide_eq_true (by first | (with_reducible assumption) | assumption)
                                        obtain ⟨ad255, e255, hx255_0, hx255_1, hx255_2, hx255_3⟩ := at_T33 HR0.out x6_1 p255 q255
                                        obtain rfl : ad235 = ad255 := (by injection e255)
                                        replace hx255_0 := (HB.out.cell (World.block_lt_of_cell? w _ hx255_0)).trans hx255_0
                                        replace hx255_1 := (HB.out.cell (World.block_lt_of_cell? w _ hx255_1)).trans hx255_1
                                        replace hx255_2 := (HB.out.cell (World.block_lt_of_cell? w _ hx255_2)).trans hx255_2
                                        replace hx255_3 := (HB.out.cell (World.block_lt_of_cell? w _ hx255_3)).trans hx255_3
                                        replace p255 := eq_true p255
                                        replace q255 := eq_true q255
                                        go_wp2_with (first | (at_builtin; refine print_append_str (w0 := w) w.heap.size rfl (.tmp 99) _ 51 9 5 rfl Tryd.underlying51 Tryd.underlying9 info5 u4 x4_8 ((rd_T33 l0 x6_1).f1) rfl rfl ?aO ?aB ?aS ?aL ?_; (case aB => exact (by repeat (first | (with_reducible first | exact HB.out | apply below_alloc | apply pw_below_drewN | apply below_drew1) | exact HB.out))); (case aO => exact (Kd.own_of_R (by (with_reducible repeat (first | apply Kd.R_alloc | apply Kd.R_drewN | apply Kd.R_drew)); exact HO_4.out))); (case aS => exact (below_size (by repeat (first | (with_reducible first | exact HB.out | apply below_alloc | apply pw_below_drewN | apply below_drew1) | exact HB.out)))); (case aL => have := LMc45.out; omega); intro v257 w46 ho0 hb hg; have ho := Kd.R_of_own (h1 := fun _ => rfl) (ok := fun _ => True) ho0 (fun _ _ => trivial); clear ho0; have hat := True.intro; rw [← Ny256.out] at ho; change Kd.R (Kd.int .u8) 5 w46 w.heap.size (fun _ => True) v257 y256 at ho; have n0_ := Aside0.mk (hb); have n1_ := Aside0.mk (ho); clear HB; clear HO_4; have HB := n0_; have HO258 := n1_; clear n0_ n1_; clear ho hb hg hat))
                                        go_roundg kj35
                                        case measure => have := HK1.out; have := HJ3.out; have := HJ8.out; have := HJ12.out; have := HJ35.out; omega
                                        case rel => exact ⟨(y256), (((rd_T33 l0 x6_1).f0)), (wrap64 (x6_1 + 1)), (by first | rfl | (simp; done) | (simp [*]; done)), (by first | rfl | (simp; done) | (simp [*]; done)), H', ⟨by have := HK1.out; have := HJ3.out; have := HJ8.out; have := HJ12.out; have := HJ35.out; omega⟩, ⟨by (with_reducible repeat (first | apply Kd.R_alloc | apply Kd.R_drewN | apply Kd.R_drew)); exact HO258.out⟩, ⟨by repeat (first | (with_reducible first | exact HB.out | apply below_alloc | apply pw_below_drewN | apply below_drew1) | exact HB.out)⟩⟩
                                      · rw [if_neg c45] at H
                                        exact absurd H (by simp)
                                    · rw [if_neg c44] at H
                                      exact absurd H (by simp)
                                  · rw [if_neg c43] at H
                                    exact absurd H (by simp)
                                · replace c42 := Bool.eq_false_iff.mpr c42
                                  subst c42
                                  have H1 : (if ((rd_T33 l0 x6_1).f0) = 10 then (if x4_8.length < 140737488355328 then (assizeref01_Join.l0 kj35 l0 (x4_8 ++ [10]) ((rd_T33 l0 x6_1).f0) (wrap64 (x6_1 + 1))) else (none)) else (some ((⟨#[]⟩ : ByteArray), 1))) = some (r1, r2) := by rw [if_neg (show ¬ (false = true) by decide)] at H; exact H
                                  clear H
                                  have H := H1
                                  clear H1
                                  by_cases c47 : ((rd_T33 l0 x6_1).f0) = 10
                                  · rw [if_pos c47] at H
                                    have c47b0 : (((rd_T33 l0 x6_1).f0) == 10) = true := beq_iff_eq.mpr c47
                                    have c47b1 : (((rd_T33 l0 x6_1).f0) != 10) = false := bne_eq_false_iff_eq.mpr c47
                                    clear c47
                                    by_cases c48 : x4_8.length < 140737488355328
                                    · rw [if_pos c48] at H
                                      have LMc48 := Aside0.mk c48
                                      clear c48
                                      obtain ⟨y259, hy259⟩ : ∃ y_ : List Int, y_ = (x4_8 ++ [10]) := ⟨_, rfl⟩
                                      replace H : (assizeref01_Join.l0 kj35 l0 y259 ((rd_T33 l0 x6_1).f0) (wrap64 (x6_1 + 1))) = some (r1, r2) := by first | (rw [hy259]; with_reducible exact H) | (have H2_ := (Option.bind_some _ _).symm.trans H; rw [hy259]; with_reducible exact H2_) | (have H2_ := (Option.bind_some _ _).symm.trans H; with_reducible exact H2_) | with_reducible exact H | (rw [hy259]; exact H) | exact H
                                      have Ny259 := Aside0.mk hy259
                                      clear hy259
                                      have H' := Aside0.mk H
                                      clear H
                                      go_wp2_with (first | ((with_reducible refine gate_builtin (b := .append) (xs := #[.tmp 109, .tmp 110]) rfl ?_); at_builtin; refine Kd.R_append (Kd.int .u8) (w0 := w) w.heap.size rfl (.tmp 109) (.tmp 110) 51 5 (.int .u8 0) 1 rfl Tryd.underlying51 info5 rfl (by decide) (by omega) u4 x4_8 10 [.int .u8 10] (fun _ => True) (fun _ => False) rfl rfl ?aP (fun _ hk => hk.elim) ?aF ?aO ?aB ?aS ?aL ?_; (case aP => exact rfl); (case aB => exact (by repeat (first | (with_reducible first | exact HB.out | apply below_alloc | apply pw_below_drewN | apply below_drew1) | exact HB.out))); (case aF => exact (fun _ _ => trivial)); (case aO => exact (by (with_reducible repeat (first | apply Kd.R_alloc | apply Kd.R_drewN | apply Kd.R_drew)); exact HO_4.out)); (case aS => exact (below_size (by repeat (first | (with_reducible first | exact HB.out | apply below_alloc | apply pw_below_drewN | apply below_drew1) | exact HB.out)))); (case aL => have := LMc48.out; omega); intro v260 w49 ho hb hg hat; rw [← Ny259.out] at ho; have n0_ := Aside0.mk (hb); have n1_ := Aside0.mk (ho); clear HB; clear HO_4; have HB := n0_; have HO261 := n1_; clear n0_ n1_; clear ho hb hg hat))
                                      go_roundg kj35
                                      case measure => have := HK1.out; have := HJ3.out; have := HJ8.out; have := HJ12.out; have := HJ35.out; omega
                                      case rel => exact ⟨(y259), (((rd_T33 l0 x6_1).f0)), (wrap64 (x6_1 + 1)), (by first | rfl | (simp; done) | (simp [*]; done)), (by first | rfl | (simp; done) | (simp [*]; done)), H', ⟨by have := HK1.out; have := HJ3.out; have := HJ8.out; have := HJ12.out; have := HJ35.out; omega⟩, ⟨by (with_reducible repeat (first | apply Kd.R_alloc | apply Kd.R_drewN | apply Kd.R_drew)); exact HO261.out⟩, ⟨by repeat (first | (with_reducible first | exact HB.out | apply below_alloc | apply pw_below_drewN | apply below_drew1) | exact HB.out)⟩⟩
                                    · rw [if_neg c48] at H
                                      exact absurd H (by simp)
                                  · rw [if_neg c47] at H
                                    have c47b0 : (((rd_T33 l0 x6_1).f0) == 10) = false := beq_eq_false_iff_ne.mpr c47
                                    have c47b1 : (((rd_T33 l0 x6_1).f0) != 10) = true := bne_iff_ne.mpr c47
                                    simp only [Option.some.injEq, Prod.mk.injEq] at H
                                    obtain ⟨rfl, rfl⟩ := H
                                    go_wp2
                                    go_ret2
                                    exact ⟨by first | rfl | (simp [errW_none, errW_some] <;> rfl) | (simp [*, errW_none, errW_some] <;> rfl), by repeat (first | (with_reducible first | exact HB.out | apply below_alloc | apply pw_below_drewN | apply below_drew1) | exact HB.out)⟩
        · rw [if_neg c3] at H
          exact absurd H (by simp)
      · rw [if_neg c2] at H
        have c2b0 : decide (x6_1 < (l0.length : Int)) = false := decide_eq_false c2
        clear c2
        simp only [Option.some.injEq, Prod.mk.injEq] at H
        obtain ⟨rfl, rfl⟩ := H
        have hcv50 := own_string (P := Tryd.prog) Tryd.underlying51 Tryd.underlying5 Tryd.underlying9 (Kd.own_of_R HO_4.out)
        go_wp2
        go_ret2
        exact ⟨by first | rfl | (simp [errW_none, errW_some] <;> rfl) | (simp [*, errW_none, errW_some] <;> rfl), by repeat (first | (with_reducible first | exact HB.out | apply below_alloc | apply pw_below_drewN | apply below_drew1) | exact HB.out)⟩
end Go.Proofs.YtidkjiglmfhjpaaDoor.PS
