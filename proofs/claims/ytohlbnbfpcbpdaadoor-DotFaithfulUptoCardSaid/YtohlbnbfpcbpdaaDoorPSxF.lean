-- MADE BY A PROGRAM (the kit's print.py, several functions in one set) out of the translation; Lean checks it.
import Derived.Test.YtohlbnbfpcbpdaaDoorPSx0
import Derived.Test.YtohlbnbfpcbpdaaDoorPSx1
import Derived.Test.YtohlbnbfpcbpdaaDoorPSxA
import Derived.Test.YtohlbnbfpcbpdaaDoorDotPrn
namespace Go.Proofs.YtohlbnbfpcbpdaaDoor.PS
open Go.RowKit Go.Proofs.YtohlbnbfpcbpdaaDoorW.PrintWords Go.Proofs.YtohlbnbfpcbpdaaDoorW.PrintLast Go.Proofs.YtohlbnbfpcbpdaaDoorW.PrintMore
attribute [local go_sem] max2_int min2_int max_two min_two max_three min_three max_four min_four   -- for this text's walks alone
set_option linter.unusedVariables false
set_option linter.unusedSimpArgs false

attribute [local go_sem high] eqA34

/-! ### assizelaw23_DotFaithful: function 5 -/
mutual
def assizelaw23_DotFaithful.j0 : Nat → List (S34) → List (S34) → List (S34) → Bool → Option (Bool)
  | 0, _, _, _, _ => none
  | k + 1, x1, x7, x9, x47 => if x47 = true then (some false) else (assizelaw23_DotFaithful.l0 k x1 x7 x9 0)
def assizelaw23_DotFaithful.l0 : Nat → List (S34) → List (S34) → List (S34) → Int → Option (Bool)
  | 0, _, _, _, _ => none
  | k + 1, x1, x7, x9, x11 => if x11 < (x7.length : Int) then (if 0 ≤ x11 then (assizelaw23_DotFaithful.l0 k x1 (x7.set (x11 : Int).toNat (⟨0, 0, 99, 0⟩ : S34)) x9 (wrap64 (x11 + 1))) else (none)) else ((assizeref06_SameEdges.f k x9 x1).bind fun t155 => (some t155))
end
def assizelaw23_DotFaithful.f (k : Nat) (l0 : List ByteArray) (l1 : List (S34)) : Option (Bool) := (assizelaw23_alive.f k).bind fun t142 => (if t142 = true then ((dot_Print.f k l0 l1).bind fun bt143 => (if bt143.2 = 0 then ((dot_Read.f k l0 bt143.1).bind fun bt145 => ((dot_Read.f k l0 bt143.1).bind fun bt149 => (if bt145.2 = 0 then (if bt149.2 = 0 then ((assizeref06_SameEdges.f k bt145.1 l1).bind fun t153 => (assizelaw23_DotFaithful.j0 k l1 bt145.1 bt149.1 (!t153))) else (assizelaw23_DotFaithful.j0 k l1 bt145.1 bt149.1 true)) else (assizelaw23_DotFaithful.j0 k l1 bt145.1 bt149.1 true)))) else (some (bt143.1.toList == ([] : List UInt8))))) else (some false))
theorem assizelaw23_DotFaithful.mono_l : ∀ k, (∀ y0 y1 y2 y3, LeO (assizelaw23_DotFaithful.j0 k y0 y1 y2 y3) (assizelaw23_DotFaithful.j0 (k + 1) y0 y1 y2 y3)) ∧ (∀ y0 y1 y2 y3, LeO (assizelaw23_DotFaithful.l0 k y0 y1 y2 y3) (assizelaw23_DotFaithful.l0 (k + 1) y0 y1 y2 y3))
  | 0 => ⟨fun _ _ _ _ r h => by simp [assizelaw23_DotFaithful.j0] at h, fun _ _ _ _ r h => by simp [assizelaw23_DotFaithful.l0] at h⟩
  | k + 1 => by
    obtain ⟨ih0, ih1⟩ := assizelaw23_DotFaithful.mono_l k
    refine ⟨?_, ?_⟩
    · intro y0 y1 y2 y3
      unfold assizelaw23_DotFaithful.j0
      repeat' first
      | (with_reducible exact ih0 _ _ _ _)
      | (with_reducible exact ih1 _ _ _ _)
      | (with_reducible exact assizelaw23_alive.mono _)
      | (with_reducible exact assizeref06_SameEdges.mono _ _ _)
      | (with_reducible exact dot_Print.mono _ _ _)
      | (with_reducible exact dot_Read.mono _ _ _)
      | (with_reducible exact LeO.refl _)
      | (with_reducible exact LeO.none _)
      | (with_reducible refine LeO.ite ?_ ?_)
      | (with_reducible refine LeO.bind ?_ (fun _ => ?_))
      | exact ih0 _ _ _ _
      | exact ih1 _ _ _ _
      | exact assizelaw23_alive.mono _
      | exact assizeref06_SameEdges.mono _ _ _
      | exact dot_Print.mono _ _ _
      | exact dot_Read.mono _ _ _
      | exact LeO.none _
      | refine LeO.ite ?_ ?_
      | refine LeO.bind ?_ (fun _ => ?_)
    · intro y0 y1 y2 y3
      unfold assizelaw23_DotFaithful.l0
      repeat' first
      | (with_reducible exact ih0 _ _ _ _)
      | (with_reducible exact ih1 _ _ _ _)
      | (with_reducible exact assizelaw23_alive.mono _)
      | (with_reducible exact assizeref06_SameEdges.mono _ _ _)
      | (with_reducible exact dot_Print.mono _ _ _)
      | (with_reducible exact dot_Read.mono _ _ _)
      | (with_reducible exact LeO.refl _)
      | (with_reducible exact LeO.none _)
      | (with_reducible refine LeO.ite ?_ ?_)
      | (with_reducible refine LeO.bind ?_ (fun _ => ?_))
      | exact ih0 _ _ _ _
      | exact ih1 _ _ _ _
      | exact assizelaw23_alive.mono _
      | exact assizeref06_SameEdges.mono _ _ _
      | exact dot_Print.mono _ _ _
      | exact dot_Read.mono _ _ _
      | exact LeO.none _
      | refine LeO.ite ?_ ?_
      | refine LeO.bind ?_ (fun _ => ?_)
theorem assizelaw23_DotFaithful.mono : ∀ a0 a1 k, LeO (assizelaw23_DotFaithful.f k a0 a1) (assizelaw23_DotFaithful.f (k + 1) a0 a1) := by
  intro a0 a1 k
  obtain ⟨ih0, ih1⟩ := assizelaw23_DotFaithful.mono_l k
  unfold assizelaw23_DotFaithful.f
  repeat' first
      | (with_reducible exact ih0 _ _ _ _)
      | (with_reducible exact ih1 _ _ _ _)
      | (with_reducible exact assizelaw23_alive.mono _)
      | (with_reducible exact assizeref06_SameEdges.mono _ _ _)
      | (with_reducible exact dot_Print.mono _ _ _)
      | (with_reducible exact dot_Read.mono _ _ _)
      | (with_reducible exact LeO.refl _)
      | (with_reducible exact LeO.none _)
      | (with_reducible refine LeO.ite ?_ ?_)
      | (with_reducible refine LeO.bind ?_ (fun _ => ?_))
      | exact ih0 _ _ _ _
      | exact ih1 _ _ _ _
      | exact assizelaw23_alive.mono _
      | exact assizeref06_SameEdges.mono _ _ _
      | exact dot_Print.mono _ _ _
      | exact dot_Read.mono _ _ _
      | exact LeO.none _
      | refine LeO.ite ?_ ?_
      | refine LeO.bind ?_ (fun _ => ?_)
set_option maxHeartbeats 8000000 in
set_option maxRecDepth 100000 in
theorem assizelaw23_DotFaithful.calls (k : Nat) (A0 : Option Addr) (c0 : Nat) (l0 : List ByteArray) (A1 : Option Addr) (c1 : Nat) (l1 : List (S34)) (r : Bool) (w : World) (hr0 : Kd.C Kd.string w A0 l0.length l0) (hc0 : l0.length ≤ c0) (hr1 : Kd.C k34 w A1 l1.length l1) (hc1 : l1.length ≤ c1) (h : assizelaw23_DotFaithful.f k l0 l1 = some r) (htab : Go.Proofs.YtohlbnbfpcbpdaaDoor.Dt.DW w) :
    Calls Tryd.prog 5 #[.slice A0 l0.length c0, .slice A1 l1.length c1] w fun e w' => e = .returned (.bool r) ∧ Below w.heap.size w w' := by
  have HTAB := Aside0.mk htab
  clear htab
  have hu34 := Tryd.underlying34
  have HR0 := Aside0.mk hr0
  have HC0 := Aside0.mk hc0
  clear hr0 hc0
  have HR1 := Aside0.mk hr1
  have HC1 := Aside0.mk hc1
  clear hr1 hc1
  have HB := Aside0.mk (Below.refl w.heap.size w)
  have H : ((assizelaw23_alive.f k).bind fun t142 => (if t142 = true then ((dot_Print.f k l0 l1).bind fun bt143 => (if bt143.2 = 0 then ((dot_Read.f k l0 bt143.1).bind fun bt145 => ((dot_Read.f k l0 bt143.1).bind fun bt149 => (if bt145.2 = 0 then (if bt149.2 = 0 then ((assizeref06_SameEdges.f k bt145.1 l1).bind fun t153 => (assizelaw23_DotFaithful.j0 k l1 bt145.1 bt149.1 (!t153))) else (assizelaw23_DotFaithful.j0 k l1 bt145.1 bt149.1 true)) else (assizelaw23_DotFaithful.j0 k l1 bt145.1 bt149.1 true)))) else (some (bt143.1.toList == ([] : List UInt8))))) else (some false))) = some r := h
  clear h
  replace H := Option.bind_eq_some_iff.mp H
  obtain ⟨t142, A30, H⟩ := H
  replace H : (if t142 = true then ((dot_Print.f k l0 l1).bind fun bt143 => (if bt143.2 = 0 then ((dot_Read.f k l0 bt143.1).bind fun bt145 => ((dot_Read.f k l0 bt143.1).bind fun bt149 => (if bt145.2 = 0 then (if bt149.2 = 0 then ((assizeref06_SameEdges.f k bt145.1 l1).bind fun t153 => (assizelaw23_DotFaithful.j0 k l1 bt145.1 bt149.1 (!t153))) else (assizelaw23_DotFaithful.j0 k l1 bt145.1 bt149.1 true)) else (assizelaw23_DotFaithful.j0 k l1 bt145.1 bt149.1 true)))) else (some (bt143.1.toList == ([] : List UInt8))))) else (some false)) = some r := H
  have A3 := Aside0.mk A30
  clear A30
  by_cases c4 : t142 = true
  · subst c4
    have H1 : ((dot_Print.f k l0 l1).bind fun bt143 => (if bt143.2 = 0 then ((dot_Read.f k l0 bt143.1).bind fun bt145 => ((dot_Read.f k l0 bt143.1).bind fun bt149 => (if bt145.2 = 0 then (if bt149.2 = 0 then ((assizeref06_SameEdges.f k bt145.1 l1).bind fun t153 => (assizelaw23_DotFaithful.j0 k l1 bt145.1 bt149.1 (!t153))) else (assizelaw23_DotFaithful.j0 k l1 bt145.1 bt149.1 true)) else (assizelaw23_DotFaithful.j0 k l1 bt145.1 bt149.1 true)))) else (some (bt143.1.toList == ([] : List UInt8))))) = some r := by rw [if_pos rfl] at H; exact H
    clear H
    have H := H1
    clear H1
    replace H := Option.bind_eq_some_iff.mp H
    obtain ⟨⟨t143, t144⟩, A50, H⟩ := H
    replace H : (if t144 = 0 then ((dot_Read.f k l0 t143).bind fun bt145 => ((dot_Read.f k l0 t143).bind fun bt149 => (if bt145.2 = 0 then (if bt149.2 = 0 then ((assizeref06_SameEdges.f k bt145.1 l1).bind fun t153 => (assizelaw23_DotFaithful.j0 k l1 bt145.1 bt149.1 (!t153))) else (assizelaw23_DotFaithful.j0 k l1 bt145.1 bt149.1 true)) else (assizelaw23_DotFaithful.j0 k l1 bt145.1 bt149.1 true)))) else (some (t143.toList == ([] : List UInt8)))) = some r := H
    have A5 := Aside0.mk A50
    clear A50
    by_cases c6 : t144 = 0
    · rw [if_pos c6] at H
      have c6b0 : (t144 == 0) = true := beq_iff_eq.mpr c6
      have c6b1 : (t144 != 0) = false := bne_eq_false_iff_eq.mpr c6
      clear c6
      replace H := Option.bind_eq_some_iff.mp H
      obtain ⟨⟨t145, t146⟩, A70, H⟩ := H
      replace H : ((dot_Read.f k l0 t143).bind fun bt149 => (if t146 = 0 then (if bt149.2 = 0 then ((assizeref06_SameEdges.f k t145 l1).bind fun t153 => (assizelaw23_DotFaithful.j0 k l1 t145 bt149.1 (!t153))) else (assizelaw23_DotFaithful.j0 k l1 t145 bt149.1 true)) else (assizelaw23_DotFaithful.j0 k l1 t145 bt149.1 true))) = some r := H
      have A7 := Aside0.mk A70
      clear A70
      replace H := Option.bind_eq_some_iff.mp H
      obtain ⟨⟨t149, t150⟩, A80, H⟩ := H
      replace H : (if t146 = 0 then (if t150 = 0 then ((assizeref06_SameEdges.f k t145 l1).bind fun t153 => (assizelaw23_DotFaithful.j0 k l1 t145 t149 (!t153))) else (assizelaw23_DotFaithful.j0 k l1 t145 t149 true)) else (assizelaw23_DotFaithful.j0 k l1 t145 t149 true)) = some r := H
      have A8 := Aside0.mk A80
      clear A80
      have HC9 := Aside0.mk H
      clear H
      go_enter Tryd.func5, Tryd.ntmps5
      go_upto_region 8 with (first | ((with_reducible refine gate_callee (f := 8) rfl ?_); refine goesL_ (some 12) rfl rfl Tryd.func8 (by kernel_rfl) rfl #[] rfl (by (try simp only [List.map_toArray, List.map_cons, List.map_nil]); first | done | rfl | (simp only [List.length_drop, List.length_take]; rfl)) ?_; (with_reducible refine (assizelaw23_alive.calls k  true _ A3.out (HTAB.out.below (by repeat (first | (with_reducible first | exact HB.out | apply below_alloc | apply pw_below_drewN | apply below_drew1 | refine below_set ?_ (by assumption) | refine below_set ?_ (Aside0.out (by assumption))) | exact HB.out)))).mono ?_); rintro e w10 ⟨rfl, hb⟩; refine ⟨_, rfl, ?_⟩; have n0_ := Aside0.mk (below_step (by repeat (first | (with_reducible first | exact HB.out | apply below_alloc | apply pw_below_drewN | apply below_drew1) | exact HB.out)) hb); clear HB; have HB := n0_; clear n0_; (try clear hb); (try clear hb2); (try clear hk); (try clear hi)) | ((with_reducible refine gate_callee (f := 9) rfl ?_); refine goesL_ (some 17) rfl rfl Tryd.func9 (by kernel_rfl) rfl #[.slice A0 l0.length c0, .slice A1 l1.length c1] rfl (by (try simp only [List.map_toArray, List.map_cons, List.map_nil]); first | done | rfl | (simp only [List.length_drop, List.length_take]; rfl)) ?_; (with_reducible refine (dot_Print.calls k _ _ l0 _ _ l1 t143 t144 _ ?side1 ?side2 ?side3 ?side4 A5.out (HTAB.out.below (by repeat (first | (with_reducible first | exact HB.out | apply below_alloc | apply pw_below_drewN | apply below_drew1 | refine below_set ?_ (by assumption) | refine below_set ?_ (Aside0.out (by assumption))) | exact HB.out)))).mono ?_); (case side1 => repeat (first | exact (Kd.C_below HR0.out HB.out) | (with_reducible refine Kd.C_alloc ?_ _) | (with_reducible refine Kd.C_drewN ?_ _) | (with_reducible refine Kd.C_drew ?_))); (case side2 => exact HC0.out); (case side3 => repeat (first | exact (Kd.C_below HR1.out HB.out) | (with_reducible refine Kd.C_alloc ?_ _) | (with_reducible refine Kd.C_drewN ?_ _) | (with_reducible refine Kd.C_drew ?_))); (case side4 => exact HC1.out); rintro e w11 ⟨rfl, hb⟩; refine ⟨_, rfl, ?_⟩; have n0_ := Aside0.mk (below_step (by repeat (first | (with_reducible first | exact HB.out | apply below_alloc | apply pw_below_drewN | apply below_drew1) | exact HB.out)) hb); clear HB; have HB := n0_; clear n0_; (try clear hb); (try clear hb2); (try clear hk); (try clear hi)) | ((with_reducible refine gate_callee (f := 13) rfl ?_); refine goesL_ (some 27) rfl rfl Tryd.func13 (by kernel_rfl) rfl #[.slice A0 l0.length c0, .string t143] rfl (by (try simp only [List.map_toArray, List.map_cons, List.map_nil]); first | done | rfl | (simp only [List.length_drop, List.length_take]; rfl)) ?_; (with_reducible refine (dot_Read.calls k _ _ l0 t143 t145 t146 _ ?side1 ?side2 A7.out (HTAB.out.below (by repeat (first | (with_reducible first | exact HB.out | apply below_alloc | apply pw_below_drewN | apply below_drew1 | refine below_set ?_ (by assumption) | refine below_set ?_ (Aside0.out (by assumption))) | exact HB.out)))).mono ?_); (case side1 => repeat (first | exact (Kd.C_below HR0.out HB.out) | (with_reducible refine Kd.C_alloc ?_ _) | (with_reducible refine Kd.C_drewN ?_ _) | (with_reducible refine Kd.C_drew ?_))); (case side2 => exact HC0.out); rintro e w12 ⟨v147, rfl, ho0, hb⟩; refine ⟨_, rfl, ?_⟩; have n0_ := Aside0.mk (Kd.R_lower ho0 (below_size (by repeat (first | (with_reducible first | exact HB.out | apply below_alloc | apply pw_below_drewN | apply below_drew1) | exact HB.out)))); have n1_ := Aside0.mk (below_step (by repeat (first | (with_reducible first | exact HB.out | apply below_alloc | apply pw_below_drewN | apply below_drew1) | exact HB.out)) hb); clear HB; have HO148 := n0_; have HB := n1_; clear n0_ n1_; (try clear hb); (try clear hb2); (try clear hk); (try clear hi); (try clear ho0)) | ((with_reducible refine gate_callee (f := 13) rfl ?_); refine goesL_ (some 33) rfl rfl Tryd.func13 (by kernel_rfl) rfl #[.slice A0 l0.length c0, .string t143] rfl (by (try simp only [List.map_toArray, List.map_cons, List.map_nil]); first | done | rfl | (simp only [List.length_drop, List.length_take]; rfl)) ?_; (with_reducible refine (dot_Read.calls k _ _ l0 t143 t149 t150 _ ?side1 ?side2 A8.out (HTAB.out.below (by repeat (first | (with_reducible first | exact HB.out | apply below_alloc | apply pw_below_drewN | apply below_drew1 | refine below_set ?_ (by assumption) | refine below_set ?_ (Aside0.out (by assumption))) | exact HB.out)))).mono ?_); (case side1 => repeat (first | exact (Kd.C_below HR0.out HB.out) | (with_reducible refine Kd.C_alloc ?_ _) | (with_reducible refine Kd.C_drewN ?_ _) | (with_reducible refine Kd.C_drew ?_))); (case side2 => exact HC0.out); rintro e w13 ⟨v151, rfl, ho0, hb⟩; refine ⟨_, rfl, ?_⟩; have n0_ := Aside0.mk (Kd.R_elder' (by (with_reducible repeat (first | apply Kd.R_alloc | apply Kd.R_drewN | apply Kd.R_drew)); exact HO148.out) (Kd.R_base ho0) hb); have n1_ := Aside0.mk (Kd.R_lower (Kd.R_new' ho0 (Kd.R_lt (by (with_reducible repeat (first | apply Kd.R_alloc | apply Kd.R_drewN | apply Kd.R_drew)); exact HO148.out))) (below_size (by repeat (first | (with_reducible first | exact HB.out | apply below_alloc | apply pw_below_drewN | apply below_drew1) | exact HB.out)))); have n2_ := Aside0.mk (below_step (by repeat (first | (with_reducible first | exact HB.out | apply below_alloc | apply pw_below_drewN | apply below_drew1) | exact HB.out)) hb); clear HO148; clear HB; have HO148 := n0_; have HO152 := n1_; have HB := n2_; clear n0_ n1_ n2_; (try clear hb); (try clear hb2); (try clear hk); (try clear hi); (try clear ho0)))
      (try simp only [Act.put, List.setIfInBounds_toArray, List.set_cons_zero, List.set_cons_succ])
      go_cut [47] (fun v47 wc => ∃ (kq : Nat) (x47_8 : Bool), v47 = .bool x47_8 ∧ Aside0 (assizelaw23_DotFaithful.j0 kq l1 t145 t149 x47_8 = some r) ∧ Aside0 (kq ≤ k) ∧ Aside0 (Kd.R k34 34 wc w.heap.size (fun k_ => some k_ ≠ (v151 : Value).ownBlock) v147 t145) ∧ Aside0 (Kd.R k34 34 wc w.heap.size (fun k_ => some k_ ≠ (v147 : Value).ownBlock) v151 t149) ∧ Aside0 (Below w.heap.size w wc))
      case first =>
        have H := HC9.out
        clear HC9
        by_cases c14 : t146 = 0
        · rw [if_pos c14] at H
          have c14b0 : (t146 == 0) = true := beq_iff_eq.mpr c14
          have c14b1 : (t146 != 0) = false := bne_eq_false_iff_eq.mpr c14
          clear c14
          (first | rw [c14b0] | (simp only [i64_w, i32_w]; rw [c14b0]) | skip)
          by_cases c15 : t150 = 0
          · rw [if_pos c15] at H
            have c15b0 : (t150 == 0) = true := beq_iff_eq.mpr c15
            have c15b1 : (t150 != 0) = false := bne_eq_false_iff_eq.mpr c15
            clear c15
            replace H := Option.bind_eq_some_iff.mp H
            obtain ⟨t153, A160, H⟩ := H
            replace H : (assizelaw23_DotFaithful.j0 k l1 t145 t149 (!t153)) = some r := H
            have A16 := Aside0.mk A160
            clear A160
            have H' := Aside0.mk H
            clear H
            obtain ⟨Ao17, co17, eo17⟩ := Kd.R_slice HO148.out
            subst eo17
            go_wp2_with (first | (go_at_call 11; (with_reducible refine (assizeref06_SameEdges.calls k _ _ t145 _ _ l1 t153 _ ?side1 ?side2 ?side3 ?side4 A16.out).mono ?_); (case side1 => repeat (first | exact (Kd.R_reads' HO148.out).2.2 | (with_reducible refine Kd.C_alloc ?_ _) | (with_reducible refine Kd.C_drewN ?_ _) | (with_reducible refine Kd.C_drew ?_))); (case side2 => exact (Kd.R_reads' HO148.out).2.1); (case side3 => repeat (first | exact (Kd.C_below HR1.out HB.out) | (with_reducible refine Kd.C_alloc ?_ _) | (with_reducible refine Kd.C_drewN ?_ _) | (with_reducible refine Kd.C_drew ?_))); (case side4 => exact HC1.out); rintro e w' ⟨rfl, ⟨nd, rfl⟩⟩))
            go_meet
            case rel => exact ⟨_, (!t153), (by first | rfl | (simp; done) | (simp [*]; done)), H', ⟨by first | omega | exact Nat.le_refl _⟩, ⟨by (with_reducible repeat (first | apply Kd.R_alloc | apply Kd.R_drewN | apply Kd.R_drew)); exact Kd.R_mono HO148.out (fun _ hk => hk.2)⟩, ⟨by (with_reducible repeat (first | apply Kd.R_alloc | apply Kd.R_drewN | apply Kd.R_drew)); exact Kd.R_mono HO152.out (fun _ hk => hk.2)⟩, ⟨by repeat (first | (with_reducible first | exact HB.out | apply below_alloc | apply pw_below_drewN | apply below_drew1) | exact HB.out)⟩⟩
          · rw [if_neg c15] at H
            have c15b0 : (t150 == 0) = false := beq_eq_false_iff_ne.mpr c15
            have c15b1 : (t150 != 0) = true := bne_iff_ne.mpr c15
            have H' := Aside0.mk H
            clear H
            go_wp2
            go_meet
            case rel => exact ⟨_, (true), (by first | rfl | (simp; done) | (simp [*]; done)), H', ⟨by first | omega | exact Nat.le_refl _⟩, ⟨by (with_reducible repeat (first | apply Kd.R_alloc | apply Kd.R_drewN | apply Kd.R_drew)); exact Kd.R_mono HO148.out (fun _ hk => hk.2)⟩, ⟨by (with_reducible repeat (first | apply Kd.R_alloc | apply Kd.R_drewN | apply Kd.R_drew)); exact Kd.R_mono HO152.out (fun _ hk => hk.2)⟩, ⟨by repeat (first | (with_reducible first | exact HB.out | apply below_alloc | apply pw_below_drewN | apply below_drew1) | exact HB.out)⟩⟩
        · rw [if_neg c14] at H
          have c14b0 : (t146 == 0) = false := beq_eq_false_iff_ne.mpr c14
          have c14b1 : (t146 != 0) = true := bne_iff_ne.mpr c14
          (first | rw [c14b0] | (simp only [i64_w, i32_w]; rw [c14b0]) | skip)
          have H' := Aside0.mk H
          clear H
          go_wp2
          go_meet
          case rel => exact ⟨_, (true), (by first | rfl | (simp; done) | (simp [*]; done)), H', ⟨by first | omega | exact Nat.le_refl _⟩, ⟨by (with_reducible repeat (first | apply Kd.R_alloc | apply Kd.R_drewN | apply Kd.R_drew)); exact Kd.R_mono HO148.out (fun _ hk => hk.2)⟩, ⟨by (with_reducible repeat (first | apply Kd.R_alloc | apply Kd.R_drewN | apply Kd.R_drew)); exact Kd.R_mono HO152.out (fun _ hk => hk.2)⟩, ⟨by repeat (first | (with_reducible first | exact HB.out | apply below_alloc | apply pw_below_drewN | apply below_drew1) | exact HB.out)⟩⟩
      case rest =>
        clear HC9
        try clear c1
        try clear p2
        try clear c4
        try clear c5
        try clear c6
        try clear c6b0
        try clear c6b1
        try clear c8
        try clear c9
        try clear c13
        try clear c14
        try clear c14b0
        try clear c14b1
        try clear c15
        try clear c15b0
        try clear c15b1
        obtain ⟨kq, x47_8, rfl, HA, HJ8, HO_7, HO_9, HB⟩ := hcut
        cases kq with
        | zero => exact absurd HA.out (by simp [assizelaw23_DotFaithful.j0])
        | succ kj8 =>
          have H := HA.out
          clear HA
          simp only [assizelaw23_DotFaithful.j0] at H
          by_cases c18 : x47_8 = true
          · subst c18
            have H1 : (some false) = some r := by rw [if_pos rfl] at H; exact H
            clear H
            have H := H1
            clear H1
            obtain rfl := Option.some.inj H
            go_wp2
            go_ret
            exact ⟨by first | rfl | (simp [errW_none, errW_some] <;> rfl) | (simp [*, errW_none, errW_some] <;> rfl), by repeat (first | (with_reducible first | exact HB.out | apply below_alloc | apply pw_below_drewN | apply below_drew1) | exact HB.out)⟩
          · replace c18 := Bool.eq_false_iff.mpr c18
            subst c18
            have H1 : (assizelaw23_DotFaithful.l0 kj8 l1 t145 t149 0) = some r := by rw [if_neg (show ¬ (false = true) by decide)] at H; exact H
            clear H
            have H := H1
            clear H1
            have H' := Aside0.mk H
            clear H
            go_wp2
            go_loopg [11] kj8 (fun kq v11 w' => ∃ (x7_2 : List (S34)) (x11_2 : Int), v11 = .int .i64 x11_2 ∧ Aside0 (assizelaw23_DotFaithful.l0 kq l1 x7_2 t149 x11_2 = some r) ∧ Aside0 (kq ≤ kj8) ∧ Aside0 (Kd.R k34 34 w' w.heap.size (fun k_ => some k_ ≠ (v151 : Value).ownBlock) v147 x7_2) ∧ Aside0 (Kd.R k34 34 w' w.heap.size (fun k_ => some k_ ≠ (v147 : Value).ownBlock) v151 t149) ∧ Aside0 (Below w.heap.size w w'))
            case atStart => exact ⟨(t145), (0), (by first | rfl | (simp; done) | (simp [*]; done)), H', ⟨Nat.le_refl _⟩, ⟨by (with_reducible repeat (first | apply Kd.R_alloc | apply Kd.R_drewN | apply Kd.R_drew)); exact HO_7.out⟩, ⟨by (with_reducible repeat (first | apply Kd.R_alloc | apply Kd.R_drewN | apply Kd.R_drew)); exact HO_9.out⟩, ⟨by repeat (first | (with_reducible first | exact HB.out | apply below_alloc | apply pw_below_drewN | apply below_drew1) | exact HB.out)⟩⟩
            case round =>
              clear H'
              try clear c1
              try clear p2
              try clear c4
              try clear c5
              try clear c6
              try clear c6b0
              try clear c6b1
              try clear c8
              try clear c9
              try clear c13
              try clear c14
              try clear c14b0
              try clear c14b1
              try clear c15
              try clear c15b0
              try clear c15b1
              try clear c18
              try clear p2
              obtain ⟨x7_2, x11_2, rfl, HA, HK2, HO_7, HO_9, HB⟩ := hrel
              cases gk with
              | zero => exact absurd HA.out (by simp [assizelaw23_DotFaithful.l0])
              | succ k2 =>
                have H := HA.out
                clear HA
                simp only [assizelaw23_DotFaithful.l0] at H
                by_cases c19 : x11_2 < (x7_2.length : Int)
                · rw [if_pos c19] at H
                  have c19b0 : decide (x11_2 < (x7_2.length : Int)) = true := decide_eq_true c19
                  clear c19
                  by_cases c20 : 0 ≤ x11_2
                  · rw [if_pos c20] at H
                    have c20b0 : decide (0 ≤ x11_2) = true := decide_eq_true c20
                    clear c20
                    obtain ⟨y154, hy154⟩ : ∃ y_ : List (S34), y_ = (x7_2.set (x11_2 : Int).toNat (⟨0, 0, 99, 0⟩ : S34)) := ⟨_, rfl⟩
                    replace H : (assizelaw23_DotFaithful.l0 k2 l1 y154 t149 (wrap64 (x11_2 + 1))) = some r := by first | (rw [hy154]; with_reducible exact H) | (have H2_ := (Option.bind_some _ _).symm.trans H; rw [hy154]; with_reducible exact H2_) | (have H2_ := (Option.bind_some _ _).symm.trans H; with_reducible exact H2_) | with_reducible exact H | (rw [hy154]; exact H) | exact H
                    have Ny154 := Aside0.mk hy154
                    clear hy154
                    have H' := Aside0.mk H
                    clear H
                    obtain ⟨Ao22, co22, eo22⟩ := Kd.R_slice HO_7.out
                    subst eo22
                    have p21 : 0 ≤ (x11_2 : Int) := of_decide_eq_true (by first | (with_reducible assumption) | assumption)
                    have q21 : (x11_2 : Int) < ((x7_2.length : Int) : Int) := of_decide_eq_true (by first | (with_reducible assumption) | assumption)
                    obtain ⟨go21, co21, eo21, gb21, gl21, cl21, HG21⟩ := Kd.R_form HO_7.out (by omega)
                    (first | cases eo21 | (injection eo21 with ea_ en_ ec_; (first | subst ea_ | (injection ea_ with ea_; subst ea_)); subst ec_; clear en_))
                    have GB21 := Aside0.mk gb21
                    have GG21 := Aside0.mk HG21
                    clear gb21 gl21 HG21
                    obtain ⟨ce21, hcl21, hM21, hcc21, hfr21⟩ := Kd.R_elem HO_7.out z34 (x11_2 : Int) p21 q21
                    obtain rfl := k34_openM hM21
                    have hx21_0 : wr.cell? ⟨go21, (x11_2 : Int).toNat * 4, none⟩ = some (.int .i64 ((rd_T34 x7_2 x11_2).f0)) := hcc21 0 _ rfl
                    have hx21_1 : wr.cell? ⟨go21, (x11_2 : Int).toNat * 4 + 1, none⟩ = some (.int .i64 ((rd_T34 x7_2 x11_2).f1)) := hcc21 1 _ rfl
                    have hx21_2 : wr.cell? ⟨go21, (x11_2 : Int).toNat * 4 + 2, none⟩ = some (.int .i64 ((rd_T34 x7_2 x11_2).f2)) := hcc21 2 _ rfl
                    have hx21_3 : wr.cell? ⟨go21, (x11_2 : Int).toNat * 4 + 3, none⟩ = some (.int .i64 ((rd_T34 x7_2 x11_2).f3)) := hcc21 3 _ rfl
                    have hf21_0 : wr.frozen? ⟨go21, (x11_2 : Int).toNat * 4, none⟩ = false := hfr21 0
                    have hf21_1 : wr.frozen? ⟨go21, (x11_2 : Int).toNat * 4 + 1, none⟩ = false := hfr21 1
                    have hf21_2 : wr.frozen? ⟨go21, (x11_2 : Int).toNat * 4 + 2, none⟩ = false := hfr21 2
                    have hf21_3 : wr.frozen? ⟨go21, (x11_2 : Int).toNat * 4 + 3, none⟩ = false := hfr21 3
                    clear hcl21 hcc21 hfr21 hM21
                    replace p21 := eq_true p21
                    replace q21 := eq_true q21
                    have HX23 := Aside0.mk (show Kd.R k34 34 wr w.heap.size (fun k_ => some k_ ≠ (v151 : Value).ownBlock) (.slice (some ⟨go21, 0, none⟩) x7_2.length co22) x7_2 from (by (with_reducible repeat (first | apply Kd.R_alloc | apply Kd.R_drewN | apply Kd.R_drew)); exact HO_7.out))
                    obtain ⟨ce23, hcl23, hM23, hcc23, hfr23⟩ := Kd.R_elem HX23.out z34 (x11_2 : Int) (of_decide_eq_true (by first | (with_reducible assumption) | assumption)) (by have h_ : (x11_2 : Int) < ((x7_2.length : Int) : Int) := of_decide_eq_true (by first | (with_reducible assumption) | assumption); first | exact h_ | (have e_ := (Kd.R_reads' HO_7.out).1; omega) | simpa using h_)
                    obtain rfl := k34_openM hM23
                    have HP23 := Kd.R_seg HX23.out (x11_2 : Int) (of_decide_eq_true (by first | (with_reducible assumption) | assumption)) (by have h_ : (x11_2 : Int) < ((x7_2.length : Int) : Int) := of_decide_eq_true (by first | (with_reducible assumption) | assumption); first | exact h_ | (have e_ := (Kd.R_reads' HO_7.out).1; omega) | simpa using h_) (seg := [.int .i64 0, .int .i64 0, .int .i64 99, .int .i64 0]) (j := 0) hcl23 hcc23 (show 4 ≤ 4 from by decide) (x' := (⟨0, 0, 99, 0⟩ : S34)) (k34_mkM _ _ _ (⟨0, 0, 99, 0⟩ : S34) ) (fun _ hk => hk)
                    have hx23_0 := hcc23 0 _ rfl
                    (try simp only [show (k34).sz = 4 from rfl, Nat.mul_one, Nat.add_zero] at hx23_0)
                    have hf23_0 := hfr23 0
                    (try simp only [show (k34).sz = 4 from rfl, Nat.mul_one, Nat.add_zero] at hf23_0)
                    have hx23_1 := hcc23 1 _ rfl
                    (try simp only [show (k34).sz = 4 from rfl, Nat.mul_one, Nat.add_zero] at hx23_1)
                    have hf23_1 := hfr23 1
                    (try simp only [show (k34).sz = 4 from rfl, Nat.mul_one, Nat.add_zero] at hf23_1)
                    have hx23_2 := hcc23 2 _ rfl
                    (try simp only [show (k34).sz = 4 from rfl, Nat.mul_one, Nat.add_zero] at hx23_2)
                    have hf23_2 := hfr23 2
                    (try simp only [show (k34).sz = 4 from rfl, Nat.mul_one, Nat.add_zero] at hf23_2)
                    have hx23_3 := hcc23 3 _ rfl
                    (try simp only [show (k34).sz = 4 from rfl, Nat.mul_one, Nat.add_zero] at hx23_3)
                    have hf23_3 := hfr23 3
                    (try simp only [show (k34).sz = 4 from rfl, Nat.mul_one, Nat.add_zero] at hf23_3)
                    clear hcl23 hcc23 hfr23 hM23
                    go_wp2_with (first | ((with_reducible refine gate_store (t := 34) (p := 57) rfl ?_); refine store_event (t := 34) (p := 57) (v := ?vo_w24) (w1 := ((((wr.setCell ⟨go21, (x11_2 : Int).toNat * 4, none⟩ (.int .i64 0)).setCell ⟨go21, (x11_2 : Int).toNat * 4 + 1, none⟩ (.int .i64 0)).setCell ⟨go21, (x11_2 : Int).toNat * 4 + 2, none⟩ (.int .i64 99)).setCell ⟨go21, (x11_2 : Int).toNat * 4 + 3, none⟩ (.int .i64 0))) ?hg ?ho ?hn ?hr ?_; (case ho => rfl); (case hg => rfl); (case hn => rfl); (case hr => first | (go_simp; done) | (go_simp; rfl)); intro w24 hw; have hg : wr.grownBy w24 (some go21) := (by rw [hw]; exact HP23.2); have hp_ : Kd.R k34 34 w24 w.heap.size (fun k_ => some k_ ≠ (v151 : Value).ownBlock) (.slice (some ⟨go21, 0, none⟩) x7_2.length co22) y154 := (by rw [hw, Ny154.out]; exact HP23.1); clear HP23; have n0_ := Aside0.mk (hp_); have n1_ := Aside0.mk (Kd.R_after (v := (.slice (some ⟨go21, 0, none⟩) x7_2.length co22)) (v1 := (.slice (some ⟨go21, 0, none⟩) x7_2.length co22)) (ok := (fun _ => True)) (by (with_reducible repeat (first | apply Kd.R_alloc | apply Kd.R_drewN | apply Kd.R_drew)); exact Kd.R_mono HO_9.out (fun _ hk => ⟨trivial, hk⟩)) hg (.inl rfl)); have n2_ := Aside0.mk ((by rw [hw]; exact below_set (below_set (below_set (below_set (HB.out) GB21.out) GB21.out) GB21.out) GB21.out : Below w.heap.size w w24)); clear HO_7; clear HO_9; clear HB; have HO_7 := n0_; have HO_9 := n1_; have HB := n2_; clear n0_ n1_ n2_; clear hg hw hp_))
                    go_roundg k2
                    case measure => have := HJ8.out; have := HK2.out; omega
                    case rel => exact ⟨(y154), (wrap64 (x11_2 + 1)), (by first | rfl | (simp; done) | (simp [*]; done)), H', ⟨by have := HJ8.out; have := HK2.out; omega⟩, ⟨by (with_reducible repeat (first | apply Kd.R_alloc | apply Kd.R_drewN | apply Kd.R_drew)); exact HO_7.out⟩, ⟨by (with_reducible repeat (first | apply Kd.R_alloc | apply Kd.R_drewN | apply Kd.R_drew)); exact Kd.R_mono HO_9.out (fun _ hk => hk.2)⟩, ⟨by repeat (first | (with_reducible first | exact HB.out | apply below_alloc | apply pw_below_drewN | apply below_drew1) | exact HB.out)⟩⟩
                  · rw [if_neg c20] at H
                    exact absurd H (by simp)
                · rw [if_neg c19] at H
                  have c19b0 : decide (x11_2 < (x7_2.length : Int)) = false := decide_eq_false c19
                  clear c19
                  replace H := Option.bind_eq_some_iff.mp H
                  obtain ⟨t155, A250, H⟩ := H
                  replace H : (some t155) = some r := H
                  have A25 := Aside0.mk A250
                  clear A250
                  obtain rfl := Option.some.inj H
                  obtain ⟨Ao26, co26, eo26⟩ := Kd.R_slice HO_7.out
                  subst eo26
                  obtain ⟨Ao27, co27, eo27⟩ := Kd.R_slice HO_9.out
                  subst eo27
                  go_wp2_with (first | ((with_reducible refine gate_callee (f := 11) rfl ?_); refine goesL_ (some 60) rfl rfl Tryd.func11 (by kernel_rfl) rfl #[.slice Ao27 t149.length co27, .slice A1 l1.length c1] rfl (by (try simp only [List.map_toArray, List.map_cons, List.map_nil]); first | done | rfl | (simp only [List.length_drop, List.length_take]; rfl)) ?_; (with_reducible refine (assizeref06_SameEdges.calls k2 _ _ t149 _ _ l1 t155 _ ?side1 ?side2 ?side3 ?side4 A25.out).mono ?_); (case side1 => repeat (first | exact (Kd.R_reads' HO_9.out).2.2 | (with_reducible refine Kd.C_alloc ?_ _) | (with_reducible refine Kd.C_drewN ?_ _) | (with_reducible refine Kd.C_drew ?_))); (case side2 => exact (Kd.R_reads' HO_9.out).2.1); (case side3 => repeat (first | exact (Kd.C_below HR1.out HB.out) | (with_reducible refine Kd.C_alloc ?_ _) | (with_reducible refine Kd.C_drewN ?_ _) | (with_reducible refine Kd.C_drew ?_))); (case side4 => exact HC1.out); rintro e w' ⟨rfl, ⟨nd, rfl⟩⟩; refine ⟨_, rfl, ?_⟩))
                  go_ret
                  exact ⟨by first | rfl | (simp [errW_none, errW_some] <;> rfl) | (simp [*, errW_none, errW_some] <;> rfl), by repeat (first | (with_reducible first | exact HB.out | apply below_alloc | apply pw_below_drewN | apply below_drew1) | exact HB.out)⟩
    · rw [if_neg c6] at H
      have c6b0 : (t144 == 0) = false := beq_eq_false_iff_ne.mpr c6
      have c6b1 : (t144 != 0) = true := bne_iff_ne.mpr c6
      obtain rfl := Option.some.inj H
      go_enter Tryd.func5, Tryd.ntmps5
      go_wp2_with (first | ((with_reducible refine gate_callee (f := 8) rfl ?_); refine goesL_ (some 12) rfl rfl Tryd.func8 (by kernel_rfl) rfl #[] rfl (by (try simp only [List.map_toArray, List.map_cons, List.map_nil]); first | done | rfl | (simp only [List.length_drop, List.length_take]; rfl)) ?_; (with_reducible refine (assizelaw23_alive.calls k  true _ A3.out (HTAB.out.below (by repeat (first | (with_reducible first | exact HB.out | apply below_alloc | apply pw_below_drewN | apply below_drew1 | refine below_set ?_ (by assumption) | refine below_set ?_ (Aside0.out (by assumption))) | exact HB.out)))).mono ?_); rintro e w28 ⟨rfl, hb⟩; refine ⟨_, rfl, ?_⟩; have n0_ := Aside0.mk (below_step (by repeat (first | (with_reducible first | exact HB.out | apply below_alloc | apply pw_below_drewN | apply below_drew1) | exact HB.out)) hb); clear HB; have HB := n0_; clear n0_; (try clear hb); (try clear hb2); (try clear hk); (try clear hi)) | ((with_reducible refine gate_callee (f := 9) rfl ?_); refine goesL_ (some 17) rfl rfl Tryd.func9 (by kernel_rfl) rfl #[.slice A0 l0.length c0, .slice A1 l1.length c1] rfl (by (try simp only [List.map_toArray, List.map_cons, List.map_nil]); first | done | rfl | (simp only [List.length_drop, List.length_take]; rfl)) ?_; (with_reducible refine (dot_Print.calls k _ _ l0 _ _ l1 t143 t144 _ ?side1 ?side2 ?side3 ?side4 A5.out (HTAB.out.below (by repeat (first | (with_reducible first | exact HB.out | apply below_alloc | apply pw_below_drewN | apply below_drew1 | refine below_set ?_ (by assumption) | refine below_set ?_ (Aside0.out (by assumption))) | exact HB.out)))).mono ?_); (case side1 => repeat (first | exact (Kd.C_below HR0.out HB.out) | (with_reducible refine Kd.C_alloc ?_ _) | (with_reducible refine Kd.C_drewN ?_ _) | (with_reducible refine Kd.C_drew ?_))); (case side2 => exact HC0.out); (case side3 => repeat (first | exact (Kd.C_below HR1.out HB.out) | (with_reducible refine Kd.C_alloc ?_ _) | (with_reducible refine Kd.C_drewN ?_ _) | (with_reducible refine Kd.C_drew ?_))); (case side4 => exact HC1.out); rintro e w29 ⟨rfl, hb⟩; refine ⟨_, rfl, ?_⟩; have n0_ := Aside0.mk (below_step (by repeat (first | (with_reducible first | exact HB.out | apply below_alloc | apply pw_below_drewN | apply below_drew1) | exact HB.out)) hb); clear HB; have HB := n0_; clear n0_; (try clear hb); (try clear hb2); (try clear hk); (try clear hi)))
      go_ret
      exact ⟨by first | rfl | (simp [errW_none, errW_some] <;> rfl) | (simp [*, errW_none, errW_some] <;> rfl), by repeat (first | (with_reducible first | exact HB.out | apply below_alloc | apply pw_below_drewN | apply below_drew1) | exact HB.out)⟩
  · replace c4 := Bool.eq_false_iff.mpr c4
    subst c4
    have H1 : (some false) = some r := by rw [if_neg (show ¬ (false = true) by decide)] at H; exact H
    clear H
    have H := H1
    clear H1
    obtain rfl := Option.some.inj H
    go_enter Tryd.func5, Tryd.ntmps5
    go_wp2_with (first | ((with_reducible refine gate_callee (f := 8) rfl ?_); refine goesL_ (some 12) rfl rfl Tryd.func8 (by kernel_rfl) rfl #[] rfl (by (try simp only [List.map_toArray, List.map_cons, List.map_nil]); first | done | rfl | (simp only [List.length_drop, List.length_take]; rfl)) ?_; (with_reducible refine (assizelaw23_alive.calls k  false _ A3.out (HTAB.out.below (by repeat (first | (with_reducible first | exact HB.out | apply below_alloc | apply pw_below_drewN | apply below_drew1 | refine below_set ?_ (by assumption) | refine below_set ?_ (Aside0.out (by assumption))) | exact HB.out)))).mono ?_); rintro e w30 ⟨rfl, hb⟩; refine ⟨_, rfl, ?_⟩; have n0_ := Aside0.mk (below_step (by repeat (first | (with_reducible first | exact HB.out | apply below_alloc | apply pw_below_drewN | apply below_drew1) | exact HB.out)) hb); clear HB; have HB := n0_; clear n0_; (try clear hb); (try clear hb2); (try clear hk); (try clear hi)))
    go_ret
    exact ⟨by first | rfl | (simp [errW_none, errW_some] <;> rfl) | (simp [*, errW_none, errW_some] <;> rfl), by repeat (first | (with_reducible first | exact HB.out | apply below_alloc | apply pw_below_drewN | apply below_drew1) | exact HB.out)⟩

end Go.Proofs.YtohlbnbfpcbpdaaDoor.PS
