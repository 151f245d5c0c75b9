-- MADE BY A PROGRAM (the kit's print.py, several functions in one set) out of the translation; Lean checks it.
import Derived.Test.YtllgcpoljdjjnaaPSx0
import Derived.Test.YtllgcpoljdjjnaaPagePrn
namespace Go.Proofs.Ytllgcpoljdjjnaa.PS
open Go.RowKit Go.Proofs.YtllgcpoljdjjnaaW.PrintWords Go.Proofs.YtllgcpoljdjjnaaW.PrintLast Go.Proofs.YtllgcpoljdjjnaaW.PrintMore
attribute [local go_sem] max2_int min2_int max_two min_two max_three min_three max_four min_four   -- for this text's walks alone
set_option linter.unusedVariables false
set_option linter.unusedSimpArgs false

-- GIVEN ELSEWHERE: function 5 (page_Escape)

-- GIVEN ELSEWHERE: function 6 (page_Page)

-- GIVEN ELSEWHERE: function 7 (page_Words)

-- GIVEN ELSEWHERE: function 8 (page_Tags)

/-! ### assizelaw24_alive: function 4 -/
def assizelaw24_alive.f (k : Nat)  : Option (Bool) := (page_Words.f k (⟨#[97, 60, 98, 62, 99, 38, 108, 116, 59]⟩ : ByteArray)).bind fun bt101 => ((page_Tags.f k (⟨#[97, 60, 98, 62, 99]⟩ : ByteArray)).bind fun bt103 => (if bt101.2 = 0 then (if bt101.1.toList = ([97, 99, 60] : List UInt8) then (if bt103.2 = 0 then (if (bt103.1.length : Int) = 1 then (if 0 < (bt103.1.length : Int) then (if (rdOf ByteArray.empty bt103.1 0).toList = ([98] : List UInt8) then ((page_Escape.f k (⟨#[60]⟩ : ByteArray)).bind fun t108 => (if t108.toList = ([38, 108, 116, 59] : List UInt8) then ((page_Page.f k (⟨#[]⟩ : ByteArray) ([] : List ByteArray)).bind fun t109 => (some (decide ((t109.size : Int) > 40)))) else (some false))) else (some false)) else (none)) else (some false)) else (some false)) else (some false)) else (some false)))
theorem assizelaw24_alive.mono : ∀ k, LeO (assizelaw24_alive.f k ) (assizelaw24_alive.f (k + 1) ) := by
  intro  k
  unfold assizelaw24_alive.f
  repeat' first
      | (with_reducible exact page_Escape.mono _ _)
      | (with_reducible exact page_Page.mono _ _ _)
      | (with_reducible exact page_Tags.mono _ _)
      | (with_reducible exact page_Words.mono _ _)
      | (with_reducible exact LeO.refl _)
      | (with_reducible exact LeO.none _)
      | (with_reducible refine LeO.ite ?_ ?_)
      | (with_reducible refine LeO.bind ?_ (fun _ => ?_))
      | exact page_Escape.mono _ _
      | exact page_Page.mono _ _ _
      | exact page_Tags.mono _ _
      | exact page_Words.mono _ _
      | exact LeO.none _
      | refine LeO.ite ?_ ?_
      | refine LeO.bind ?_ (fun _ => ?_)
set_option maxHeartbeats 8000000 in
set_option maxRecDepth 100000 in
theorem assizelaw24_alive.calls (k : Nat)  (r : Bool) (w : World) (h : assizelaw24_alive.f k  = some r) :
    Calls Try.prog 4 #[] w fun e w' => e = .returned (.bool r) ∧ Below w.heap.size w w' := by
  have HB := Aside0.mk (Below.refl w.heap.size w)
  have H : ((page_Words.f k (⟨#[97, 60, 98, 62, 99, 38, 108, 116, 59]⟩ : ByteArray)).bind fun bt101 => ((page_Tags.f k (⟨#[97, 60, 98, 62, 99]⟩ : ByteArray)).bind fun bt103 => (if bt101.2 = 0 then (if bt101.1.toList = ([97, 99, 60] : List UInt8) then (if bt103.2 = 0 then (if (bt103.1.length : Int) = 1 then (if 0 < (bt103.1.length : Int) then (if (rdOf ByteArray.empty bt103.1 0).toList = ([98] : List UInt8) then ((page_Escape.f k (⟨#[60]⟩ : ByteArray)).bind fun t108 => (if t108.toList = ([38, 108, 116, 59] : List UInt8) then ((page_Page.f k (⟨#[]⟩ : ByteArray) ([] : List ByteArray)).bind fun t109 => (some (decide ((t109.size : Int) > 40)))) else (some false))) else (some false)) else (none)) else (some false)) else (some false)) else (some false)) else (some false)))) = some r := h
  clear h
  replace H := Option.bind_eq_some_iff.mp H
  obtain ⟨⟨t101, t102⟩, A10, H⟩ := H
  replace H : ((page_Tags.f k (⟨#[97, 60, 98, 62, 99]⟩ : ByteArray)).bind fun bt103 => (if t102 = 0 then (if t101.toList = ([97, 99, 60] : List UInt8) then (if bt103.2 = 0 then (if (bt103.1.length : Int) = 1 then (if 0 < (bt103.1.length : Int) then (if (rdOf ByteArray.empty bt103.1 0).toList = ([98] : List UInt8) then ((page_Escape.f k (⟨#[60]⟩ : ByteArray)).bind fun t108 => (if t108.toList = ([38, 108, 116, 59] : List UInt8) then ((page_Page.f k (⟨#[]⟩ : ByteArray) ([] : List ByteArray)).bind fun t109 => (some (decide ((t109.size : Int) > 40)))) else (some false))) else (some false)) else (none)) else (some false)) else (some false)) else (some false)) else (some false))) = some r := H
  have A1 := Aside0.mk A10
  clear A10
  replace H := Option.bind_eq_some_iff.mp H
  obtain ⟨⟨t103, t104⟩, A20, H⟩ := H
  replace H : (if t102 = 0 then (if t101.toList = ([97, 99, 60] : List UInt8) then (if t104 = 0 then (if (t103.length : Int) = 1 then (if 0 < (t103.length : Int) then (if (rdOf ByteArray.empty t103 0).toList = ([98] : List UInt8) then ((page_Escape.f k (⟨#[60]⟩ : ByteArray)).bind fun t108 => (if t108.toList = ([38, 108, 116, 59] : List UInt8) then ((page_Page.f k (⟨#[]⟩ : ByteArray) ([] : List ByteArray)).bind fun t109 => (some (decide ((t109.size : Int) > 40)))) else (some false))) else (some false)) else (none)) else (some false)) else (some false)) else (some false)) else (some false)) = some r := H
  have A2 := Aside0.mk A20
  clear A20
  by_cases c3 : t102 = 0
  · rw [if_pos c3] at H
    have c3b0 : (t102 == 0) = true := beq_iff_eq.mpr c3
    have c3b1 : (t102 != 0) = false := bne_eq_false_iff_eq.mpr c3
    clear c3
    by_cases c4 : t101.toList = ([97, 99, 60] : List UInt8)
    · rw [if_pos c4] at H
      have c4b0 : (t101.toList == ([97, 99, 60] : List UInt8)) = true := beq_iff_eq.mpr c4
      have c4b1 : (t101.toList != ([97, 99, 60] : List UInt8)) = false := bne_eq_false_iff_eq.mpr c4
      clear c4
      by_cases c5 : t104 = 0
      · rw [if_pos c5] at H
        have c5b0 : (t104 == 0) = true := beq_iff_eq.mpr c5
        have c5b1 : (t104 != 0) = false := bne_eq_false_iff_eq.mpr c5
        clear c5
        by_cases c6 : (t103.length : Int) = 1
        · rw [if_pos c6] at H
          have c6b0 : ((t103.length : Int) == 1) = true := beq_iff_eq.mpr c6
          have c6b1 : ((t103.length : Int) != 1) = false := bne_eq_false_iff_eq.mpr c6
          clear c6
          by_cases c7 : 0 < (t103.length : Int)
          · rw [if_pos c7] at H
            have c7b0 : decide (0 < (t103.length : Int)) = true := decide_eq_true c7
            have c7b1 : decide (0 < t103.length) = true := decide_eq_true (by omega)
            clear c7
            by_cases c8 : (rdOf ByteArray.empty t103 0).toList = ([98] : List UInt8)
            · rw [if_pos c8] at H
              have c8b0 : ((rdOf ByteArray.empty t103 0).toList == ([98] : List UInt8)) = true := beq_iff_eq.mpr c8
              have c8b1 : ((rdOf ByteArray.empty t103 0).toList != ([98] : List UInt8)) = false := bne_eq_false_iff_eq.mpr c8
              clear c8
              replace H := Option.bind_eq_some_iff.mp H
              obtain ⟨t108, A90, H⟩ := H
              replace H : (if t108.toList = ([38, 108, 116, 59] : List UInt8) then ((page_Page.f k (⟨#[]⟩ : ByteArray) ([] : List ByteArray)).bind fun t109 => (some (decide ((t109.size : Int) > 40)))) else (some false)) = some r := H
              have A9 := Aside0.mk A90
              clear A90
              by_cases c10 : t108.toList = ([38, 108, 116, 59] : List UInt8)
              · rw [if_pos c10] at H
                have c10b0 : (t108.toList == ([38, 108, 116, 59] : List UInt8)) = true := beq_iff_eq.mpr c10
                have c10b1 : (t108.toList != ([38, 108, 116, 59] : List UInt8)) = false := bne_eq_false_iff_eq.mpr c10
                clear c10
                replace H := Option.bind_eq_some_iff.mp H
                obtain ⟨t109, A110, H⟩ := H
                replace H : (some (decide ((t109.size : Int) > 40))) = some r := H
                have A11 := Aside0.mk A110
                clear A110
                obtain rfl := Option.some.inj H
                go_enter Try.func4, Try.ntmps4
                go_wp2_with (first | ((with_reducible refine gate_callee (f := 7) rfl ?_); refine goesL_ (some 6) rfl rfl Try.func7 (by kernel_rfl) rfl #[.string (⟨#[97, 60, 98, 62, 99, 38, 108, 116, 59]⟩ : ByteArray)] rfl (by (try simp only [List.map_toArray, List.map_cons, List.map_nil]); first | done | rfl | (simp only [List.length_drop, List.length_take]; rfl)) ?_; (with_reducible refine (page_Words.calls k (⟨#[97, 60, 98, 62, 99, 38, 108, 116, 59]⟩ : ByteArray) t101 t102 _ A1.out).mono ?_); rintro e w12 ⟨rfl, hb⟩; refine ⟨_, rfl, ?_⟩; have n0_ := Aside0.mk (below_step (by repeat (first | (with_reducible first | exact HB.out | apply below_alloc | apply pw_below_drewN | apply below_drew1) | exact HB.out)) hb); clear HB; have HB := n0_; clear n0_; (try clear hb); (try clear hb2); (try clear hk); (try clear hi)) | ((with_reducible refine gate_callee (f := 8) rfl ?_); refine goesL_ (some 10) rfl rfl Try.func8 (by kernel_rfl) rfl #[.string (⟨#[97, 60, 98, 62, 99]⟩ : ByteArray)] rfl (by (try simp only [List.map_toArray, List.map_cons, List.map_nil]); first | done | rfl | (simp only [List.length_drop, List.length_take]; rfl)) ?_; (with_reducible refine (page_Tags.calls k (⟨#[97, 60, 98, 62, 99]⟩ : ByteArray) t103 t104 _ A2.out).mono ?_); rintro e w13 ⟨v105, rfl, ho0, hb⟩; refine ⟨_, rfl, ?_⟩; have n0_ := Aside0.mk (Kd.R_lower ho0 (below_size (by repeat (first | (with_reducible first | exact HB.out | apply below_alloc | apply pw_below_drewN | apply below_drew1) | exact HB.out)))); have n1_ := Aside0.mk (below_step (by repeat (first | (with_reducible first | exact HB.out | apply below_alloc | apply pw_below_drewN | apply below_drew1) | exact HB.out)) hb); clear HB; have HO106 := n0_; have HB := n1_; clear n0_ n1_; (try clear hb); (try clear hb2); (try clear hk); (try clear hi); (try clear ho0); obtain ⟨Ao14, co14, eo14⟩ := Kd.R_slice HO106.out; subst eo14; have p107 : 0 ≤ (0 : Int) := (by omega); have q107 : 0 < (t103.length : Int) := of_decide_eq_true (by first | (with_reducible assumption) | assumption); obtain ⟨ad107, e107, hx107_0⟩ := Kd.at_string (Kd.R_reads' HO106.out).2.2 0 p107 q107; cases e107; have qi107 : (0 < t103.length) = True := eq_true (by omega); (try rw [show ((0 : Int)).toNat = 0 from rfl] at hx107_0); (try rw [Addr.add_zero'] at hx107_0); replace p107 := eq_true p107; replace q107 := eq_true q107) | (go_at_call 5; (with_reducible refine (page_Escape.calls k (⟨#[60]⟩ : ByteArray) t108 _ A9.out).mono ?_); rintro e w15 ⟨rfl, hb⟩; have n0_ := Aside0.mk (Kd.R_below (by (with_reducible repeat (first | apply Kd.R_alloc | apply Kd.R_drewN | apply Kd.R_drew)); exact HO106.out) hb); have n1_ := Aside0.mk (below_step (by repeat (first | (with_reducible first | exact HB.out | apply below_alloc | apply pw_below_drewN | apply below_drew1) | exact HB.out)) hb); clear HO106; clear HB; have HO106 := n0_; have HB := n1_; clear n0_ n1_; (try clear hb); (try clear hb2); (try clear hk); (try clear hi)) | (go_at_call 6; (refine (page_Page.calls k (⟨#[]⟩ : ByteArray) _ _ ([] : List ByteArray) t109 _ ?side1 ?side2 A11.out).mono ?_); (case side1 => exact Kd.C_nil _ _); (case side2 => exact Nat.le_refl _); rintro e w16 ⟨rfl, hb⟩; have n0_ := Aside0.mk (Kd.R_below (by (with_reducible repeat (first | apply Kd.R_alloc | apply Kd.R_drewN | apply Kd.R_drew)); exact HO106.out) hb); have n1_ := Aside0.mk (below_step (by repeat (first | (with_reducible first | exact HB.out | apply below_alloc | apply pw_below_drewN | apply below_drew1) | exact HB.out)) hb); clear HO106; clear HB; have HO106 := n0_; have HB := n1_; clear n0_ n1_; (try clear hb); (try clear hb2); (try clear hk); (try clear hi)))
                go_ret
                exact ⟨by first | rfl | (simp [errW_none, errW_some] <;> rfl) | (simp [*, errW_none, errW_some] <;> rfl), by repeat (first | (with_reducible first | exact HB.out | apply below_alloc | apply pw_below_drewN | apply below_drew1) | exact HB.out)⟩
              · rw [if_neg c10] at H
                have c10b0 : (t108.toList == ([38, 108, 116, 59] : List UInt8)) = false := beq_eq_false_iff_ne.mpr c10
                have c10b1 : (t108.toList != ([38, 108, 116, 59] : List UInt8)) = true := bne_iff_ne.mpr c10
                obtain rfl := Option.some.inj H
                go_enter Try.func4, Try.ntmps4
                go_wp2_with (first | ((with_reducible refine gate_callee (f := 7) rfl ?_); refine goesL_ (some 6) rfl rfl Try.func7 (by kernel_rfl) rfl #[.string (⟨#[97, 60, 98, 62, 99, 38, 108, 116, 59]⟩ : ByteArray)] rfl (by (try simp only [List.map_toArray, List.map_cons, List.map_nil]); first | done | rfl | (simp only [List.length_drop, List.length_take]; rfl)) ?_; (with_reducible refine (page_Words.calls k (⟨#[97, 60, 98, 62, 99, 38, 108, 116, 59]⟩ : ByteArray) t101 t102 _ A1.out).mono ?_); rintro e w17 ⟨rfl, hb⟩; refine ⟨_, rfl, ?_⟩; have n0_ := Aside0.mk (below_step (by repeat (first | (with_reducible first | exact HB.out | apply below_alloc | apply pw_below_drewN | apply below_drew1) | exact HB.out)) hb); clear HB; have HB := n0_; clear n0_; (try clear hb); (try clear hb2); (try clear hk); (try clear hi)) | ((with_reducible refine gate_callee (f := 8) rfl ?_); refine goesL_ (some 10) rfl rfl Try.func8 (by kernel_rfl) rfl #[.string (⟨#[97, 60, 98, 62, 99]⟩ : ByteArray)] rfl (by (try simp only [List.map_toArray, List.map_cons, List.map_nil]); first | done | rfl | (simp only [List.length_drop, List.length_take]; rfl)) ?_; (with_reducible refine (page_Tags.calls k (⟨#[97, 60, 98, 62, 99]⟩ : ByteArray) t103 t104 _ A2.out).mono ?_); rintro e w18 ⟨v105, rfl, ho0, hb⟩; refine ⟨_, rfl, ?_⟩; have n0_ := Aside0.mk (Kd.R_lower ho0 (below_size (by repeat (first | (with_reducible first | exact HB.out | apply below_alloc | apply pw_below_drewN | apply below_drew1) | exact HB.out)))); have n1_ := Aside0.mk (below_step (by repeat (first | (with_reducible first | exact HB.out | apply below_alloc | apply pw_below_drewN | apply below_drew1) | exact HB.out)) hb); clear HB; have HO106 := n0_; have HB := n1_; clear n0_ n1_; (try clear hb); (try clear hb2); (try clear hk); (try clear hi); (try clear ho0); obtain ⟨Ao19, co19, eo19⟩ := Kd.R_slice HO106.out; subst eo19; have p107 : 0 ≤ (0 : Int) := (by omega); have q107 : 0 < (t103.length : Int) := of_decide_eq_true (by first | (with_reducible assumption) | assumption); obtain ⟨ad107, e107, hx107_0⟩ := Kd.at_string (Kd.R_reads' HO106.out).2.2 0 p107 q107; cases e107; have qi107 : (0 < t103.length) = True := eq_true (by omega); (try rw [show ((0 : Int)).toNat = 0 from rfl] at hx107_0); (try rw [Addr.add_zero'] at hx107_0); replace p107 := eq_true p107; replace q107 := eq_true q107) | (go_at_call 5; (with_reducible refine (page_Escape.calls k (⟨#[60]⟩ : ByteArray) t108 _ A9.out).mono ?_); rintro e w20 ⟨rfl, hb⟩; have n0_ := Aside0.mk (Kd.R_below (by (with_reducible repeat (first | apply Kd.R_alloc | apply Kd.R_drewN | apply Kd.R_drew)); exact HO106.out) hb); have n1_ := Aside0.mk (below_step (by repeat (first | (with_reducible first | exact HB.out | apply below_alloc | apply pw_below_drewN | apply below_drew1) | exact HB.out)) hb); clear HO106; clear HB; have HO106 := n0_; have HB := n1_; clear n0_ n1_; (try clear hb); (try clear hb2); (try clear hk); (try clear hi)))
                go_ret
                exact ⟨by first | rfl | (simp [errW_none, errW_some] <;> rfl) | (simp [*, errW_none, errW_some] <;> rfl), by repeat (first | (with_reducible first | exact HB.out | apply below_alloc | apply pw_below_drewN | apply below_drew1) | exact HB.out)⟩
            · rw [if_neg c8] at H
              have c8b0 : ((rdOf ByteArray.empty t103 0).toList == ([98] : List UInt8)) = false := beq_eq_false_iff_ne.mpr c8
              have c8b1 : ((rdOf ByteArray.empty t103 0).toList != ([98] : List UInt8)) = true := bne_iff_ne.mpr c8
              obtain rfl := Option.some.inj H
              go_enter Try.func4, Try.ntmps4
              go_wp2_with (first | ((with_reducible refine gate_callee (f := 7) rfl ?_); refine goesL_ (some 6) rfl rfl Try.func7 (by kernel_rfl) rfl #[.string (⟨#[97, 60, 98, 62, 99, 38, 108, 116, 59]⟩ : ByteArray)] rfl (by (try simp only [List.map_toArray, List.map_cons, List.map_nil]); first | done | rfl | (simp only [List.length_drop, List.length_take]; rfl)) ?_; (with_reducible refine (page_Words.calls k (⟨#[97, 60, 98, 62, 99, 38, 108, 116, 59]⟩ : ByteArray) t101 t102 _ A1.out).mono ?_); rintro e w21 ⟨rfl, hb⟩; refine ⟨_, rfl, ?_⟩; have n0_ := Aside0.mk (below_step (by repeat (first | (with_reducible first | exact HB.out | apply below_alloc | apply pw_below_drewN | apply below_drew1) | exact HB.out)) hb); clear HB; have HB := n0_; clear n0_; (try clear hb); (try clear hb2); (try clear hk); (try clear hi)) | ((with_reducible refine gate_callee (f := 8) rfl ?_); refine goesL_ (some 10) rfl rfl Try.func8 (by kernel_rfl) rfl #[.string (⟨#[97, 60, 98, 62, 99]⟩ : ByteArray)] rfl (by (try simp only [List.map_toArray, List.map_cons, List.map_nil]); first | done | rfl | (simp only [List.length_drop, List.length_take]; rfl)) ?_; (with_reducible refine (page_Tags.calls k (⟨#[97, 60, 98, 62, 99]⟩ : ByteArray) t103 t104 _ A2.out).mono ?_); rintro e w22 ⟨v105, rfl, ho0, hb⟩; refine ⟨_, rfl, ?_⟩; have n0_ := Aside0.mk (Kd.R_lower ho0 (below_size (by repeat (first | (with_reducible first | exact HB.out | apply below_alloc | apply pw_below_drewN | apply below_drew1) | exact HB.out)))); have n1_ := Aside0.mk (below_step (by repeat (first | (with_reducible first | exact HB.out | apply below_alloc | apply pw_below_drewN | apply below_drew1) | exact HB.out)) hb); clear HB; have HO106 := n0_; have HB := n1_; clear n0_ n1_; (try clear hb); (try clear hb2); (try clear hk); (try clear hi); (try clear ho0); obtain ⟨Ao23, co23, eo23⟩ := Kd.R_slice HO106.out; subst eo23; have p107 : 0 ≤ (0 : Int) := (by omega); have q107 : 0 < (t103.length : Int) := of_decide_eq_true (by first | (with_reducible assumption) | assumption); obtain ⟨ad107, e107, hx107_0⟩ := Kd.at_string (Kd.R_reads' HO106.out).2.2 0 p107 q107; cases e107; have qi107 : (0 < t103.length) = True := eq_true (by omega); (try rw [show ((0 : Int)).toNat = 0 from rfl] at hx107_0); (try rw [Addr.add_zero'] at hx107_0); replace p107 := eq_true p107; replace q107 := eq_true q107))
              go_ret
              exact ⟨by first | rfl | (simp [errW_none, errW_some] <;> rfl) | (simp [*, errW_none, errW_some] <;> rfl), by repeat (first | (with_reducible first | exact HB.out | apply below_alloc | apply pw_below_drewN | apply below_drew1) | exact HB.out)⟩
          · rw [if_neg c7] at H
            exact absurd H (by simp)
        · rw [if_neg c6] at H
          have c6b0 : ((t103.length : Int) == 1) = false := beq_eq_false_iff_ne.mpr c6
          have c6b1 : ((t103.length : Int) != 1) = true := bne_iff_ne.mpr c6
          obtain rfl := Option.some.inj H
          go_enter Try.func4, Try.ntmps4
          go_wp2_with (first | ((with_reducible refine gate_callee (f := 7) rfl ?_); refine goesL_ (some 6) rfl rfl Try.func7 (by kernel_rfl) rfl #[.string (⟨#[97, 60, 98, 62, 99, 38, 108, 116, 59]⟩ : ByteArray)] rfl (by (try simp only [List.map_toArray, List.map_cons, List.map_nil]); first | done | rfl | (simp only [List.length_drop, List.length_take]; rfl)) ?_; (with_reducible refine (page_Words.calls k (⟨#[97, 60, 98, 62, 99, 38, 108, 116, 59]⟩ : ByteArray) t101 t102 _ A1.out).mono ?_); rintro e w24 ⟨rfl, hb⟩; refine ⟨_, rfl, ?_⟩; have n0_ := Aside0.mk (below_step (by repeat (first | (with_reducible first | exact HB.out | apply below_alloc | apply pw_below_drewN | apply below_drew1) | exact HB.out)) hb); clear HB; have HB := n0_; clear n0_; (try clear hb); (try clear hb2); (try clear hk); (try clear hi)) | ((with_reducible refine gate_callee (f := 8) rfl ?_); refine goesL_ (some 10) rfl rfl Try.func8 (by kernel_rfl) rfl #[.string (⟨#[97, 60, 98, 62, 99]⟩ : ByteArray)] rfl (by (try simp only [List.map_toArray, List.map_cons, List.map_nil]); first | done | rfl | (simp only [List.length_drop, List.length_take]; rfl)) ?_; (with_reducible refine (page_Tags.calls k (⟨#[97, 60, 98, 62, 99]⟩ : ByteArray) t103 t104 _ A2.out).mono ?_); rintro e w25 ⟨v105, rfl, ho0, hb⟩; refine ⟨_, rfl, ?_⟩; have n0_ := Aside0.mk (Kd.R_lower ho0 (below_size (by repeat (first | (with_reducible first | exact HB.out | apply below_alloc | apply pw_below_drewN | apply below_drew1) | exact HB.out)))); have n1_ := Aside0.mk (below_step (by repeat (first | (with_reducible first | exact HB.out | apply below_alloc | apply pw_below_drewN | apply below_drew1) | exact HB.out)) hb); clear HB; have HO106 := n0_; have HB := n1_; clear n0_ n1_; (try clear hb); (try clear hb2); (try clear hk); (try clear hi); (try clear ho0); obtain ⟨Ao26, co26, eo26⟩ := Kd.R_slice HO106.out; subst eo26))
          go_ret
          exact ⟨by first | rfl | (simp [errW_none, errW_some] <;> rfl) | (simp [*, errW_none, errW_some] <;> rfl), by repeat (first | (with_reducible first | exact HB.out | apply below_alloc | apply pw_below_drewN | apply below_drew1) | exact HB.out)⟩
      · rw [if_neg c5] at H
        have c5b0 : (t104 == 0) = false := beq_eq_false_iff_ne.mpr c5
        have c5b1 : (t104 != 0) = true := bne_iff_ne.mpr c5
        obtain rfl := Option.some.inj H
        go_enter Try.func4, Try.ntmps4
        go_wp2_with (first | ((with_reducible refine gate_callee (f := 7) rfl ?_); refine goesL_ (some 6) rfl rfl Try.func7 (by kernel_rfl) rfl #[.string (⟨#[97, 60, 98, 62, 99, 38, 108, 116, 59]⟩ : ByteArray)] rfl (by (try simp only [List.map_toArray, List.map_cons, List.map_nil]); first | done | rfl | (simp only [List.length_drop, List.length_take]; rfl)) ?_; (with_reducible refine (page_Words.calls k (⟨#[97, 60, 98, 62, 99, 38, 108, 116, 59]⟩ : ByteArray) t101 t102 _ A1.out).mono ?_); rintro e w27 ⟨rfl, hb⟩; refine ⟨_, rfl, ?_⟩; have n0_ := Aside0.mk (below_step (by repeat (first | (with_reducible first | exact HB.out | apply below_alloc | apply pw_below_drewN | apply below_drew1) | exact HB.out)) hb); clear HB; have HB := n0_; clear n0_; (try clear hb); (try clear hb2); (try clear hk); (try clear hi)) | ((with_reducible refine gate_callee (f := 8) rfl ?_); refine goesL_ (some 10) rfl rfl Try.func8 (by kernel_rfl) rfl #[.string (⟨#[97, 60, 98, 62, 99]⟩ : ByteArray)] rfl (by (try simp only [List.map_toArray, List.map_cons, List.map_nil]); first | done | rfl | (simp only [List.length_drop, List.length_take]; rfl)) ?_; (with_reducible refine (page_Tags.calls k (⟨#[97, 60, 98, 62, 99]⟩ : ByteArray) t103 t104 _ A2.out).mono ?_); rintro e w28 ⟨v105, rfl, ho0, hb⟩; refine ⟨_, rfl, ?_⟩; have n0_ := Aside0.mk (Kd.R_lower ho0 (below_size (by repeat (first | (with_reducible first | exact HB.out | apply below_alloc | apply pw_below_drewN | apply below_drew1) | exact HB.out)))); have n1_ := Aside0.mk (below_step (by repeat (first | (with_reducible first | exact HB.out | apply below_alloc | apply pw_below_drewN | apply below_drew1) | exact HB.out)) hb); clear HB; have HO106 := n0_; have HB := n1_; clear n0_ n1_; (try clear hb); (try clear hb2); (try clear hk); (try clear hi); (try clear ho0)))
        go_ret
        exact ⟨by first | rfl | (simp [errW_none, errW_some] <;> rfl) | (simp [*, errW_none, errW_some] <;> rfl), by repeat (first | (with_reducible first | exact HB.out | apply below_alloc | apply pw_below_drewN | apply below_drew1) | exact HB.out)⟩
    · rw [if_neg c4] at H
      have c4b0 : (t101.toList == ([97, 99, 60] : List UInt8)) = false := beq_eq_false_iff_ne.mpr c4
      have c4b1 : (t101.toList != ([97, 99, 60] : List UInt8)) = true := bne_iff_ne.mpr c4
      obtain rfl := Option.some.inj H
      go_enter Try.func4, Try.ntmps4
      go_wp2_with (first | ((with_reducible refine gate_callee (f := 7) rfl ?_); refine goesL_ (some 6) rfl rfl Try.func7 (by kernel_rfl) rfl #[.string (⟨#[97, 60, 98, 62, 99, 38, 108, 116, 59]⟩ : ByteArray)] rfl (by (try simp only [List.map_toArray, List.map_cons, List.map_nil]); first | done | rfl | (simp only [List.length_drop, List.length_take]; rfl)) ?_; (with_reducible refine (page_Words.calls k (⟨#[97, 60, 98, 62, 99, 38, 108, 116, 59]⟩ : ByteArray) t101 t102 _ A1.out).mono ?_); rintro e w29 ⟨rfl, hb⟩; refine ⟨_, rfl, ?_⟩; have n0_ := Aside0.mk (below_step (by repeat (first | (with_reducible first | exact HB.out | apply below_alloc | apply pw_below_drewN | apply below_drew1) | exact HB.out)) hb); clear HB; have HB := n0_; clear n0_; (try clear hb); (try clear hb2); (try clear hk); (try clear hi)) | ((with_reducible refine gate_callee (f := 8) rfl ?_); refine goesL_ (some 10) rfl rfl Try.func8 (by kernel_rfl) rfl #[.string (⟨#[97, 60, 98, 62, 99]⟩ : ByteArray)] rfl (by (try simp only [List.map_toArray, List.map_cons, List.map_nil]); first | done | rfl | (simp only [List.length_drop, List.length_take]; rfl)) ?_; (with_reducible refine (page_Tags.calls k (⟨#[97, 60, 98, 62, 99]⟩ : ByteArray) t103 t104 _ A2.out).mono ?_); rintro e w30 ⟨v105, rfl, ho0, hb⟩; refine ⟨_, rfl, ?_⟩; have n0_ := Aside0.mk (Kd.R_lower ho0 (below_size (by repeat (first | (with_reducible first | exact HB.out | apply below_alloc | apply pw_below_drewN | apply below_drew1) | exact HB.out)))); have n1_ := Aside0.mk (below_step (by repeat (first | (with_reducible first | exact HB.out | apply below_alloc | apply pw_below_drewN | apply below_drew1) | exact HB.out)) hb); clear HB; have HO106 := n0_; have HB := n1_; clear n0_ n1_; (try clear hb); (try clear hb2); (try clear hk); (try clear hi); (try clear ho0)))
      go_ret
      exact ⟨by first | rfl | (simp [errW_none, errW_some] <;> rfl) | (simp [*, errW_none, errW_some] <;> rfl), by repeat (first | (with_reducible first | exact HB.out | apply below_alloc | apply pw_below_drewN | apply below_drew1) | exact HB.out)⟩
  · rw [if_neg c3] at H
    have c3b0 : (t102 == 0) = false := beq_eq_false_iff_ne.mpr c3
    have c3b1 : (t102 != 0) = true := bne_iff_ne.mpr c3
    obtain rfl := Option.some.inj H
    go_enter Try.func4, Try.ntmps4
    go_wp2_with (first | ((with_reducible refine gate_callee (f := 7) rfl ?_); refine goesL_ (some 6) rfl rfl Try.func7 (by kernel_rfl) rfl #[.string (⟨#[97, 60, 98, 62, 99, 38, 108, 116, 59]⟩ : ByteArray)] rfl (by (try simp only [List.map_toArray, List.map_cons, List.map_nil]); first | done | rfl | (simp only [List.length_drop, List.length_take]; rfl)) ?_; (with_reducible refine (page_Words.calls k (⟨#[97, 60, 98, 62, 99, 38, 108, 116, 59]⟩ : ByteArray) t101 t102 _ A1.out).mono ?_); rintro e w31 ⟨rfl, hb⟩; refine ⟨_, rfl, ?_⟩; have n0_ := Aside0.mk (below_step (by repeat (first | (with_reducible first | exact HB.out | apply below_alloc | apply pw_below_drewN | apply below_drew1) | exact HB.out)) hb); clear HB; have HB := n0_; clear n0_; (try clear hb); (try clear hb2); (try clear hk); (try clear hi)) | ((with_reducible refine gate_callee (f := 8) rfl ?_); refine goesL_ (some 10) rfl rfl Try.func8 (by kernel_rfl) rfl #[.string (⟨#[97, 60, 98, 62, 99]⟩ : ByteArray)] rfl (by (try simp only [List.map_toArray, List.map_cons, List.map_nil]); first | done | rfl | (simp only [List.length_drop, List.length_take]; rfl)) ?_; (with_reducible refine (page_Tags.calls k (⟨#[97, 60, 98, 62, 99]⟩ : ByteArray) t103 t104 _ A2.out).mono ?_); rintro e w32 ⟨v105, rfl, ho0, hb⟩; refine ⟨_, rfl, ?_⟩; have n0_ := Aside0.mk (Kd.R_lower ho0 (below_size (by repeat (first | (with_reducible first | exact HB.out | apply below_alloc | apply pw_below_drewN | apply below_drew1) | exact HB.out)))); have n1_ := Aside0.mk (below_step (by repeat (first | (with_reducible first | exact HB.out | apply below_alloc | apply pw_below_drewN | apply below_drew1) | exact HB.out)) hb); clear HB; have HO106 := n0_; have HB := n1_; clear n0_ n1_; (try clear hb); (try clear hb2); (try clear hk); (try clear hi); (try clear ho0)))
    go_ret
    exact ⟨by first | rfl | (simp [errW_none, errW_some] <;> rfl) | (simp [*, errW_none, errW_some] <;> rfl), by repeat (first | (with_reducible first | exact HB.out | apply below_alloc | apply pw_below_drewN | apply below_drew1) | exact HB.out)⟩

/-! ### assizelaw24_PageBeside: function 3 -/
def assizelaw24_PageBeside.f (k : Nat) (a0 : ByteArray) (a1 : ByteArray) (l2 : List ByteArray) : Option (Bool) := (assizelaw24_alive.f k).bind fun t110 => (if t110 = true then (if a0.size + a1.size ≤ 9223372036854775807 then ((page_Escape.f k (a0 ++ a1)).bind fun t111 => ((page_Escape.f k a0).bind fun t112 => ((page_Escape.f k a1).bind fun t113 => (if t112.size + t113.size ≤ 9223372036854775807 then (if t111.toList = (t112 ++ t113).toList then ((page_Page.f k a0 l2).bind fun t114 => ((some (([] : List ByteArray) : List ByteArray)).bind fun y115 => (if y115.length + l2.length < 8796093022208 then ((some (y115 ++ l2 : List ByteArray)).bind fun y118 => (if y118.length < 8796093022208 then ((page_Page.f k a0 (y118 ++ [a1])).bind fun t124 => (if (t114.size : Int) ≥ 20 then (if 0 ≤ (wrap64 ((t114.size : Int) - 20)) then (if (wrap64 ((t114.size : Int) - 20)) ≤ (t114.size : Int) then (if (t114.extract 0 ((wrap64 ((t114.size : Int) - 20)) : Int).toNat).size + 4 ≤ 9223372036854775807 then ((page_Escape.f k a1).bind fun t125 => (if ((t114.extract 0 ((wrap64 ((t114.size : Int) - 20)) : Int).toNat) ++ (⟨#[60, 108, 105, 62]⟩ : ByteArray)).size + t125.size ≤ 9223372036854775807 then (if (((t114.extract 0 ((wrap64 ((t114.size : Int) - 20)) : Int).toNat) ++ (⟨#[60, 108, 105, 62]⟩ : ByteArray)) ++ t125).size + 5 ≤ 9223372036854775807 then (if ((((t114.extract 0 ((wrap64 ((t114.size : Int) - 20)) : Int).toNat) ++ (⟨#[60, 108, 105, 62]⟩ : ByteArray)) ++ t125) ++ (⟨#[60, 47, 108, 105, 62]⟩ : ByteArray)).size + (t114.extract ((wrap64 ((t114.size : Int) - 20)) : Int).toNat t114.size).size ≤ 9223372036854775807 then (some (t124.toList == (((((t114.extract 0 ((wrap64 ((t114.size : Int) - 20)) : Int).toNat) ++ (⟨#[60, 108, 105, 62]⟩ : ByteArray)) ++ t125) ++ (⟨#[60, 47, 108, 105, 62]⟩ : ByteArray)) ++ (t114.extract ((wrap64 ((t114.size : Int) - 20)) : Int).toNat t114.size)).toList)) else (none)) else (none)) else (none))) else (none)) else (none)) else (none)) else (some false))) else (none))) else (none)))) else (some false)) else (none))))) else (none)) else (some false))
theorem assizelaw24_PageBeside.mono : ∀ a0 a1 a2 k, LeO (assizelaw24_PageBeside.f k a0 a1 a2) (assizelaw24_PageBeside.f (k + 1) a0 a1 a2) := by
  intro a0 a1 a2 k
  unfold assizelaw24_PageBeside.f
  repeat' first
      | (with_reducible exact assizelaw24_alive.mono _)
      | (with_reducible exact page_Escape.mono _ _)
      | (with_reducible exact page_Page.mono _ _ _)
      | (with_reducible exact LeO.refl _)
      | (with_reducible exact LeO.none _)
      | (with_reducible refine LeO.ite ?_ ?_)
      | (with_reducible refine LeO.bind ?_ (fun _ => ?_))
      | exact assizelaw24_alive.mono _
      | exact page_Escape.mono _ _
      | exact page_Page.mono _ _ _
      | exact LeO.none _
      | refine LeO.ite ?_ ?_
      | refine LeO.bind ?_ (fun _ => ?_)
def assizelaw24_PageBeside.T7 : Bool × List (List Nat × List Nat) := (true, [([], []), ([0], [0]), ([1], [1]), ([2], [2]), ([3], [3]), ([3], [3]), ([3], [3]), ([6, 3], [3, 6]), ([7, 3], [3, 7]), ([5, 8, 3], [3, 5, 8]), ([9, 3], [3, 9]), ([3], [3]), ([11, 3, 3], [3, 11]), ([10, 12, 3], [3, 10, 12]), ([13, 3], [3, 13]), ([3], [3]), ([3], [3]), ([16, 3], [3, 16]), ([17, 3], [3, 17]), ([15, 18, 3], [3, 15, 18]), ([14, 19, 3], [3, 14, 19]), ([4, 20, 3], [3, 4, 20]), ([3, 21], [3, 21]), ([22, 12, 0, 1, 2, 3, 4, 5, 6, 7, 8, 9, 10, 11, 12, 13, 14, 15, 16, 17, 18, 19, 20, 21, 22], [22])])
def assizelaw24_PageBeside.B7 : List Nat := [0, 1, 3, 7, 15, 15, 15, 79, 207, 495, 1007, 15, 2063, 8175, 16367, 15, 15, 65551, 196623, 491535, 1048559, 2097151, 4194303, 8388607]
theorem assizelaw24_PageBeside.tab7 : rtab .any (opsOf Try.f3 7) = assizelaw24_PageBeside.T7 := by kernel_rfl
theorem assizelaw24_PageBeside.bits7 : waitsOk assizelaw24_PageBeside.T7.2 assizelaw24_PageBeside.B7 = true := by kernel_rfl
set_option maxHeartbeats 8000000 in
set_option maxRecDepth 100000 in
theorem assizelaw24_PageBeside.calls (k : Nat) (a0 : ByteArray) (a1 : ByteArray) (A2 : Option Addr) (c2 : Nat) (l2 : List ByteArray) (r : Bool) (w : World) (hr2 : Kd.C Kd.string w A2 l2.length l2) (hc2 : l2.length ≤ c2) (h : assizelaw24_PageBeside.f k a0 a1 l2 = some r) :
    Calls Try.prog 3 #[.string a0, .string a1, .slice A2 l2.length c2] w fun e w' => e = .returned (.bool r) ∧ Below w.heap.size w w' := by
  have HR2 := Aside0.mk hr2
  have HC2 := Aside0.mk hc2
  clear hr2 hc2
  have HB := Aside0.mk (Below.refl w.heap.size w)
  have H : ((assizelaw24_alive.f k).bind fun t110 => (if t110 = true then (if a0.size + a1.size ≤ 9223372036854775807 then ((page_Escape.f k (a0 ++ a1)).bind fun t111 => ((page_Escape.f k a0).bind fun t112 => ((page_Escape.f k a1).bind fun t113 => (if t112.size + t113.size ≤ 9223372036854775807 then (if t111.toList = (t112 ++ t113).toList then ((page_Page.f k a0 l2).bind fun t114 => ((some (([] : List ByteArray) : List ByteArray)).bind fun y115 => (if y115.length + l2.length < 8796093022208 then ((some (y115 ++ l2 : List ByteArray)).bind fun y118 => (if y118.length < 8796093022208 then ((page_Page.f k a0 (y118 ++ [a1])).bind fun t124 => (if (t114.size : Int) ≥ 20 then (if 0 ≤ (wrap64 ((t114.size : Int) - 20)) then (if (wrap64 ((t114.size : Int) - 20)) ≤ (t114.size : Int) then (if (t114.extract 0 ((wrap64 ((t114.size : Int) - 20)) : Int).toNat).size + 4 ≤ 9223372036854775807 then ((page_Escape.f k a1).bind fun t125 => (if ((t114.extract 0 ((wrap64 ((t114.size : Int) - 20)) : Int).toNat) ++ (⟨#[60, 108, 105, 62]⟩ : ByteArray)).size + t125.size ≤ 9223372036854775807 then (if (((t114.extract 0 ((wrap64 ((t114.size : Int) - 20)) : Int).toNat) ++ (⟨#[60, 108, 105, 62]⟩ : ByteArray)) ++ t125).size + 5 ≤ 9223372036854775807 then (if ((((t114.extract 0 ((wrap64 ((t114.size : Int) - 20)) : Int).toNat) ++ (⟨#[60, 108, 105, 62]⟩ : ByteArray)) ++ t125) ++ (⟨#[60, 47, 108, 105, 62]⟩ : ByteArray)).size + (t114.extract ((wrap64 ((t114.size : Int) - 20)) : Int).toNat t114.size).size ≤ 9223372036854775807 then (some (t124.toList == (((((t114.extract 0 ((wrap64 ((t114.size : Int) - 20)) : Int).toNat) ++ (⟨#[60, 108, 105, 62]⟩ : ByteArray)) ++ t125) ++ (⟨#[60, 47, 108, 105, 62]⟩ : ByteArray)) ++ (t114.extract ((wrap64 ((t114.size : Int) - 20)) : Int).toNat t114.size)).toList)) else (none)) else (none)) else (none))) else (none)) else (none)) else (none)) else (some false))) else (none))) else (none)))) else (some false)) else (none))))) else (none)) else (some false))) = some r := h
  clear h
  replace H := Option.bind_eq_some_iff.mp H
  obtain ⟨t110, A40, H⟩ := H
  replace H : (if t110 = true then (if a0.size + a1.size ≤ 9223372036854775807 then ((page_Escape.f k (a0 ++ a1)).bind fun t111 => ((page_Escape.f k a0).bind fun t112 => ((page_Escape.f k a1).bind fun t113 => (if t112.size + t113.size ≤ 9223372036854775807 then (if t111.toList = (t112 ++ t113).toList then ((page_Page.f k a0 l2).bind fun t114 => ((some (([] : List ByteArray) : List ByteArray)).bind fun y115 => (if y115.length + l2.length < 8796093022208 then ((some (y115 ++ l2 : List ByteArray)).bind fun y118 => (if y118.length < 8796093022208 then ((page_Page.f k a0 (y118 ++ [a1])).bind fun t124 => (if (t114.size : Int) ≥ 20 then (if 0 ≤ (wrap64 ((t114.size : Int) - 20)) then (if (wrap64 ((t114.size : Int) - 20)) ≤ (t114.size : Int) then (if (t114.extract 0 ((wrap64 ((t114.size : Int) - 20)) : Int).toNat).size + 4 ≤ 9223372036854775807 then ((page_Escape.f k a1).bind fun t125 => (if ((t114.extract 0 ((wrap64 ((t114.size : Int) - 20)) : Int).toNat) ++ (⟨#[60, 108, 105, 62]⟩ : ByteArray)).size + t125.size ≤ 9223372036854775807 then (if (((t114.extract 0 ((wrap64 ((t114.size : Int) - 20)) : Int).toNat) ++ (⟨#[60, 108, 105, 62]⟩ : ByteArray)) ++ t125).size + 5 ≤ 9223372036854775807 then (if ((((t114.extract 0 ((wrap64 ((t114.size : Int) - 20)) : Int).toNat) ++ (⟨#[60, 108, 105, 62]⟩ : ByteArray)) ++ t125) ++ (⟨#[60, 47, 108, 105, 62]⟩ : ByteArray)).size + (t114.extract ((wrap64 ((t114.size : Int) - 20)) : Int).toNat t114.size).size ≤ 9223372036854775807 then (some (t124.toList == (((((t114.extract 0 ((wrap64 ((t114.size : Int) - 20)) : Int).toNat) ++ (⟨#[60, 108, 105, 62]⟩ : ByteArray)) ++ t125) ++ (⟨#[60, 47, 108, 105, 62]⟩ : ByteArray)) ++ (t114.extract ((wrap64 ((t114.size : Int) - 20)) : Int).toNat t114.size)).toList)) else (none)) else (none)) else (none))) else (none)) else (none)) else (none)) else (some false))) else (none))) else (none)))) else (some false)) else (none))))) else (none)) else (some false)) = some r := H
  have A4 := Aside0.mk A40
  clear A40
  by_cases c5 : t110 = true
  · subst c5
    have H1 : (if a0.size + a1.size ≤ 9223372036854775807 then ((page_Escape.f k (a0 ++ a1)).bind fun t111 => ((page_Escape.f k a0).bind fun t112 => ((page_Escape.f k a1).bind fun t113 => (if t112.size + t113.size ≤ 9223372036854775807 then (if t111.toList = (t112 ++ t113).toList then ((page_Page.f k a0 l2).bind fun t114 => ((some (([] : List ByteArray) : List ByteArray)).bind fun y115 => (if y115.length + l2.length < 8796093022208 then ((some (y115 ++ l2 : List ByteArray)).bind fun y118 => (if y118.length < 8796093022208 then ((page_Page.f k a0 (y118 ++ [a1])).bind fun t124 => (if (t114.size : Int) ≥ 20 then (if 0 ≤ (wrap64 ((t114.size : Int) - 20)) then (if (wrap64 ((t114.size : Int) - 20)) ≤ (t114.size : Int) then (if (t114.extract 0 ((wrap64 ((t114.size : Int) - 20)) : Int).toNat).size + 4 ≤ 9223372036854775807 then ((page_Escape.f k a1).bind fun t125 => (if ((t114.extract 0 ((wrap64 ((t114.size : Int) - 20)) : Int).toNat) ++ (⟨#[60, 108, 105, 62]⟩ : ByteArray)).size + t125.size ≤ 9223372036854775807 then (if (((t114.extract 0 ((wrap64 ((t114.size : Int) - 20)) : Int).toNat) ++ (⟨#[60, 108, 105, 62]⟩ : ByteArray)) ++ t125).size + 5 ≤ 9223372036854775807 then (if ((((t114.extract 0 ((wrap64 ((t114.size : Int) - 20)) : Int).toNat) ++ (⟨#[60, 108, 105, 62]⟩ : ByteArray)) ++ t125) ++ (⟨#[60, 47, 108, 105, 62]⟩ : ByteArray)).size + (t114.extract ((wrap64 ((t114.size : Int) - 20)) : Int).toNat t114.size).size ≤ 9223372036854775807 then (some (t124.toList == (((((t114.extract 0 ((wrap64 ((t114.size : Int) - 20)) : Int).toNat) ++ (⟨#[60, 108, 105, 62]⟩ : ByteArray)) ++ t125) ++ (⟨#[60, 47, 108, 105, 62]⟩ : ByteArray)) ++ (t114.extract ((wrap64 ((t114.size : Int) - 20)) : Int).toNat t114.size)).toList)) else (none)) else (none)) else (none))) else (none)) else (none)) else (none)) else (some false))) else (none))) else (none)))) else (some false)) else (none))))) else (none)) = some r := by rw [if_pos rfl] at H; exact H
    clear H
    have H := H1
    clear H1
    by_cases c6 : a0.size + a1.size ≤ 9223372036854775807
    · rw [if_pos c6] at H
      have c6b0 := eq_true c6
      have c6b1 : decide (a0.size + a1.size ≤ 9223372036854775807) = true := decide_eq_true c6
      try have c6b2 : (9223372036854775807 < a0.size + a1.size) = False := eq_false (Nat.not_lt.2 c6)
      replace H := Option.bind_eq_some_iff.mp H
      obtain ⟨t111, A70, H⟩ := H
      replace H : ((page_Escape.f k a0).bind fun t112 => ((page_Escape.f k a1).bind fun t113 => (if t112.size + t113.size ≤ 9223372036854775807 then (if t111.toList = (t112 ++ t113).toList then ((page_Page.f k a0 l2).bind fun t114 => ((some (([] : List ByteArray) : List ByteArray)).bind fun y115 => (if y115.length + l2.length < 8796093022208 then ((some (y115 ++ l2 : List ByteArray)).bind fun y118 => (if y118.length < 8796093022208 then ((page_Page.f k a0 (y118 ++ [a1])).bind fun t124 => (if (t114.size : Int) ≥ 20 then (if 0 ≤ (wrap64 ((t114.size : Int) - 20)) then (if (wrap64 ((t114.size : Int) - 20)) ≤ (t114.size : Int) then (if (t114.extract 0 ((wrap64 ((t114.size : Int) - 20)) : Int).toNat).size + 4 ≤ 9223372036854775807 then ((page_Escape.f k a1).bind fun t125 => (if ((t114.extract 0 ((wrap64 ((t114.size : Int) - 20)) : Int).toNat) ++ (⟨#[60, 108, 105, 62]⟩ : ByteArray)).size + t125.size ≤ 9223372036854775807 then (if (((t114.extract 0 ((wrap64 ((t114.size : Int) - 20)) : Int).toNat) ++ (⟨#[60, 108, 105, 62]⟩ : ByteArray)) ++ t125).size + 5 ≤ 9223372036854775807 then (if ((((t114.extract 0 ((wrap64 ((t114.size : Int) - 20)) : Int).toNat) ++ (⟨#[60, 108, 105, 62]⟩ : ByteArray)) ++ t125) ++ (⟨#[60, 47, 108, 105, 62]⟩ : ByteArray)).size + (t114.extract ((wrap64 ((t114.size : Int) - 20)) : Int).toNat t114.size).size ≤ 9223372036854775807 then (some (t124.toList == (((((t114.extract 0 ((wrap64 ((t114.size : Int) - 20)) : Int).toNat) ++ (⟨#[60, 108, 105, 62]⟩ : ByteArray)) ++ t125) ++ (⟨#[60, 47, 108, 105, 62]⟩ : ByteArray)) ++ (t114.extract ((wrap64 ((t114.size : Int) - 20)) : Int).toNat t114.size)).toList)) else (none)) else (none)) else (none))) else (none)) else (none)) else (none)) else (some false))) else (none))) else (none)))) else (some false)) else (none)))) = some r := H
      have A7 := Aside0.mk A70
      clear A70
      replace H := Option.bind_eq_some_iff.mp H
      obtain ⟨t112, A80, H⟩ := H
      replace H : ((page_Escape.f k a1).bind fun t113 => (if t112.size + t113.size ≤ 9223372036854775807 then (if t111.toList = (t112 ++ t113).toList then ((page_Page.f k a0 l2).bind fun t114 => ((some (([] : List ByteArray) : List ByteArray)).bind fun y115 => (if y115.length + l2.length < 8796093022208 then ((some (y115 ++ l2 : List ByteArray)).bind fun y118 => (if y118.length < 8796093022208 then ((page_Page.f k a0 (y118 ++ [a1])).bind fun t124 => (if (t114.size : Int) ≥ 20 then (if 0 ≤ (wrap64 ((t114.size : Int) - 20)) then (if (wrap64 ((t114.size : Int) - 20)) ≤ (t114.size : Int) then (if (t114.extract 0 ((wrap64 ((t114.size : Int) - 20)) : Int).toNat).size + 4 ≤ 9223372036854775807 then ((page_Escape.f k a1).bind fun t125 => (if ((t114.extract 0 ((wrap64 ((t114.size : Int) - 20)) : Int).toNat) ++ (⟨#[60, 108, 105, 62]⟩ : ByteArray)).size + t125.size ≤ 9223372036854775807 then (if (((t114.extract 0 ((wrap64 ((t114.size : Int) - 20)) : Int).toNat) ++ (⟨#[60, 108, 105, 62]⟩ : ByteArray)) ++ t125).size + 5 ≤ 9223372036854775807 then (if ((((t114.extract 0 ((wrap64 ((t114.size : Int) - 20)) : Int).toNat) ++ (⟨#[60, 108, 105, 62]⟩ : ByteArray)) ++ t125) ++ (⟨#[60, 47, 108, 105, 62]⟩ : ByteArray)).size + (t114.extract ((wrap64 ((t114.size : Int) - 20)) : Int).toNat t114.size).size ≤ 9223372036854775807 then (some (t124.toList == (((((t114.extract 0 ((wrap64 ((t114.size : Int) - 20)) : Int).toNat) ++ (⟨#[60, 108, 105, 62]⟩ : ByteArray)) ++ t125) ++ (⟨#[60, 47, 108, 105, 62]⟩ : ByteArray)) ++ (t114.extract ((wrap64 ((t114.size : Int) - 20)) : Int).toNat t114.size)).toList)) else (none)) else (none)) else (none))) else (none)) else (none)) else (none)) else (some false))) else (none))) else (none)))) else (some false)) else (none))) = some r := H
      have A8 := Aside0.mk A80
      clear A80
      replace H := Option.bind_eq_some_iff.mp H
      obtain ⟨t113, A90, H⟩ := H
      replace H : (if t112.size + t113.size ≤ 9223372036854775807 then (if t111.toList = (t112 ++ t113).toList then ((page_Page.f k a0 l2).bind fun t114 => ((some (([] : List ByteArray) : List ByteArray)).bind fun y115 => (if y115.length + l2.length < 8796093022208 then ((some (y115 ++ l2 : List ByteArray)).bind fun y118 => (if y118.length < 8796093022208 then ((page_Page.f k a0 (y118 ++ [a1])).bind fun t124 => (if (t114.size : Int) ≥ 20 then (if 0 ≤ (wrap64 ((t114.size : Int) - 20)) then (if (wrap64 ((t114.size : Int) - 20)) ≤ (t114.size : Int) then (if (t114.extract 0 ((wrap64 ((t114.size : Int) - 20)) : Int).toNat).size + 4 ≤ 9223372036854775807 then ((page_Escape.f k a1).bind fun t125 => (if ((t114.extract 0 ((wrap64 ((t114.size : Int) - 20)) : Int).toNat) ++ (⟨#[60, 108, 105, 62]⟩ : ByteArray)).size + t125.size ≤ 9223372036854775807 then (if (((t114.extract 0 ((wrap64 ((t114.size : Int) - 20)) : Int).toNat) ++ (⟨#[60, 108, 105, 62]⟩ : ByteArray)) ++ t125).size + 5 ≤ 9223372036854775807 then (if ((((t114.extract 0 ((wrap64 ((t114.size : Int) - 20)) : Int).toNat) ++ (⟨#[60, 108, 105, 62]⟩ : ByteArray)) ++ t125) ++ (⟨#[60, 47, 108, 105, 62]⟩ : ByteArray)).size + (t114.extract ((wrap64 ((t114.size : Int) - 20)) : Int).toNat t114.size).size ≤ 9223372036854775807 then (some (t124.toList == (((((t114.extract 0 ((wrap64 ((t114.size : Int) - 20)) : Int).toNat) ++ (⟨#[60, 108, 105, 62]⟩ : ByteArray)) ++ t125) ++ (⟨#[60, 47, 108, 105, 62]⟩ : ByteArray)) ++ (t114.extract ((wrap64 ((t114.size : Int) - 20)) : Int).toNat t114.size)).toList)) else (none)) else (none)) else (none))) else (none)) else (none)) else (none)) else (some false))) else (none))) else (none)))) else (some false)) else (none)) = some r := H
      have A9 := Aside0.mk A90
      clear A90
      by_cases c10 : t112.size + t113.size ≤ 9223372036854775807
      · rw [if_pos c10] at H
        have c10b0 := eq_true c10
        have c10b1 : decide (t112.size + t113.size ≤ 9223372036854775807) = true := decide_eq_true c10
        try have c10b2 : (9223372036854775807 < t112.size + t113.size) = False := eq_false (Nat.not_lt.2 c10)
        by_cases c11 : t111.toList = (t112 ++ t113).toList
        · rw [if_pos c11] at H
          have c11b0 : (t111.toList == (t112 ++ t113).toList) = true := beq_iff_eq.mpr c11
          have c11b1 : (t111.toList != (t112 ++ t113).toList) = false := bne_eq_false_iff_eq.mpr c11
          clear c11
          replace H := Option.bind_eq_some_iff.mp H
          obtain ⟨t114, A120, H⟩ := H
          replace H : ((some (([] : List ByteArray) : List ByteArray)).bind fun y115 => (if y115.length + l2.length < 8796093022208 then ((some (y115 ++ l2 : List ByteArray)).bind fun y118 => (if y118.length < 8796093022208 then ((page_Page.f k a0 (y118 ++ [a1])).bind fun t124 => (if (t114.size : Int) ≥ 20 then (if 0 ≤ (wrap64 ((t114.size : Int) - 20)) then (if (wrap64 ((t114.size : Int) - 20)) ≤ (t114.size : Int) then (if (t114.extract 0 ((wrap64 ((t114.size : Int) - 20)) : Int).toNat).size + 4 ≤ 9223372036854775807 then ((page_Escape.f k a1).bind fun t125 => (if ((t114.extract 0 ((wrap64 ((t114.size : Int) - 20)) : Int).toNat) ++ (⟨#[60, 108, 105, 62]⟩ : ByteArray)).size + t125.size ≤ 9223372036854775807 then (if (((t114.extract 0 ((wrap64 ((t114.size : Int) - 20)) : Int).toNat) ++ (⟨#[60, 108, 105, 62]⟩ : ByteArray)) ++ t125).size + 5 ≤ 9223372036854775807 then (if ((((t114.extract 0 ((wrap64 ((t114.size : Int) - 20)) : Int).toNat) ++ (⟨#[60, 108, 105, 62]⟩ : ByteArray)) ++ t125) ++ (⟨#[60, 47, 108, 105, 62]⟩ : ByteArray)).size + (t114.extract ((wrap64 ((t114.size : Int) - 20)) : Int).toNat t114.size).size ≤ 9223372036854775807 then (some (t124.toList == (((((t114.extract 0 ((wrap64 ((t114.size : Int) - 20)) : Int).toNat) ++ (⟨#[60, 108, 105, 62]⟩ : ByteArray)) ++ t125) ++ (⟨#[60, 47, 108, 105, 62]⟩ : ByteArray)) ++ (t114.extract ((wrap64 ((t114.size : Int) - 20)) : Int).toNat t114.size)).toList)) else (none)) else (none)) else (none))) else (none)) else (none)) else (none)) else (some false))) else (none))) else (none))) = some r := H
          have A12 := Aside0.mk A120
          clear A120
          obtain ⟨y115, hy115⟩ : ∃ y_ : List ByteArray, y_ = (([] : List ByteArray)) := ⟨_, rfl⟩
          replace H : (if y115.length + l2.length < 8796093022208 then ((some (y115 ++ l2 : List ByteArray)).bind fun y118 => (if y118.length < 8796093022208 then ((page_Page.f k a0 (y118 ++ [a1])).bind fun t124 => (if (t114.size : Int) ≥ 20 then (if 0 ≤ (wrap64 ((t114.size : Int) - 20)) then (if (wrap64 ((t114.size : Int) - 20)) ≤ (t114.size : Int) then (if (t114.extract 0 ((wrap64 ((t114.size : Int) - 20)) : Int).toNat).size + 4 ≤ 9223372036854775807 then ((page_Escape.f k a1).bind fun t125 => (if ((t114.extract 0 ((wrap64 ((t114.size : Int) - 20)) : Int).toNat) ++ (⟨#[60, 108, 105, 62]⟩ : ByteArray)).size + t125.size ≤ 9223372036854775807 then (if (((t114.extract 0 ((wrap64 ((t114.size : Int) - 20)) : Int).toNat) ++ (⟨#[60, 108, 105, 62]⟩ : ByteArray)) ++ t125).size + 5 ≤ 9223372036854775807 then (if ((((t114.extract 0 ((wrap64 ((t114.size : Int) - 20)) : Int).toNat) ++ (⟨#[60, 108, 105, 62]⟩ : ByteArray)) ++ t125) ++ (⟨#[60, 47, 108, 105, 62]⟩ : ByteArray)).size + (t114.extract ((wrap64 ((t114.size : Int) - 20)) : Int).toNat t114.size).size ≤ 9223372036854775807 then (some (t124.toList == (((((t114.extract 0 ((wrap64 ((t114.size : Int) - 20)) : Int).toNat) ++ (⟨#[60, 108, 105, 62]⟩ : ByteArray)) ++ t125) ++ (⟨#[60, 47, 108, 105, 62]⟩ : ByteArray)) ++ (t114.extract ((wrap64 ((t114.size : Int) - 20)) : Int).toNat t114.size)).toList)) else (none)) else (none)) else (none))) else (none)) else (none)) else (none)) else (some false))) else (none))) else (none)) = some r := by first | (rw [hy115]; with_reducible exact H) | (have H2_ := (Option.bind_some _ _).symm.trans H; rw [hy115]; with_reducible exact H2_) | (have H2_ := (Option.bind_some _ _).symm.trans H; with_reducible exact H2_) | with_reducible exact H | (rw [hy115]; exact H) | exact H
          have Ny115 := Aside0.mk hy115
          clear hy115
          by_cases c13 : y115.length + l2.length < 8796093022208
          · rw [if_pos c13] at H
            have LMc13 := Aside0.mk c13
            clear c13
            obtain ⟨y118, hy118⟩ : ∃ y_ : List ByteArray, y_ = (y115 ++ l2) := ⟨_, rfl⟩
            replace H : (if y118.length < 8796093022208 then ((page_Page.f k a0 (y118 ++ [a1])).bind fun t124 => (if (t114.size : Int) ≥ 20 then (if 0 ≤ (wrap64 ((t114.size : Int) - 20)) then (if (wrap64 ((t114.size : Int) - 20)) ≤ (t114.size : Int) then (if (t114.extract 0 ((wrap64 ((t114.size : Int) - 20)) : Int).toNat).size + 4 ≤ 9223372036854775807 then ((page_Escape.f k a1).bind fun t125 => (if ((t114.extract 0 ((wrap64 ((t114.size : Int) - 20)) : Int).toNat) ++ (⟨#[60, 108, 105, 62]⟩ : ByteArray)).size + t125.size ≤ 9223372036854775807 then (if (((t114.extract 0 ((wrap64 ((t114.size : Int) - 20)) : Int).toNat) ++ (⟨#[60, 108, 105, 62]⟩ : ByteArray)) ++ t125).size + 5 ≤ 9223372036854775807 then (if ((((t114.extract 0 ((wrap64 ((t114.size : Int) - 20)) : Int).toNat) ++ (⟨#[60, 108, 105, 62]⟩ : ByteArray)) ++ t125) ++ (⟨#[60, 47, 108, 105, 62]⟩ : ByteArray)).size + (t114.extract ((wrap64 ((t114.size : Int) - 20)) : Int).toNat t114.size).size ≤ 9223372036854775807 then (some (t124.toList == (((((t114.extract 0 ((wrap64 ((t114.size : Int) - 20)) : Int).toNat) ++ (⟨#[60, 108, 105, 62]⟩ : ByteArray)) ++ t125) ++ (⟨#[60, 47, 108, 105, 62]⟩ : ByteArray)) ++ (t114.extract ((wrap64 ((t114.size : Int) - 20)) : Int).toNat t114.size)).toList)) else (none)) else (none)) else (none))) else (none)) else (none)) else (none)) else (some false))) else (none)) = some r := by first | (rw [hy118]; with_reducible exact H) | (have H2_ := (Option.bind_some _ _).symm.trans H; rw [hy118]; with_reducible exact H2_) | (have H2_ := (Option.bind_some _ _).symm.trans H; with_reducible exact H2_) | with_reducible exact H | (rw [hy118]; exact H) | exact H
            have Ny118 := Aside0.mk hy118
            clear hy118
            by_cases c14 : y118.length < 8796093022208
            · rw [if_pos c14] at H
              have LMc14 := Aside0.mk c14
              clear c14
              obtain ⟨y121, hy121⟩ : ∃ y_ : List ByteArray, y_ = (y118 ++ [a1]) := ⟨_, rfl⟩
              replace H : ((page_Page.f k a0 y121).bind fun t124 => (if (t114.size : Int) ≥ 20 then (if 0 ≤ (wrap64 ((t114.size : Int) - 20)) then (if (wrap64 ((t114.size : Int) - 20)) ≤ (t114.size : Int) then (if (t114.extract 0 ((wrap64 ((t114.size : Int) - 20)) : Int).toNat).size + 4 ≤ 9223372036854775807 then ((page_Escape.f k a1).bind fun t125 => (if ((t114.extract 0 ((wrap64 ((t114.size : Int) - 20)) : Int).toNat) ++ (⟨#[60, 108, 105, 62]⟩ : ByteArray)).size + t125.size ≤ 9223372036854775807 then (if (((t114.extract 0 ((wrap64 ((t114.size : Int) - 20)) : Int).toNat) ++ (⟨#[60, 108, 105, 62]⟩ : ByteArray)) ++ t125).size + 5 ≤ 9223372036854775807 then (if ((((t114.extract 0 ((wrap64 ((t114.size : Int) - 20)) : Int).toNat) ++ (⟨#[60, 108, 105, 62]⟩ : ByteArray)) ++ t125) ++ (⟨#[60, 47, 108, 105, 62]⟩ : ByteArray)).size + (t114.extract ((wrap64 ((t114.size : Int) - 20)) : Int).toNat t114.size).size ≤ 9223372036854775807 then (some (t124.toList == (((((t114.extract 0 ((wrap64 ((t114.size : Int) - 20)) : Int).toNat) ++ (⟨#[60, 108, 105, 62]⟩ : ByteArray)) ++ t125) ++ (⟨#[60, 47, 108, 105, 62]⟩ : ByteArray)) ++ (t114.extract ((wrap64 ((t114.size : Int) - 20)) : Int).toNat t114.size)).toList)) else (none)) else (none)) else (none))) else (none)) else (none)) else (none)) else (some false))) = some r := by first | (rw [hy121]; with_reducible exact H) | (have H2_ := (Option.bind_some _ _).symm.trans H; rw [hy121]; with_reducible exact H2_) | (have H2_ := (Option.bind_some _ _).symm.trans H; with_reducible exact H2_) | with_reducible exact H | (rw [hy121]; exact H) | exact H
              have Ny121 := Aside0.mk hy121
              clear hy121
              replace H := Option.bind_eq_some_iff.mp H
              obtain ⟨t124, A150, H⟩ := H
              replace H : (if (t114.size : Int) ≥ 20 then (if 0 ≤ (wrap64 ((t114.size : Int) - 20)) then (if (wrap64 ((t114.size : Int) - 20)) ≤ (t114.size : Int) then (if (t114.extract 0 ((wrap64 ((t114.size : Int) - 20)) : Int).toNat).size + 4 ≤ 9223372036854775807 then ((page_Escape.f k a1).bind fun t125 => (if ((t114.extract 0 ((wrap64 ((t114.size : Int) - 20)) : Int).toNat) ++ (⟨#[60, 108, 105, 62]⟩ : ByteArray)).size + t125.size ≤ 9223372036854775807 then (if (((t114.extract 0 ((wrap64 ((t114.size : Int) - 20)) : Int).toNat) ++ (⟨#[60, 108, 105, 62]⟩ : ByteArray)) ++ t125).size + 5 ≤ 9223372036854775807 then (if ((((t114.extract 0 ((wrap64 ((t114.size : Int) - 20)) : Int).toNat) ++ (⟨#[60, 108, 105, 62]⟩ : ByteArray)) ++ t125) ++ (⟨#[60, 47, 108, 105, 62]⟩ : ByteArray)).size + (t114.extract ((wrap64 ((t114.size : Int) - 20)) : Int).toNat t114.size).size ≤ 9223372036854775807 then (some (t124.toList == (((((t114.extract 0 ((wrap64 ((t114.size : Int) - 20)) : Int).toNat) ++ (⟨#[60, 108, 105, 62]⟩ : ByteArray)) ++ t125) ++ (⟨#[60, 47, 108, 105, 62]⟩ : ByteArray)) ++ (t114.extract ((wrap64 ((t114.size : Int) - 20)) : Int).toNat t114.size)).toList)) else (none)) else (none)) else (none))) else (none)) else (none)) else (none)) else (some false)) = some r := H
              have A15 := Aside0.mk A150
              clear A150
              by_cases c16 : (t114.size : Int) ≥ 20
              · rw [if_pos c16] at H
                have c16b0 : decide (20 ≤ (t114.size : Int)) = true := decide_eq_true c16
                have c16b1 : decide (20 ≤ t114.size) = true := decide_eq_true (by omega)
                clear c16
                obtain ⟨ji17, hji17⟩ : ∃ j_ : Int, (wrap64 ((t114.size : Int) - 20)) = j_ := ⟨_, rfl⟩
                replace H : (if 0 ≤ (ji17) then (if (ji17) ≤ (t114.size : Int) then (if (t114.extract 0 ((ji17) : Int).toNat).size + 4 ≤ 9223372036854775807 then ((page_Escape.f k a1).bind fun t125 => (if ((t114.extract 0 ((ji17) : Int).toNat) ++ (⟨#[60, 108, 105, 62]⟩ : ByteArray)).size + t125.size ≤ 9223372036854775807 then (if (((t114.extract 0 ((ji17) : Int).toNat) ++ (⟨#[60, 108, 105, 62]⟩ : ByteArray)) ++ t125).size + 5 ≤ 9223372036854775807 then (if ((((t114.extract 0 ((ji17) : Int).toNat) ++ (⟨#[60, 108, 105, 62]⟩ : ByteArray)) ++ t125) ++ (⟨#[60, 47, 108, 105, 62]⟩ : ByteArray)).size + (t114.extract ((ji17) : Int).toNat t114.size).size ≤ 9223372036854775807 then (some (t124.toList == (((((t114.extract 0 ((ji17) : Int).toNat) ++ (⟨#[60, 108, 105, 62]⟩ : ByteArray)) ++ t125) ++ (⟨#[60, 47, 108, 105, 62]⟩ : ByteArray)) ++ (t114.extract ((ji17) : Int).toNat t114.size)).toList)) else (none)) else (none)) else (none))) else (none)) else (none)) else (none)) = some r := by first | (rw [hji17] at H; exact H) | (simp only [hji17] at H ⊢; exact H)
                (try rw [hji17] at A4)
                (try rw [hji17] at A7)
                (try rw [hji17] at A8)
                (try rw [hji17] at A9)
                (try rw [hji17] at A12)
                (try rw [hji17] at A15)
                have hji17w : (IntKind.i64.wrap ((t114.size : Int) - 20)) = ji17 := (i64_w _).trans hji17
                by_cases c18 : 0 ≤ (ji17)
                · rw [if_pos c18] at H
                  have c18b0 := eq_true c18
                  have c18b1 : decide (0 ≤ (ji17)) = true := decide_eq_true c18
                  clear c18
                  by_cases c19 : (ji17) ≤ (t114.size : Int)
                  · rw [if_pos c19] at H
                    have c19b0 := eq_true c19
                    have c19b1 : decide ((ji17) ≤ (t114.size : Int)) = true := decide_eq_true c19
                    clear c19
                    by_cases c20 : (t114.extract 0 ((ji17) : Int).toNat).size + 4 ≤ 9223372036854775807
                    · rw [if_pos c20] at H
                      have c20b0 := eq_true c20
                      have c20b1 : decide ((t114.extract 0 ((ji17) : Int).toNat).size + 4 ≤ 9223372036854775807) = true := decide_eq_true c20
                      try have c20b2 : (9223372036854775807 < (t114.extract 0 ((ji17) : Int).toNat).size + 4) = False := eq_false (Nat.not_lt.2 c20)
                      replace H := Option.bind_eq_some_iff.mp H
                      obtain ⟨t125, A210, H⟩ := H
                      replace H : (if ((t114.extract 0 ((ji17) : Int).toNat) ++ (⟨#[60, 108, 105, 62]⟩ : ByteArray)).size + t125.size ≤ 9223372036854775807 then (if (((t114.extract 0 ((ji17) : Int).toNat) ++ (⟨#[60, 108, 105, 62]⟩ : ByteArray)) ++ t125).size + 5 ≤ 9223372036854775807 then (if ((((t114.extract 0 ((ji17) : Int).toNat) ++ (⟨#[60, 108, 105, 62]⟩ : ByteArray)) ++ t125) ++ (⟨#[60, 47, 108, 105, 62]⟩ : ByteArray)).size + (t114.extract ((ji17) : Int).toNat t114.size).size ≤ 9223372036854775807 then (some (t124.toList == (((((t114.extract 0 ((ji17) : Int).toNat) ++ (⟨#[60, 108, 105, 62]⟩ : ByteArray)) ++ t125) ++ (⟨#[60, 47, 108, 105, 62]⟩ : ByteArray)) ++ (t114.extract ((ji17) : Int).toNat t114.size)).toList)) else (none)) else (none)) else (none)) = some r := H
                      have A21 := Aside0.mk A210
                      clear A210
                      by_cases c22 : ((t114.extract 0 ((ji17) : Int).toNat) ++ (⟨#[60, 108, 105, 62]⟩ : ByteArray)).size + t125.size ≤ 9223372036854775807
                      · rw [if_pos c22] at H
                        have c22b0 := eq_true c22
                        have c22b1 : decide (((t114.extract 0 ((ji17) : Int).toNat) ++ (⟨#[60, 108, 105, 62]⟩ : ByteArray)).size + t125.size ≤ 9223372036854775807) = true := decide_eq_true c22
                        try have c22b2 : (9223372036854775807 < ((t114.extract 0 ((ji17) : Int).toNat) ++ (⟨#[60, 108, 105, 62]⟩ : ByteArray)).size + t125.size) = False := eq_false (Nat.not_lt.2 c22)
                        by_cases c23 : (((t114.extract 0 ((ji17) : Int).toNat) ++ (⟨#[60, 108, 105, 62]⟩ : ByteArray)) ++ t125).size + 5 ≤ 9223372036854775807
                        · rw [if_pos c23] at H
                          have c23b0 := eq_true c23
                          have c23b1 : decide ((((t114.extract 0 ((ji17) : Int).toNat) ++ (⟨#[60, 108, 105, 62]⟩ : ByteArray)) ++ t125).size + 5 ≤ 9223372036854775807) = true := decide_eq_true c23
                          try have c23b2 : (9223372036854775807 < (((t114.extract 0 ((ji17) : Int).toNat) ++ (⟨#[60, 108, 105, 62]⟩ : ByteArray)) ++ t125).size + 5) = False := eq_false (Nat.not_lt.2 c23)
                          have c24b0 := eq_true (of_decide_eq_true (by first | (with_reducible assumption) | assumption) : 0 ≤ (ji17))
                          have c25b0 := eq_true (of_decide_eq_true (by first | (with_reducible assumption) | assumption) : (ji17) ≤ (t114.size : Int))
                          by_cases c26 : ((((t114.extract 0 ((ji17) : Int).toNat) ++ (⟨#[60, 108, 105, 62]⟩ : ByteArray)) ++ t125) ++ (⟨#[60, 47, 108, 105, 62]⟩ : ByteArray)).size + (t114.extract ((ji17) : Int).toNat t114.size).size ≤ 9223372036854775807
                          · rw [if_pos c26] at H
                            have c26b0 := eq_true c26
                            have c26b1 : decide (((((t114.extract 0 ((ji17) : Int).toNat) ++ (⟨#[60, 108, 105, 62]⟩ : ByteArray)) ++ t125) ++ (⟨#[60, 47, 108, 105, 62]⟩ : ByteArray)).size + (t114.extract ((ji17) : Int).toNat t114.size).size ≤ 9223372036854775807) = true := decide_eq_true c26
                            try have c26b2 : (9223372036854775807 < ((((t114.extract 0 ((ji17) : Int).toNat) ++ (⟨#[60, 108, 105, 62]⟩ : ByteArray)) ++ t125) ++ (⟨#[60, 47, 108, 105, 62]⟩ : ByteArray)).size + (t114.extract ((ji17) : Int).toNat t114.size).size) = False := eq_false (Nat.not_lt.2 c26)
                            have hj0 : ((ji17) : Int).toNat ≤ t114.size := by have h1 := of_eq_true c18b0; have h2 := of_eq_true c19b0; omega
                            have hx1 : (t114.extract 0 ((ji17) : Int).toNat).size = ((ji17) : Int).toNat := by rw [ByteArray.size_extract]; omega
                            have hx2 : (t114.extract ((ji17) : Int).toNat t114.size).size = t114.size - ((ji17) : Int).toNat := by rw [ByteArray.size_extract]; omega
                            have hl4 : (⟨#[60, 108, 105, 62]⟩ : ByteArray).size = 4 := rfl
                            have hl5 : (⟨#[60, 47, 108, 105, 62]⟩ : ByteArray).size = 5 := rfl
                            have c20b3 : (9223372036854775807 < ((ji17) : Int).toNat + 4) = False := eq_false (by have h := c20; rw [hx1] at h; omega)
                            have c22b3 : (9223372036854775807 < ((ji17) : Int).toNat + 4 + t125.size) = False := eq_false (by have h := c22; rw [ByteArray.size_append, hx1, hl4] at h; omega)
                            have c23b3 : (9223372036854775807 < ((ji17) : Int).toNat + 4 + t125.size + 5) = False := eq_false (by have h := c23; rw [ByteArray.size_append, ByteArray.size_append, hx1, hl4] at h; omega)
                            have c26b3 : (9223372036854775807 < ((ji17) : Int).toNat + 4 + t125.size + 5 + (t114.size - ((ji17) : Int).toNat)) = False := eq_false (by have h := c26; rw [ByteArray.size_append, ByteArray.size_append, ByteArray.size_append, hx1, hx2, hl4, hl5] at h; omega)
                            clear hj0 hx1 hx2 hl4 hl5
                            obtain rfl := Option.some.inj H
                            go_enter Try.func3, Try.ntmps3
                            try go_wp2_with (first | ((with_reducible refine gate_callee (f := 4) rfl ?_); refine goesL_ (some 9) rfl rfl Try.func4 (by kernel_rfl) rfl #[] rfl (by (try simp only [List.map_toArray, List.map_cons, List.map_nil]); first | done | rfl | (simp only [List.length_drop, List.length_take]; rfl)) ?_; (with_reducible refine (assizelaw24_alive.calls k  true _ A4.out).mono ?_); rintro e w27 ⟨rfl, hb⟩; refine ⟨_, rfl, ?_⟩; have n0_ := Aside0.mk (below_step (by repeat (first | (with_reducible first | exact HB.out | apply below_alloc | apply pw_below_drewN | apply below_drew1) | exact HB.out)) hb); clear HB; have HB := n0_; clear n0_; (try clear hb); (try clear hb2); (try clear hk); (try clear hi)) | ((with_reducible refine gate_callee (f := 5) rfl ?_); refine goesL_ (some 14) rfl rfl Try.func5 (by kernel_rfl) rfl #[.string (a0 ++ a1)] rfl (by (try simp only [List.map_toArray, List.map_cons, List.map_nil]); first | done | rfl | (simp only [List.length_drop, List.length_take]; rfl)) ?_; (with_reducible refine (page_Escape.calls k (a0 ++ a1) t111 _ A7.out).mono ?_); rintro e w28 ⟨rfl, hb⟩; refine ⟨_, rfl, ?_⟩; have n0_ := Aside0.mk (below_step (by repeat (first | (with_reducible first | exact HB.out | apply below_alloc | apply pw_below_drewN | apply below_drew1) | exact HB.out)) hb); clear HB; have HB := n0_; clear n0_; (try clear hb); (try clear hb2); (try clear hk); (try clear hi)) | ((with_reducible refine gate_callee (f := 5) rfl ?_); refine goesL_ (some 16) rfl rfl Try.func5 (by kernel_rfl) rfl #[.string a0] rfl (by (try simp only [List.map_toArray, List.map_cons, List.map_nil]); first | done | rfl | (simp only [List.length_drop, List.length_take]; rfl)) ?_; (with_reducible refine (page_Escape.calls k a0 t112 _ A8.out).mono ?_); rintro e w29 ⟨rfl, hb⟩; refine ⟨_, rfl, ?_⟩; have n0_ := Aside0.mk (below_step (by repeat (first | (with_reducible first | exact HB.out | apply below_alloc | apply pw_below_drewN | apply below_drew1) | exact HB.out)) hb); clear HB; have HB := n0_; clear n0_; (try clear hb); (try clear hb2); (try clear hk); (try clear hi)) | ((with_reducible refine gate_callee (f := 5) rfl ?_); refine goesL_ (some 18) rfl rfl Try.func5 (by kernel_rfl) rfl #[.string a1] rfl (by (try simp only [List.map_toArray, List.map_cons, List.map_nil]); first | done | rfl | (simp only [List.length_drop, List.length_take]; rfl)) ?_; (with_reducible refine (page_Escape.calls k a1 t113 _ A9.out).mono ?_); rintro e w30 ⟨rfl, hb⟩; refine ⟨_, rfl, ?_⟩; have n0_ := Aside0.mk (below_step (by repeat (first | (with_reducible first | exact HB.out | apply below_alloc | apply pw_below_drewN | apply below_drew1) | exact HB.out)) hb); clear HB; have HB := n0_; clear n0_; (try clear hb); (try clear hb2); (try clear hk); (try clear hi)) | ((with_reducible refine gate_callee (f := 6) rfl ?_); refine goesL_ (some 23) rfl rfl Try.func6 (by kernel_rfl) rfl #[.string a0, .slice A2 l2.length c2] rfl (by (try simp only [List.map_toArray, List.map_cons, List.map_nil]); first | done | rfl | (simp only [List.length_drop, List.length_take]; rfl)) ?_; (with_reducible refine (page_Page.calls k a0 _ _ l2 t114 _ ?side1 ?side2 A12.out).mono ?_); (case side1 => repeat (first | exact (Kd.C_below HR2.out HB.out) | (with_reducible refine Kd.C_alloc ?_ _) | (with_reducible refine Kd.C_drewN ?_ _) | (with_reducible refine Kd.C_drew ?_))); (case side2 => exact HC2.out); rintro e w31 ⟨rfl, hb⟩; refine ⟨_, rfl, ?_⟩; have n0_ := Aside0.mk (below_step (by repeat (first | (with_reducible first | exact HB.out | apply below_alloc | apply pw_below_drewN | apply below_drew1) | exact HB.out)) hb); clear HB; have HB := n0_; clear n0_; (try clear hb); (try clear hb2); (try clear hk); (try clear hi)) | ((with_reducible refine gate_dst (N := 25) rfl ?_); (try (refine gate_guard (by rfl) ?_; dsimp only)); refine Kd.R_lit Kd.string _ 9 ?hg (N := 25) ?hd (xs := ([] : List ByteArray)) (inner := []) (ok := fun _ => True) (okp := fun _ => True) ?hr ?hp (fun _ hk => hk) trivial (Below.refl _ _) (Nat.le_refl _) (by simp) ?_; (case hd => rfl); (case hg => rfl); (case hr => first | (go_simp; done) | (go_simp; rfl)); (case hp => exact (Reps.none _ _)); intro v116 w32 ho33 hb hg_ hnew_; clear hg_ hnew_; (first | rw [← Ny115.out] at ho33 | (simp only [Int.reduceToNat] at ho33; rw [← Ny115.out] at ho33)); have n0_ := Aside0.mk (Kd.R_lower ho33 (below_size (by repeat (first | (with_reducible first | exact HB.out | apply below_alloc | apply pw_below_drewN | apply below_drew1) | exact HB.out)))); have n1_ := Aside0.mk (below_step (by repeat (first | (with_reducible first | exact HB.out | apply below_alloc | apply pw_below_drewN | apply below_drew1) | exact HB.out)) hb); clear HB; have HO117 := n0_; have HB := n1_; clear n0_ n1_; clear hb ho33) | ((with_reducible refine gate_builtin (b := .append) (xs := #[.tmp 25, .tmp 26]) rfl ?_); (try (refine gate_guard (by rfl) ?_; dsimp only)); at_builtin; refine Kd.R_append_rows Kd.string (w0 := w) w.heap.size rfl (.tmp 25) (.tmp 26) 22 9 (.string ⟨#[]⟩) 16 rfl Try.underlying22 info9 rfl (by decide) (by omega) v116 y115 l2 _ _ _ (fun _ => True) (fun _ => False) rfl rfl ?aO ?aR (fun _ _ h => h) (fun _ h => h.elim) ?aF ?aB ?aS ?aL ?_; (case aR => repeat (first | exact (Kd.C_below HR2.out HB.out) | (with_reducible refine Kd.C_alloc ?_ _) | (with_reducible refine Kd.C_drewN ?_ _) | (with_reducible refine Kd.C_drew ?_))); (case aB => exact (by repeat (first | (with_reducible first | exact HB.out | apply below_alloc | apply pw_below_drewN | apply below_drew1) | exact HB.out))); (case aF => exact (fun _ _ => trivial)); (case aO => exact (by (with_reducible repeat (first | apply Kd.R_alloc | apply Kd.R_drewN | apply Kd.R_drew)); exact HO117.out)); (case aS => exact (below_size (by repeat (first | (with_reducible first | exact HB.out | apply below_alloc | apply pw_below_drewN | apply below_drew1) | exact HB.out)))); (case aL => have := LMc13.out; omega); intro v119 w34 ho hb hg hat; rw [← Ny118.out] at ho; have n0_ := Aside0.mk (hb); have n1_ := Aside0.mk (ho); clear HB; clear HO117; have HB := n0_; have HO120 := n1_; clear n0_ n1_; clear ho hb hg hat) | ((with_reducible refine gate_builtin (b := .append) (xs := #[.tmp 27, .tmp 29]) rfl ?_); (try (refine gate_guard (by rfl) ?_; dsimp only)); at_builtin; refine Kd.R_append Kd.string (w0 := w) w.heap.size rfl (.tmp 27) (.tmp 29) 22 9 (.string ⟨#[]⟩) 16 rfl Try.underlying22 info9 rfl (by decide) (by omega) v119 y118 a1 [.string a1] (fun _ => True) (fun _ => False) rfl rfl ?aP (fun _ hk => hk.elim) ?aF ?aO ?aB ?aS ?aL ?_; (case aP => exact rfl); (case aB => exact (by repeat (first | (with_reducible first | exact HB.out | apply below_alloc | apply pw_below_drewN | apply below_drew1) | exact HB.out))); (case aF => exact (fun _ _ => trivial)); (case aO => exact (by (with_reducible repeat (first | apply Kd.R_alloc | apply Kd.R_drewN | apply Kd.R_drew)); exact HO120.out)); (case aS => exact (below_size (by repeat (first | (with_reducible first | exact HB.out | apply below_alloc | apply pw_below_drewN | apply below_drew1) | exact HB.out)))); (case aL => have := LMc14.out; omega); intro v122 w35 ho hb hg hat; rw [← Ny121.out] at ho; have n0_ := Aside0.mk (hb); have n1_ := Aside0.mk (ho); clear HB; clear HO120; have HB := n0_; have HO123 := n1_; clear n0_ n1_; clear ho hb hg hat; obtain ⟨Ao36, co36, eo36⟩ := Kd.R_slice HO123.out; subst eo36) | ((with_reducible refine gate_callee (f := 6) rfl ?_); refine goesL_ (some 31) rfl rfl Try.func6 (by kernel_rfl) rfl #[.string a0, .slice Ao36 y121.length co36] rfl (by (try simp only [List.map_toArray, List.map_cons, List.map_nil]); first | done | rfl | (simp only [List.length_drop, List.length_take]; rfl)) ?_; (with_reducible refine (page_Page.calls k a0 _ _ y121 t124 _ ?side1 ?side2 A15.out).mono ?_); (case side1 => repeat (first | exact (Kd.R_reads' HO123.out).2.2 | (with_reducible refine Kd.C_alloc ?_ _) | (with_reducible refine Kd.C_drewN ?_ _) | (with_reducible refine Kd.C_drew ?_))); (case side2 => exact (Kd.R_reads' HO123.out).2.1); rintro e w37 ⟨rfl, hb⟩; refine ⟨_, rfl, ?_⟩; have n0_ := Aside0.mk (Kd.R_below (by (with_reducible repeat (first | apply Kd.R_alloc | apply Kd.R_drewN | apply Kd.R_drew)); exact HO123.out) hb); have n1_ := Aside0.mk (below_step (by repeat (first | (with_reducible first | exact HB.out | apply below_alloc | apply pw_below_drewN | apply below_drew1) | exact HB.out)) hb); clear HO123; clear HB; have HO123 := n0_; have HB := n1_; clear n0_ n1_; (try clear hb); (try clear hb2); (try clear hk); (try clear hi)))
                            have n0_ := Aside0.mk (Kd.R_drew HO123.out)
                            have n1_ := Aside0.mk (below_drew1 HB.out)
                            clear HO123
                            clear HB
                            have HO123 := n0_
                            have HB := n1_
                            clear n0_ n1_
                            refine start_ (n := 24) (S := fun w' => True) (ds := []) #[false, false, false, false, false, false, false, false, false, false, false, false, false, false, false, false, false, false, false, false, false, false, false, false] (by kernel_rfl) rfl rfl trivial (fun hHeld => ?_); refine with_tabW assizelaw24_PageBeside.tab7 assizelaw24_PageBeside.bits7 (fun HT_ HW_ => ?_)
                            generalize w37.drew = w38 at HO123 HB hHeld ⊢
                            refine pure_ (i := 0) (N := some 32) (v := ?_) (a' := ?_) #[true, false, false, false, false, false, false, false, false, false, false, false, false, false, false, false, false, false, false, false, false, false, false, false] rfl rfl (any_of HT_.out (by kernel_rfl)) (fun _ _ _ h => h) (Or.inl ⟨by rfl, ?_⟩) ?_ ?_
                            rotate_left
                            · intro w'
                              go_simp
                              with_reducible rfl
                            rotate_left
                            · simp only [Act.put, List.setIfInBounds_toArray, List.set_cons_zero, List.set_cons_succ, i64_w, i32_w]
                              rfl
                            refine pure_ (i := 1) (N := some 33) (v := ?_) (a' := ?_) #[true, true, false, false, false, false, false, false, false, false, false, false, false, false, false, false, false, false, false, false, false, false, false, false] rfl rfl (any_of HT_.out (by kernel_rfl)) (fun _ _ _ h => h) (Or.inl ⟨by rfl, ?_⟩) ?_ ?_
                            rotate_left
                            · intro w'
                              go_simp
                              with_reducible rfl
                            rotate_left
                            · simp only [Act.put, List.setIfInBounds_toArray, List.set_cons_zero, List.set_cons_succ, i64_w, i32_w]
                              rfl
                            refine pure_ (i := 2) (N := some 34) (v := ?_) (a' := ?_) #[true, true, true, false, false, false, false, false, false, false, false, false, false, false, false, false, false, false, false, false, false, false, false, false] rfl rfl (any_of HT_.out (by kernel_rfl)) (fun _ _ _ h => h) (Or.inl ⟨by rfl, ?_⟩) ?_ ?_
                            rotate_left
                            · intro w'
                              go_simp
                              with_reducible rfl
                            rotate_left
                            · simp only [Act.put, List.setIfInBounds_toArray, List.set_cons_zero, List.set_cons_succ, i64_w, i32_w]
                              rfl
                            refine pure_ (i := 3) (N := some 35) (v := ?_) (a' := ?_) #[true, true, true, true, false, false, false, false, false, false, false, false, false, false, false, false, false, false, false, false, false, false, false, false] rfl rfl (any_of HT_.out (by kernel_rfl)) (fun _ _ _ h => h) (Or.inl ⟨by rfl, ?_⟩) ?_ ?_
                            rotate_left
                            · intro w'
                              go_simp
                              with_reducible rfl
                            rotate_left
                            · simp only [Act.put, List.setIfInBounds_toArray, List.set_cons_zero, List.set_cons_succ, i64_w, i32_w]
                              rfl
                            refine pure_ (i := 4) (N := some 36) (v := ?_) (a' := ?_) #[true, true, true, true, true, false, false, false, false, false, false, false, false, false, false, false, false, false, false, false, false, false, false, false] rfl rfl (any_of HT_.out (by kernel_rfl)) (fun _ _ _ h => h) (Or.inl ⟨by rfl, ?_⟩) ?_ ?_
                            rotate_left
                            · intro w'
                              go_simp
                              with_reducible rfl
                            rotate_left
                            · simp only [Act.put, List.setIfInBounds_toArray, List.set_cons_zero, List.set_cons_succ, i64_w, i32_w]
                              rfl
                            refine pure_ (i := 5) (N := some 37) (v := ?_) (a' := ?_) #[true, true, true, true, true, true, false, false, false, false, false, false, false, false, false, false, false, false, false, false, false, false, false, false] rfl rfl (any_of HT_.out (by kernel_rfl)) (fun _ _ _ h => h) (Or.inl ⟨by rfl, ?_⟩) ?_ ?_
                            rotate_left
                            · intro w'
                              go_simp
                              with_reducible rfl
                            rotate_left
                            · simp only [Act.put, List.setIfInBounds_toArray, List.set_cons_zero, List.set_cons_succ, i64_w, i32_w]
                              rfl
                            refine pure_ (i := 6) (N := some 38) (v := ?_) (a' := ?_) #[true, true, true, true, true, true, true, false, false, false, false, false, false, false, false, false, false, false, false, false, false, false, false, false] rfl rfl (any_of HT_.out (by kernel_rfl)) (fun _ _ _ h => h) (Or.inl ⟨by rfl, ?_⟩) ?_ ?_
                            rotate_left
                            · intro w'
                              go_simp
                              with_reducible rfl
                            rotate_left
                            · simp only [Act.put, List.setIfInBounds_toArray, List.set_cons_zero, List.set_cons_succ, i64_w, i32_w]
                              rfl
                            refine pure_ (i := 7) (N := some 39) (v := ?_) (a' := ?_) #[true, true, true, true, true, true, true, true, false, false, false, false, false, false, false, false, false, false, false, false, false, false, false, false] rfl rfl (any_of HT_.out (by kernel_rfl)) (fun _ _ _ h => h) (Or.inl ⟨by rfl, ?_⟩) ?_ ?_
                            rotate_left
                            · intro w'
                              go_simp
                              with_reducible rfl
                            rotate_left
                            · simp only [Act.put, List.setIfInBounds_toArray, List.set_cons_zero, List.set_cons_succ, i64_w, i32_w]
                              rfl
                            refine pure_ (i := 8) (N := some 40) (v := ?_) (a' := ?_) #[true, true, true, true, true, true, true, true, true, false, false, false, false, false, false, false, false, false, false, false, false, false, false, false] rfl rfl (any_of HT_.out (by kernel_rfl)) (fun _ _ _ h => h) (Or.inl ⟨by rfl, ?_⟩) ?_ ?_
                            rotate_left
                            · intro w'
                              go_simp
                              with_reducible rfl
                            rotate_left
                            · simp only [Act.put, List.setIfInBounds_toArray, List.set_cons_zero, List.set_cons_succ, i64_w, i32_w]
                              rfl
                            refine pure_ (i := 9) (N := some 41) (v := ?_) (a' := ?_) #[true, true, true, true, true, true, true, true, true, true, false, false, false, false, false, false, false, false, false, false, false, false, false, false] rfl rfl (any_of HT_.out (by kernel_rfl)) (fun _ _ _ h => h) (Or.inl ⟨by rfl, ?_⟩) ?_ ?_
                            rotate_left
                            · intro w'
                              go_simp
                              with_reducible rfl
                            rotate_left
                            · simp only [Act.put, List.setIfInBounds_toArray, List.set_cons_zero, List.set_cons_succ, i64_w, i32_w]
                              rfl
                            refine pure_ (i := 10) (N := some 42) (v := ?_) (a' := ?_) #[true, true, true, true, true, true, true, true, true, true, true, false, false, false, false, false, false, false, false, false, false, false, false, false] rfl rfl (any_of HT_.out (by kernel_rfl)) (fun _ _ _ h => h) (Or.inl ⟨by rfl, ?_⟩) ?_ ?_
                            rotate_left
                            · intro w'
                              go_simp
                              with_reducible rfl
                            rotate_left
                            · simp only [Act.put, List.setIfInBounds_toArray, List.set_cons_zero, List.set_cons_succ, i64_w, i32_w]
                              rfl
                            refine pure_ (i := 11) (N := some 43) (v := ?_) (a' := ?_) #[true, true, true, true, true, true, true, true, true, true, true, true, false, false, false, false, false, false, false, false, false, false, false, false] rfl rfl (any_of HT_.out (by kernel_rfl)) (fun _ _ _ h => h) (Or.inl ⟨by rfl, ?_⟩) ?_ ?_
                            rotate_left
                            · intro w'
                              go_simp
                              with_reducible rfl
                            rotate_left
                            · simp only [Act.put, List.setIfInBounds_toArray, List.set_cons_zero, List.set_cons_succ, i64_w, i32_w]
                              rfl
                            refine pure_ (i := 15) (N := some 47) (v := ?_) (a' := ?_) #[true, true, true, true, true, true, true, true, true, true, true, true, false, false, false, true, false, false, false, false, false, false, false, false] rfl rfl (any_of HT_.out (by kernel_rfl)) (fun _ _ _ h => h) (Or.inl ⟨by rfl, ?_⟩) ?_ ?_
                            rotate_left
                            · intro w'
                              go_simp
                              with_reducible rfl
                            rotate_left
                            · simp only [Act.put, List.setIfInBounds_toArray, List.set_cons_zero, List.set_cons_succ, i64_w, i32_w]
                              rfl
                            refine pure_ (i := 16) (N := some 48) (v := ?_) (a' := ?_) #[true, true, true, true, true, true, true, true, true, true, true, true, false, false, false, true, true, false, false, false, false, false, false, false] rfl rfl (any_of HT_.out (by kernel_rfl)) (fun _ _ _ h => h) (Or.inl ⟨by rfl, ?_⟩) ?_ ?_
                            rotate_left
                            · intro w'
                              go_simp
                              with_reducible rfl
                            rotate_left
                            · simp only [Act.put, List.setIfInBounds_toArray, List.set_cons_zero, List.set_cons_succ, i64_w, i32_w]
                              rfl
                            refine pure_ (i := 17) (N := some 49) (v := ?_) (a' := ?_) #[true, true, true, true, true, true, true, true, true, true, true, true, false, false, false, true, true, true, false, false, false, false, false, false] rfl rfl (any_of HT_.out (by kernel_rfl)) (fun _ _ _ h => h) (Or.inl ⟨by rfl, ?_⟩) ?_ ?_
                            rotate_left
                            · intro w'
                              go_simp
                              with_reducible rfl
                            rotate_left
                            · simp only [Act.put, List.setIfInBounds_toArray, List.set_cons_zero, List.set_cons_succ, i64_w, i32_w]
                              rfl
                            refine pure_ (i := 18) (N := some 50) (v := ?_) (a' := ?_) #[true, true, true, true, true, true, true, true, true, true, true, true, false, false, false, true, true, true, true, false, false, false, false, false] rfl rfl (any_of HT_.out (by kernel_rfl)) (fun _ _ _ h => h) (Or.inl ⟨by rfl, ?_⟩) ?_ ?_
                            rotate_left
                            · intro w'
                              go_simp
                              with_reducible rfl
                            rotate_left
                            · simp only [Act.put, List.setIfInBounds_toArray, List.set_cons_zero, List.set_cons_succ, i64_w, i32_w]
                              rfl
                            refine pure_ (i := 19) (N := some 51) (v := ?_) (a' := ?_) #[true, true, true, true, true, true, true, true, true, true, true, true, false, false, false, true, true, true, true, true, false, false, false, false] rfl rfl (any_of HT_.out (by kernel_rfl)) (fun _ _ _ h => h) (Or.inl ⟨by rfl, ?_⟩) ?_ ?_
                            rotate_left
                            · intro w'
                              go_simp
                              with_reducible rfl
                            rotate_left
                            · simp only [Act.put, List.setIfInBounds_toArray, List.set_cons_zero, List.set_cons_succ, i64_w, i32_w]
                              rfl
                            refine one_ (i := 12) (N := some 44) #[true, true, true, true, true, true, true, true, true, true, true, true, true, false, false, true, true, true, true, true, false, false, false, false] rfl rfl (one_of HT_.out (by kernel_rfl)) (by decide) (fun K hK => ?_)
                            refine goes_ Try.func5 (by kernel_rfl) rfl #[.string a1] (by rfl) rfl rfl (by (try simp only [List.map_toArray, List.map_cons, List.map_nil]); first | done | rfl | (simp only [List.length_drop, List.length_take]; rfl)) ?_
                            with_reducible refine (page_Escape.calls k a1 t125 _ A21.out).mono ?_
                            rintro e w39 ⟨rfl, hb⟩
                            refine ⟨_, rfl, ?_⟩
                            have n0_ := Aside0.mk (Kd.R_below (by (with_reducible repeat (first | apply Kd.R_alloc | apply Kd.R_drewN | apply Kd.R_drew)); exact HO123.out) hb)
                            have n1_ := Aside0.mk (below_step (by repeat (first | (with_reducible first | exact HB.out | apply below_alloc | apply pw_below_drewN | apply below_drew1) | exact HB.out)) hb)
                            clear HO123
                            clear HB
                            have HO123 := n0_
                            have HB := n1_
                            clear n0_ n1_
                            (try clear hb)
                            (try clear hb2)
                            (try clear hk)
                            (try clear hi)
                            refine hK.out _ _ trivial (fun hHeld => ?_)
                            clear hK K
                            refine norm_ (a' := ?_) ?_ ?_
                            rotate_left
                            · show Act.put _ (some 44) _ = _
                              simp only [Act.put, List.setIfInBounds_toArray, List.set_cons_zero, List.set_cons_succ, i64_w, i32_w]
                              rfl
                            refine pure_ (i := 13) (N := some 45) (v := ?_) (a' := ?_) #[true, true, true, true, true, true, true, true, true, true, true, true, true, true, false, true, true, true, true, true, false, false, false, false] rfl rfl (any_of HT_.out (by kernel_rfl)) (fun _ _ _ h => h) (Or.inl ⟨by rfl, ?_⟩) ?_ ?_
                            rotate_left
                            · intro w'
                              go_simp
                              with_reducible rfl
                            rotate_left
                            · simp only [Act.put, List.setIfInBounds_toArray, List.set_cons_zero, List.set_cons_succ, i64_w, i32_w]
                              rfl
                            refine pure_ (i := 14) (N := some 46) (v := ?_) (a' := ?_) #[true, true, true, true, true, true, true, true, true, true, true, true, true, true, true, true, true, true, true, true, false, false, false, false] rfl rfl (any_of HT_.out (by kernel_rfl)) (fun _ _ _ h => h) (Or.inl ⟨by rfl, ?_⟩) ?_ ?_
                            rotate_left
                            · intro w'
                              go_simp
                              with_reducible rfl
                            rotate_left
                            · simp only [Act.put, List.setIfInBounds_toArray, List.set_cons_zero, List.set_cons_succ, i64_w, i32_w]
                              rfl
                            refine pure_ (i := 20) (N := some 52) (v := ?_) (a' := ?_) #[true, true, true, true, true, true, true, true, true, true, true, true, true, true, true, true, true, true, true, true, true, false, false, false] rfl rfl (any_of HT_.out (by kernel_rfl)) (fun _ _ _ h => h) (Or.inl ⟨by rfl, ?_⟩) ?_ ?_
                            rotate_left
                            · intro w'
                              go_simp
                              with_reducible rfl
                            rotate_left
                            · simp only [Act.put, List.setIfInBounds_toArray, List.set_cons_zero, List.set_cons_succ, i64_w, i32_w]
                              rfl
                            refine pure_ (i := 21) (N := some 53) (v := ?_) (a' := ?_) #[true, true, true, true, true, true, true, true, true, true, true, true, true, true, true, true, true, true, true, true, true, true, false, false] rfl rfl (any_of HT_.out (by kernel_rfl)) (fun _ _ _ h => h) (Or.inl ⟨by rfl, ?_⟩) ?_ ?_
                            rotate_left
                            · intro w'
                              go_simp
                              with_reducible rfl
                            rotate_left
                            · simp only [Act.put, List.setIfInBounds_toArray, List.set_cons_zero, List.set_cons_succ, i64_w, i32_w]
                              rfl
                            refine pure_ (i := 22) (N := some 54) (v := ?_) (a' := ?_) #[true, true, true, true, true, true, true, true, true, true, true, true, true, true, true, true, true, true, true, true, true, true, true, false] rfl rfl (any_of HT_.out (by kernel_rfl)) (fun _ _ _ h => h) (Or.inl ⟨by rfl, ?_⟩) ?_ ?_
                            rotate_left
                            · intro w'
                              go_simp
                              with_reducible rfl
                            rotate_left
                            · simp only [Act.put, List.setIfInBounds_toArray, List.set_cons_zero, List.set_cons_succ, i64_w, i32_w]
                              rfl
                            refine pure_ (i := 23) (N := some 6) (v := ?_) (a' := ?_) #[true, true, true, true, true, true, true, true, true, true, true, true, true, true, true, true, true, true, true, true, true, true, true, true] rfl rfl (any_of HT_.out (by kernel_rfl)) (fun _ _ _ h => h) (Or.inl ⟨by rfl, ?_⟩) ?_ ?_
                            rotate_left
                            · intro w'
                              go_simp
                              with_reducible rfl
                            rotate_left
                            · simp only [Act.put, List.setIfInBounds_toArray, List.set_cons_zero, List.set_cons_succ, i64_w, i32_w]
                              rfl
                            refine done_ (done_of HT_.out (by kernel_rfl)) ?_
                            try go_wp2
                            go_ret
                            exact ⟨by first | rfl | (simp [errW_none, errW_some] <;> rfl) | (simp only [← hji17]; first | rfl | (simp [errW_none, errW_some] <;> rfl)) | (simp [*, errW_none, errW_some] <;> rfl), by repeat (first | (with_reducible first | exact HB.out | apply below_alloc | apply pw_below_drewN | apply below_drew1) | exact HB.out)⟩
                          · rw [if_neg c26] at H
                            exact absurd H (by simp)
                        · rw [if_neg c23] at H
                          exact absurd H (by simp)
                      · rw [if_neg c22] at H
                        exact absurd H (by simp)
                    · rw [if_neg c20] at H
                      exact absurd H (by simp)
                  · rw [if_neg c19] at H
                    exact absurd H (by simp)
                · rw [if_neg c18] at H
                  exact absurd H (by simp)
              · rw [if_neg c16] at H
                have c16b0 : decide (20 ≤ (t114.size : Int)) = false := decide_eq_false c16
                have c16b1 : decide (20 ≤ t114.size) = false := decide_eq_false (by omega)
                clear c16
                obtain rfl := Option.some.inj H
                go_enter Try.func3, Try.ntmps3
                try go_wp2_with (first | ((with_reducible refine gate_callee (f := 4) rfl ?_); refine goesL_ (some 9) rfl rfl Try.func4 (by kernel_rfl) rfl #[] rfl (by (try simp only [List.map_toArray, List.map_cons, List.map_nil]); first | done | rfl | (simp only [List.length_drop, List.length_take]; rfl)) ?_; (with_reducible refine (assizelaw24_alive.calls k  true _ A4.out).mono ?_); rintro e w40 ⟨rfl, hb⟩; refine ⟨_, rfl, ?_⟩; have n0_ := Aside0.mk (below_step (by repeat (first | (with_reducible first | exact HB.out | apply below_alloc | apply pw_below_drewN | apply below_drew1) | exact HB.out)) hb); clear HB; have HB := n0_; clear n0_; (try clear hb); (try clear hb2); (try clear hk); (try clear hi)) | ((with_reducible refine gate_callee (f := 5) rfl ?_); refine goesL_ (some 14) rfl rfl Try.func5 (by kernel_rfl) rfl #[.string (a0 ++ a1)] rfl (by (try simp only [List.map_toArray, List.map_cons, List.map_nil]); first | done | rfl | (simp only [List.length_drop, List.length_take]; rfl)) ?_; (with_reducible refine (page_Escape.calls k (a0 ++ a1) t111 _ A7.out).mono ?_); rintro e w41 ⟨rfl, hb⟩; refine ⟨_, rfl, ?_⟩; have n0_ := Aside0.mk (below_step (by repeat (first | (with_reducible first | exact HB.out | apply below_alloc | apply pw_below_drewN | apply below_drew1) | exact HB.out)) hb); clear HB; have HB := n0_; clear n0_; (try clear hb); (try clear hb2); (try clear hk); (try clear hi)) | ((with_reducible refine gate_callee (f := 5) rfl ?_); refine goesL_ (some 16) rfl rfl Try.func5 (by kernel_rfl) rfl #[.string a0] rfl (by (try simp only [List.map_toArray, List.map_cons, List.map_nil]); first | done | rfl | (simp only [List.length_drop, List.length_take]; rfl)) ?_; (with_reducible refine (page_Escape.calls k a0 t112 _ A8.out).mono ?_); rintro e w42 ⟨rfl, hb⟩; refine ⟨_, rfl, ?_⟩; have n0_ := Aside0.mk (below_step (by repeat (first | (with_reducible first | exact HB.out | apply below_alloc | apply pw_below_drewN | apply below_drew1) | exact HB.out)) hb); clear HB; have HB := n0_; clear n0_; (try clear hb); (try clear hb2); (try clear hk); (try clear hi)) | ((with_reducible refine gate_callee (f := 5) rfl ?_); refine goesL_ (some 18) rfl rfl Try.func5 (by kernel_rfl) rfl #[.string a1] rfl (by (try simp only [List.map_toArray, List.map_cons, List.map_nil]); first | done | rfl | (simp only [List.length_drop, List.length_take]; rfl)) ?_; (with_reducible refine (page_Escape.calls k a1 t113 _ A9.out).mono ?_); rintro e w43 ⟨rfl, hb⟩; refine ⟨_, rfl, ?_⟩; have n0_ := Aside0.mk (below_step (by repeat (first | (with_reducible first | exact HB.out | apply below_alloc | apply pw_below_drewN | apply below_drew1) | exact HB.out)) hb); clear HB; have HB := n0_; clear n0_; (try clear hb); (try clear hb2); (try clear hk); (try clear hi)) | ((with_reducible refine gate_callee (f := 6) rfl ?_); refine goesL_ (some 23) rfl rfl Try.func6 (by kernel_rfl) rfl #[.string a0, .slice A2 l2.length c2] rfl (by (try simp only [List.map_toArray, List.map_cons, List.map_nil]); first | done | rfl | (simp only [List.length_drop, List.length_take]; rfl)) ?_; (with_reducible refine (page_Page.calls k a0 _ _ l2 t114 _ ?side1 ?side2 A12.out).mono ?_); (case side1 => repeat (first | exact (Kd.C_below HR2.out HB.out) | (with_reducible refine Kd.C_alloc ?_ _) | (with_reducible refine Kd.C_drewN ?_ _) | (with_reducible refine Kd.C_drew ?_))); (case side2 => exact HC2.out); rintro e w44 ⟨rfl, hb⟩; refine ⟨_, rfl, ?_⟩; have n0_ := Aside0.mk (below_step (by repeat (first | (with_reducible first | exact HB.out | apply below_alloc | apply pw_below_drewN | apply below_drew1) | exact HB.out)) hb); clear HB; have HB := n0_; clear n0_; (try clear hb); (try clear hb2); (try clear hk); (try clear hi)) | ((with_reducible refine gate_dst (N := 25) rfl ?_); (try (refine gate_guard (by rfl) ?_; dsimp only)); refine Kd.R_lit Kd.string _ 9 ?hg (N := 25) ?hd (xs := ([] : List ByteArray)) (inner := []) (ok := fun _ => True) (okp := fun _ => True) ?hr ?hp (fun _ hk => hk) trivial (Below.refl _ _) (Nat.le_refl _) (by simp) ?_; (case hd => rfl); (case hg => rfl); (case hr => first | (go_simp; done) | (go_simp; rfl)); (case hp => exact (Reps.none _ _)); intro v116 w45 ho46 hb hg_ hnew_; clear hg_ hnew_; (first | rw [← Ny115.out] at ho46 | (simp only [Int.reduceToNat] at ho46; rw [← Ny115.out] at ho46)); have n0_ := Aside0.mk (Kd.R_lower ho46 (below_size (by repeat (first | (with_reducible first | exact HB.out | apply below_alloc | apply pw_below_drewN | apply below_drew1) | exact HB.out)))); have n1_ := Aside0.mk (below_step (by repeat (first | (with_reducible first | exact HB.out | apply below_alloc | apply pw_below_drewN | apply below_drew1) | exact HB.out)) hb); clear HB; have HO117 := n0_; have HB := n1_; clear n0_ n1_; clear hb ho46) | ((with_reducible refine gate_builtin (b := .append) (xs := #[.tmp 25, .tmp 26]) rfl ?_); (try (refine gate_guard (by rfl) ?_; dsimp only)); at_builtin; refine Kd.R_append_rows Kd.string (w0 := w) w.heap.size rfl (.tmp 25) (.tmp 26) 22 9 (.string ⟨#[]⟩) 16 rfl Try.underlying22 info9 rfl (by decide) (by omega) v116 y115 l2 _ _ _ (fun _ => True) (fun _ => False) rfl rfl ?aO ?aR (fun _ _ h => h) (fun _ h => h.elim) ?aF ?aB ?aS ?aL ?_; (case aR => repeat (first | exact (Kd.C_below HR2.out HB.out) | (with_reducible refine Kd.C_alloc ?_ _) | (with_reducible refine Kd.C_drewN ?_ _) | (with_reducible refine Kd.C_drew ?_))); (case aB => exact (by repeat (first | (with_reducible first | exact HB.out | apply below_alloc | apply pw_below_drewN | apply below_drew1) | exact HB.out))); (case aF => exact (fun _ _ => trivial)); (case aO => exact (by (with_reducible repeat (first | apply Kd.R_alloc | apply Kd.R_drewN | apply Kd.R_drew)); exact HO117.out)); (case aS => exact (below_size (by repeat (first | (with_reducible first | exact HB.out | apply below_alloc | apply pw_below_drewN | apply below_drew1) | exact HB.out)))); (case aL => have := LMc13.out; omega); intro v119 w47 ho hb hg hat; rw [← Ny118.out] at ho; have n0_ := Aside0.mk (hb); have n1_ := Aside0.mk (ho); clear HB; clear HO117; have HB := n0_; have HO120 := n1_; clear n0_ n1_; clear ho hb hg hat) | ((with_reducible refine gate_builtin (b := .append) (xs := #[.tmp 27, .tmp 29]) rfl ?_); (try (refine gate_guard (by rfl) ?_; dsimp only)); at_builtin; refine Kd.R_append Kd.string (w0 := w) w.heap.size rfl (.tmp 27) (.tmp 29) 22 9 (.string ⟨#[]⟩) 16 rfl Try.underlying22 info9 rfl (by decide) (by omega) v119 y118 a1 [.string a1] (fun _ => True) (fun _ => False) rfl rfl ?aP (fun _ hk => hk.elim) ?aF ?aO ?aB ?aS ?aL ?_; (case aP => exact rfl); (case aB => exact (by repeat (first | (with_reducible first | exact HB.out | apply below_alloc | apply pw_below_drewN | apply below_drew1) | exact HB.out))); (case aF => exact (fun _ _ => trivial)); (case aO => exact (by (with_reducible repeat (first | apply Kd.R_alloc | apply Kd.R_drewN | apply Kd.R_drew)); exact HO120.out)); (case aS => exact (below_size (by repeat (first | (with_reducible first | exact HB.out | apply below_alloc | apply pw_below_drewN | apply below_drew1) | exact HB.out)))); (case aL => have := LMc14.out; omega); intro v122 w48 ho hb hg hat; rw [← Ny121.out] at ho; have n0_ := Aside0.mk (hb); have n1_ := Aside0.mk (ho); clear HB; clear HO120; have HB := n0_; have HO123 := n1_; clear n0_ n1_; clear ho hb hg hat; obtain ⟨Ao49, co49, eo49⟩ := Kd.R_slice HO123.out; subst eo49) | ((with_reducible refine gate_callee (f := 6) rfl ?_); refine goesL_ (some 31) rfl rfl Try.func6 (by kernel_rfl) rfl #[.string a0, .slice Ao49 y121.length co49] rfl (by (try simp only [List.map_toArray, List.map_cons, List.map_nil]); first | done | rfl | (simp only [List.length_drop, List.length_take]; rfl)) ?_; (with_reducible refine (page_Page.calls k a0 _ _ y121 t124 _ ?side1 ?side2 A15.out).mono ?_); (case side1 => repeat (first | exact (Kd.R_reads' HO123.out).2.2 | (with_reducible refine Kd.C_alloc ?_ _) | (with_reducible refine Kd.C_drewN ?_ _) | (with_reducible refine Kd.C_drew ?_))); (case side2 => exact (Kd.R_reads' HO123.out).2.1); rintro e w50 ⟨rfl, hb⟩; refine ⟨_, rfl, ?_⟩; have n0_ := Aside0.mk (Kd.R_below (by (with_reducible repeat (first | apply Kd.R_alloc | apply Kd.R_drewN | apply Kd.R_drew)); exact HO123.out) hb); have n1_ := Aside0.mk (below_step (by repeat (first | (with_reducible first | exact HB.out | apply below_alloc | apply pw_below_drewN | apply below_drew1) | exact HB.out)) hb); clear HO123; clear HB; have HO123 := n0_; have HB := n1_; clear n0_ n1_; (try clear hb); (try clear hb2); (try clear hk); (try clear hi)))
                have n0_ := Aside0.mk (Kd.R_drew HO123.out)
                have n1_ := Aside0.mk (below_drew1 HB.out)
                clear HO123
                clear HB
                have HO123 := n0_
                have HB := n1_
                clear n0_ n1_
                refine start_ (n := 24) (S := fun w' => True) (ds := []) #[false, false, false, false, false, false, false, false, false, false, false, false, false, false, false, false, false, false, false, false, false, false, false, false] (by kernel_rfl) rfl rfl trivial (fun hHeld => ?_); refine with_tabW assizelaw24_PageBeside.tab7 assizelaw24_PageBeside.bits7 (fun HT_ HW_ => ?_)
                generalize w50.drew = w51 at HO123 HB hHeld ⊢
                refine pure_ (i := 0) (N := some 32) (v := ?_) (a' := ?_) #[true, false, false, false, false, false, false, false, false, false, false, false, false, false, false, false, false, false, false, false, false, false, false, false] rfl rfl (any_of HT_.out (by kernel_rfl)) (fun _ _ _ h => h) (Or.inl ⟨by rfl, ?_⟩) ?_ ?_
                rotate_left
                · intro w'
                  go_simp
                  with_reducible rfl
                rotate_left
                · simp only [Act.put, List.setIfInBounds_toArray, List.set_cons_zero, List.set_cons_succ, i64_w, i32_w]
                  rfl
                refine pure_ (i := 1) (N := some 33) (v := ?_) (a' := ?_) #[true, true, false, false, false, false, false, false, false, false, false, false, false, false, false, false, false, false, false, false, false, false, false, false] rfl rfl (any_of HT_.out (by kernel_rfl)) (fun _ _ _ h => h) (Or.inl ⟨by rfl, ?_⟩) ?_ ?_
                rotate_left
                · intro w'
                  go_simp
                  with_reducible rfl
                rotate_left
                · simp only [Act.put, List.setIfInBounds_toArray, List.set_cons_zero, List.set_cons_succ, i64_w, i32_w]
                  rfl
                refine pure_ (i := 2) (N := some 34) (v := ?_) (a' := ?_) #[true, true, true, false, false, false, false, false, false, false, false, false, false, false, false, false, false, false, false, false, false, false, false, false] rfl rfl (any_of HT_.out (by kernel_rfl)) (fun _ _ _ h => h) (Or.inl ⟨by rfl, ?_⟩) ?_ ?_
                rotate_left
                · intro w'
                  go_simp
                  with_reducible rfl
                rotate_left
                · simp only [Act.put, List.setIfInBounds_toArray, List.set_cons_zero, List.set_cons_succ, i64_w, i32_w]
                  rfl
                refine pure_ (i := 3) (N := some 35) (v := ?_) (a' := ?_) #[true, true, true, true, false, false, false, false, false, false, false, false, false, false, false, false, false, false, false, false, false, false, false, false] rfl rfl (any_of HT_.out (by kernel_rfl)) (fun _ _ _ h => h) (Or.inl ⟨by rfl, ?_⟩) ?_ ?_
                rotate_left
                · intro w'
                  go_simp
                  with_reducible rfl
                rotate_left
                · simp only [Act.put, List.setIfInBounds_toArray, List.set_cons_zero, List.set_cons_succ, i64_w, i32_w]
                  rfl
                refine pure_ (i := 4) (N := some 36) (v := undef) (a' := ?_) #[true, true, true, true, true, false, false, false, false, false, false, false, false, false, false, false, false, false, false, false, false, false, false, false] rfl rfl (any_of HT_.out (by kernel_rfl)) (fun _ _ _ h => h) (Or.inr ⟨by rfl, rfl⟩) ?_ ?_
                rotate_left
                · simp only [Act.put, List.setIfInBounds_toArray, List.set_cons_zero, List.set_cons_succ, i64_w, i32_w]
                  rfl
                refine pure_ (i := 5) (N := some 37) (v := undef) (a' := ?_) #[true, true, true, true, true, true, false, false, false, false, false, false, false, false, false, false, false, false, false, false, false, false, false, false] rfl rfl (any_of HT_.out (by kernel_rfl)) (fun _ _ _ h => h) (Or.inr ⟨by rfl, rfl⟩) ?_ ?_
                rotate_left
                · simp only [Act.put, List.setIfInBounds_toArray, List.set_cons_zero, List.set_cons_succ, i64_w, i32_w]
                  rfl
                refine pure_ (i := 6) (N := some 38) (v := undef) (a' := ?_) #[true, true, true, true, true, true, true, false, false, false, false, false, false, false, false, false, false, false, false, false, false, false, false, false] rfl rfl (any_of HT_.out (by kernel_rfl)) (fun _ _ _ h => h) (Or.inr ⟨by rfl, rfl⟩) ?_ ?_
                rotate_left
                · simp only [Act.put, List.setIfInBounds_toArray, List.set_cons_zero, List.set_cons_succ, i64_w, i32_w]
                  rfl
                refine pure_ (i := 7) (N := some 39) (v := undef) (a' := ?_) #[true, true, true, true, true, true, true, true, false, false, false, false, false, false, false, false, false, false, false, false, false, false, false, false] rfl rfl (any_of HT_.out (by kernel_rfl)) (fun _ _ _ h => h) (Or.inr ⟨by rfl, rfl⟩) ?_ ?_
                rotate_left
                · simp only [Act.put, List.setIfInBounds_toArray, List.set_cons_zero, List.set_cons_succ, i64_w, i32_w]
                  rfl
                refine pure_ (i := 8) (N := some 40) (v := undef) (a' := ?_) #[true, true, true, true, true, true, true, true, true, false, false, false, false, false, false, false, false, false, false, false, false, false, false, false] rfl rfl (any_of HT_.out (by kernel_rfl)) (fun _ _ _ h => h) (Or.inr ⟨by rfl, rfl⟩) ?_ ?_
                rotate_left
                · simp only [Act.put, List.setIfInBounds_toArray, List.set_cons_zero, List.set_cons_succ, i64_w, i32_w]
                  rfl
                refine pure_ (i := 9) (N := some 41) (v := undef) (a' := ?_) #[true, true, true, true, true, true, true, true, true, true, false, false, false, false, false, false, false, false, false, false, false, false, false, false] rfl rfl (any_of HT_.out (by kernel_rfl)) (fun _ _ _ h => h) (Or.inr ⟨by rfl, rfl⟩) ?_ ?_
                rotate_left
                · simp only [Act.put, List.setIfInBounds_toArray, List.set_cons_zero, List.set_cons_succ, i64_w, i32_w]
                  rfl
                refine pure_ (i := 10) (N := some 42) (v := undef) (a' := ?_) #[true, true, true, true, true, true, true, true, true, true, true, false, false, false, false, false, false, false, false, false, false, false, false, false] rfl rfl (any_of HT_.out (by kernel_rfl)) (fun _ _ _ h => h) (Or.inr ⟨by rfl, rfl⟩) ?_ ?_
                rotate_left
                · simp only [Act.put, List.setIfInBounds_toArray, List.set_cons_zero, List.set_cons_succ, i64_w, i32_w]
                  rfl
                refine pure_ (i := 11) (N := some 43) (v := undef) (a' := ?_) #[true, true, true, true, true, true, true, true, true, true, true, true, false, false, false, false, false, false, false, false, false, false, false, false] rfl rfl (any_of HT_.out (by kernel_rfl)) (fun _ _ _ h => h) (Or.inr ⟨by rfl, rfl⟩) ?_ ?_
                rotate_left
                · simp only [Act.put, List.setIfInBounds_toArray, List.set_cons_zero, List.set_cons_succ, i64_w, i32_w]
                  rfl
                refine pure_ (i := 12) (N := some 44) (v := undef) (a' := ?_) #[true, true, true, true, true, true, true, true, true, true, true, true, true, false, false, false, false, false, false, false, false, false, false, false] rfl rfl (any_of HT_.out (by kernel_rfl)) (fun _ _ _ h => h) (Or.inr ⟨by rfl, rfl⟩) ?_ ?_
                rotate_left
                · simp only [Act.put, List.setIfInBounds_toArray, List.set_cons_zero, List.set_cons_succ, i64_w, i32_w]
                  rfl
                refine pure_ (i := 13) (N := some 45) (v := undef) (a' := ?_) #[true, true, true, true, true, true, true, true, true, true, true, true, true, true, false, false, false, false, false, false, false, false, false, false] rfl rfl (any_of HT_.out (by kernel_rfl)) (fun _ _ _ h => h) (Or.inr ⟨by rfl, rfl⟩) ?_ ?_
                rotate_left
                · simp only [Act.put, List.setIfInBounds_toArray, List.set_cons_zero, List.set_cons_succ, i64_w, i32_w]
                  rfl
                refine pure_ (i := 14) (N := some 46) (v := undef) (a' := ?_) #[true, true, true, true, true, true, true, true, true, true, true, true, true, true, true, false, false, false, false, false, false, false, false, false] rfl rfl (any_of HT_.out (by kernel_rfl)) (fun _ _ _ h => h) (Or.inr ⟨by rfl, rfl⟩) ?_ ?_
                rotate_left
                · simp only [Act.put, List.setIfInBounds_toArray, List.set_cons_zero, List.set_cons_succ, i64_w, i32_w]
                  rfl
                refine pure_ (i := 15) (N := some 47) (v := undef) (a' := ?_) #[true, true, true, true, true, true, true, true, true, true, true, true, true, true, true, true, false, false, false, false, false, false, false, false] rfl rfl (any_of HT_.out (by kernel_rfl)) (fun _ _ _ h => h) (Or.inr ⟨by rfl, rfl⟩) ?_ ?_
                rotate_left
                · simp only [Act.put, List.setIfInBounds_toArray, List.set_cons_zero, List.set_cons_succ, i64_w, i32_w]
                  rfl
                refine pure_ (i := 16) (N := some 48) (v := undef) (a' := ?_) #[true, true, true, true, true, true, true, true, true, true, true, true, true, true, true, true, true, false, false, false, false, false, false, false] rfl rfl (any_of HT_.out (by kernel_rfl)) (fun _ _ _ h => h) (Or.inr ⟨by rfl, rfl⟩) ?_ ?_
                rotate_left
                · simp only [Act.put, List.setIfInBounds_toArray, List.set_cons_zero, List.set_cons_succ, i64_w, i32_w]
                  rfl
                refine pure_ (i := 17) (N := some 49) (v := undef) (a' := ?_) #[true, true, true, true, true, true, true, true, true, true, true, true, true, true, true, true, true, true, false, false, false, false, false, false] rfl rfl (any_of HT_.out (by kernel_rfl)) (fun _ _ _ h => h) (Or.inr ⟨by rfl, rfl⟩) ?_ ?_
                rotate_left
                · simp only [Act.put, List.setIfInBounds_toArray, List.set_cons_zero, List.set_cons_succ, i64_w, i32_w]
                  rfl
                refine pure_ (i := 18) (N := some 50) (v := undef) (a' := ?_) #[true, true, true, true, true, true, true, true, true, true, true, true, true, true, true, true, true, true, true, false, false, false, false, false] rfl rfl (any_of HT_.out (by kernel_rfl)) (fun _ _ _ h => h) (Or.inr ⟨by rfl, rfl⟩) ?_ ?_
                rotate_left
                · simp only [Act.put, List.setIfInBounds_toArray, List.set_cons_zero, List.set_cons_succ, i64_w, i32_w]
                  rfl
                refine pure_ (i := 19) (N := some 51) (v := undef) (a' := ?_) #[true, true, true, true, true, true, true, true, true, true, true, true, true, true, true, true, true, true, true, true, false, false, false, false] rfl rfl (any_of HT_.out (by kernel_rfl)) (fun _ _ _ h => h) (Or.inr ⟨by rfl, rfl⟩) ?_ ?_
                rotate_left
                · simp only [Act.put, List.setIfInBounds_toArray, List.set_cons_zero, List.set_cons_succ, i64_w, i32_w]
                  rfl
                refine pure_ (i := 20) (N := some 52) (v := undef) (a' := ?_) #[true, true, true, true, true, true, true, true, true, true, true, true, true, true, true, true, true, true, true, true, true, false, false, false] rfl rfl (any_of HT_.out (by kernel_rfl)) (fun _ _ _ h => h) (Or.inr ⟨by rfl, rfl⟩) ?_ ?_
                rotate_left
                · simp only [Act.put, List.setIfInBounds_toArray, List.set_cons_zero, List.set_cons_succ, i64_w, i32_w]
                  rfl
                refine pure_ (i := 21) (N := some 53) (v := undef) (a' := ?_) #[true, true, true, true, true, true, true, true, true, true, true, true, true, true, true, true, true, true, true, true, true, true, false, false] rfl rfl (any_of HT_.out (by kernel_rfl)) (fun _ _ _ h => h) (Or.inr ⟨by rfl, rfl⟩) ?_ ?_
                rotate_left
                · simp only [Act.put, List.setIfInBounds_toArray, List.set_cons_zero, List.set_cons_succ, i64_w, i32_w]
                  rfl
                refine pure_ (i := 22) (N := some 54) (v := ?_) (a' := ?_) #[true, true, true, true, true, true, true, true, true, true, true, true, true, true, true, true, true, true, true, true, true, true, true, false] rfl rfl (any_of HT_.out (by kernel_rfl)) (fun _ _ _ h => h) (Or.inl ⟨by rfl, ?_⟩) ?_ ?_
                rotate_left
                · intro w'
                  go_simp
                  with_reducible rfl
                rotate_left
                · simp only [Act.put, List.setIfInBounds_toArray, List.set_cons_zero, List.set_cons_succ, i64_w, i32_w]
                  rfl
                refine pure_ (i := 23) (N := some 6) (v := ?_) (a' := ?_) #[true, true, true, true, true, true, true, true, true, true, true, true, true, true, true, true, true, true, true, true, true, true, true, true] rfl rfl (any_of HT_.out (by kernel_rfl)) (fun _ _ _ h => h) (Or.inl ⟨by rfl, ?_⟩) ?_ ?_
                rotate_left
                · intro w'
                  go_simp
                  with_reducible rfl
                rotate_left
                · simp only [Act.put, List.setIfInBounds_toArray, List.set_cons_zero, List.set_cons_succ, i64_w, i32_w]
                  rfl
                refine done_ (done_of HT_.out (by kernel_rfl)) ?_
                try go_wp2
                go_ret
                exact ⟨by first | rfl | (simp [errW_none, errW_some] <;> rfl) | (simp [*, errW_none, errW_some] <;> rfl), by repeat (first | (with_reducible first | exact HB.out | apply below_alloc | apply pw_below_drewN | apply below_drew1) | exact HB.out)⟩
            · rw [if_neg c14] at H
              exact absurd H (by simp)
          · rw [if_neg c13] at H
            exact absurd H (by simp)
        · rw [if_neg c11] at H
          have c11b0 : (t111.toList == (t112 ++ t113).toList) = false := beq_eq_false_iff_ne.mpr c11
          have c11b1 : (t111.toList != (t112 ++ t113).toList) = true := bne_iff_ne.mpr c11
          obtain rfl := Option.some.inj H
          go_enter Try.func3, Try.ntmps3
          go_wp2_with (first | ((with_reducible refine gate_callee (f := 4) rfl ?_); refine goesL_ (some 9) rfl rfl Try.func4 (by kernel_rfl) rfl #[] rfl (by (try simp only [List.map_toArray, List.map_cons, List.map_nil]); first | done | rfl | (simp only [List.length_drop, List.length_take]; rfl)) ?_; (with_reducible refine (assizelaw24_alive.calls k  true _ A4.out).mono ?_); rintro e w52 ⟨rfl, hb⟩; refine ⟨_, rfl, ?_⟩; have n0_ := Aside0.mk (below_step (by repeat (first | (with_reducible first | exact HB.out | apply below_alloc | apply pw_below_drewN | apply below_drew1) | exact HB.out)) hb); clear HB; have HB := n0_; clear n0_; (try clear hb); (try clear hb2); (try clear hk); (try clear hi)) | ((with_reducible refine gate_callee (f := 5) rfl ?_); refine goesL_ (some 14) rfl rfl Try.func5 (by kernel_rfl) rfl #[.string (a0 ++ a1)] rfl (by (try simp only [List.map_toArray, List.map_cons, List.map_nil]); first | done | rfl | (simp only [List.length_drop, List.length_take]; rfl)) ?_; (with_reducible refine (page_Escape.calls k (a0 ++ a1) t111 _ A7.out).mono ?_); rintro e w53 ⟨rfl, hb⟩; refine ⟨_, rfl, ?_⟩; have n0_ := Aside0.mk (below_step (by repeat (first | (with_reducible first | exact HB.out | apply below_alloc | apply pw_below_drewN | apply below_drew1) | exact HB.out)) hb); clear HB; have HB := n0_; clear n0_; (try clear hb); (try clear hb2); (try clear hk); (try clear hi)) | ((with_reducible refine gate_callee (f := 5) rfl ?_); refine goesL_ (some 16) rfl rfl Try.func5 (by kernel_rfl) rfl #[.string a0] rfl (by (try simp only [List.map_toArray, List.map_cons, List.map_nil]); first | done | rfl | (simp only [List.length_drop, List.length_take]; rfl)) ?_; (with_reducible refine (page_Escape.calls k a0 t112 _ A8.out).mono ?_); rintro e w54 ⟨rfl, hb⟩; refine ⟨_, rfl, ?_⟩; have n0_ := Aside0.mk (below_step (by repeat (first | (with_reducible first | exact HB.out | apply below_alloc | apply pw_below_drewN | apply below_drew1) | exact HB.out)) hb); clear HB; have HB := n0_; clear n0_; (try clear hb); (try clear hb2); (try clear hk); (try clear hi)) | ((with_reducible refine gate_callee (f := 5) rfl ?_); refine goesL_ (some 18) rfl rfl Try.func5 (by kernel_rfl) rfl #[.string a1] rfl (by (try simp only [List.map_toArray, List.map_cons, List.map_nil]); first | done | rfl | (simp only [List.length_drop, List.length_take]; rfl)) ?_; (with_reducible refine (page_Escape.calls k a1 t113 _ A9.out).mono ?_); rintro e w55 ⟨rfl, hb⟩; refine ⟨_, rfl, ?_⟩; have n0_ := Aside0.mk (below_step (by repeat (first | (with_reducible first | exact HB.out | apply below_alloc | apply pw_below_drewN | apply below_drew1) | exact HB.out)) hb); clear HB; have HB := n0_; clear n0_; (try clear hb); (try clear hb2); (try clear hk); (try clear hi)))
          go_ret
          exact ⟨by first | rfl | (simp [errW_none, errW_some] <;> rfl) | (simp [*, errW_none, errW_some] <;> rfl), by repeat (first | (with_reducible first | exact HB.out | apply below_alloc | apply pw_below_drewN | apply below_drew1) | exact HB.out)⟩
      · rw [if_neg c10] at H
        exact absurd H (by simp)
    · rw [if_neg c6] at H
      exact absurd H (by simp)
  · replace c5 := Bool.eq_false_iff.mpr c5
    subst c5
    have H1 : (some false) = some r := by rw [if_neg (show ¬ (false = true) by decide)] at H; exact H
    clear H
    have H := H1
    clear H1
    obtain rfl := Option.some.inj H
    go_enter Try.func3, Try.ntmps3
    go_wp2_with (first | ((with_reducible refine gate_callee (f := 4) rfl ?_); refine goesL_ (some 9) rfl rfl Try.func4 (by kernel_rfl) rfl #[] rfl (by (try simp only [List.map_toArray, List.map_cons, List.map_nil]); first | done | rfl | (simp only [List.length_drop, List.length_take]; rfl)) ?_; (with_reducible refine (assizelaw24_alive.calls k  false _ A4.out).mono ?_); rintro e w56 ⟨rfl, hb⟩; refine ⟨_, rfl, ?_⟩; have n0_ := Aside0.mk (below_step (by repeat (first | (with_reducible first | exact HB.out | apply below_alloc | apply pw_below_drewN | apply below_drew1) | exact HB.out)) hb); clear HB; have HB := n0_; clear n0_; (try clear hb); (try clear hb2); (try clear hk); (try clear hi)))
    go_ret
    exact ⟨by first | rfl | (simp [errW_none, errW_some] <;> rfl) | (simp [*, errW_none, errW_some] <;> rfl), by repeat (first | (with_reducible first | exact HB.out | apply below_alloc | apply pw_below_drewN | apply below_drew1) | exact HB.out)⟩

end Go.Proofs.Ytllgcpoljdjjnaa.PS
