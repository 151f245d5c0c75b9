/- dot: number, label: the walks. -/
import Derived.Test.YtohlbnbfpcbpdaaDoorDtV
import Derived.Test.YtohlbnbfpcbpdaaDoorShelf
import Derived.Lib.AtoiAllCases
import Derived.Lib.SmallJoins
import Derived.Test.YtohlbnbfpcbpdaaDoorDtP
set_option linter.unusedVariables false
set_option linter.unusedSimpArgs false
namespace Go.Proofs.YtohlbnbfpcbpdaaDoor.Dt
open Go.RowKit Go.Proofs.YtohlbnbfpcbpdaaDoorW.PrintWords Go.Proofs.YtohlbnbfpcbpdaaDoorW.PrintLast Go.Proofs.YtohlbnbfpcbpdaaDoorW.PrintMore
open Go.Proofs.YtohlbnbfpcbpdaaDoor.Lx

def ML (w : World) : Prop := ∃ m, w.cell? ⟨0, 0, none⟩ = some (.int .i64 m)
theorem ML.below {w w' : World} (h : ML w) (hb : Below w.heap.size w w') : ML w' := by
  obtain ⟨m, h⟩ := h
  exact ⟨m, cellB hb h⟩
theorem gPow' : ∃ g, Tryd.prog.globalNamed "internal/strconv.uint64pow10" = some g := by
  have h : (Tryd.prog.globalNamed "internal/strconv.uint64pow10").isSome = true := by kernel_rfl
  exact Option.isSome_iff_exists.1 h
theorem p10_below {w w' : World} (h : P10 w) (hb : Below w.heap.size w w') : P10 w' := by
  obtain ⟨g, hg⟩ := gPow'
  unfold P10 Lib.TabIs World.var? at h ⊢
  rw [hg] at h ⊢
  simp only [Option.bind_some] at h ⊢
  have hlt : g < w.heap.size := by
    rcases Nat.lt_or_ge g w.heap.size with h' | h'
    · exact h'
    · rw [Array.getElem?_eq_none h'] at h; cases h
  rw [hb.block g hlt]
  exact h
/-- What the world is asked to hold. -/
structure DW (w : World) : Prop where
  lw : LW w
  ml : ML w
theorem DW.below {w w' : World} (h : DW w) (hb : Below w.heap.size w w') : DW w' := ⟨⟨h.lw.te.below hb, h.lw.deb.below hb, p10_below h.lw.p10 hb⟩, h.ml.below hb⟩
/-- How number ends. -/
def NumPost (s : List UInt8) (e : Ending) : Prop := (∀ n, numD s = some n → e = .returned (.tuple #[.int .i64 n, .bool true])) ∧ (numD s = none → ∃ n, e = .returned (.tuple #[.int .i64 n, .bool false]))
set_option maxRecDepth 100000 in
set_option maxHeartbeats 2000000 in
theorem number_calls (s : List UInt8) (w : World) (hs : s.length ≤ 1000000000000) (hw : DW w) : Calls Tryd.prog 41 #[.string ⟨s.toArray⟩] w fun e w' => Below w.heap.size w w' ∧ NumPost s e := by
  have HW := Aside0.mk hw
  clear hw
  have HS := Aside0.mk (show (ByteArray.mk s.toArray).size ≤ 1000000000000 from hs)
  cases hx : Lib.atoiAll s with
  | ok n =>
    have HX := Aside0.mk hx
    clear hx
    have hn : -9223372036854775808 ≤ n ∧ n ≤ 9223372036854775807 := Lib.atoiAll_bounds HX.out
    have HP := Aside0.mk (show ∀ e, (∀ n', (if 0 ≤ n ∧ n < 64 ∧ Lib.itoa n = s then some n else none) = some n' → e = .returned (.tuple #[.int .i64 n', .bool true])) → ((if 0 ≤ n ∧ n < 64 ∧ Lib.itoa n = s then some n else none) = none → ∃ n, e = .returned (.tuple #[.int .i64 n, .bool false])) → NumPost s e from fun e h1 h2 => by
      unfold NumPost numD
      rw [HX.out]
      exact ⟨h1, h2⟩)
    go_enter Tryd.func41, Tryd.ntmps41
    go_wp2_with fail
    refine (Tryd.strconv_Atoi_ok ⟨s.toArray⟩ (by have := HS.out; omega) n HX.out _).mono ?_
    rintro e w1 ⟨rfl, hb1⟩
    have HB1 := Aside0.mk (show Below w.heap.size w w1 by
      rcases hb1 with rfl | ⟨t, rfl⟩
      · exact Below.refl _ _
      · exact Go.Joins.below_bytesWorld _ _ _ _ (Nat.le_refl _))
    clear hb1
    by_cases hd : 0 ≤ n ∧ n < 64
    · have hd' : nodeD n = true := by unfold nodeD; rw [decide_eq_true hd.1, decide_eq_true hd.2]; rfl
      have HD := Aside0.mk hd
      clear hd
      go_wp2_with fail
      refine (node_calls n hn _).mono ?_
      rintro e w' ⟨rfl, rfl⟩
      rw [hd']
      go_wp2_with fail
      refine (Tryd.strconv_Itoa n hn.1 hn.2 _ (p10_below HW.out.lw.p10 HB1.out)).mono ?_
      rintro e w4 ⟨rfl, k4, os4, rfl⟩
      have HB4 := Aside0.mk (HB1.out.trans (Lib.below_grow _ _ HB1.out.size k4 os4))
      generalize Sort.grow (w'.drewN k4) os4 = w4 at *
      by_cases q : Lib.itoa n = s
      · have hq : (Lib.itoa n == s) = true := beq_iff_eq.2 q
        have HQ := Aside0.mk q
        clear q
        go_wp2
        go_ret2
        refine ⟨HB4.out, HP.out _ ?_ ?_⟩
        · intro n' h
          rw [if_pos ⟨HD.out.1, HD.out.2, HQ.out⟩] at h
          cases h
          rfl
        · intro h
          rw [if_pos ⟨HD.out.1, HD.out.2, HQ.out⟩] at h
          cases h
      · have hq : (Lib.itoa n == s) = false := beq_eq_false_iff_ne.2 q
        have HQ := Aside0.mk q
        clear q
        go_wp2
        go_ret2
        refine ⟨HB4.out, HP.out _ ?_ ?_⟩
        · intro n' h
          rw [if_neg (fun h => HQ.out h.2.2)] at h
          cases h
        · exact fun _ => ⟨_, rfl⟩
    · have hd' : nodeD n = false := by
        unfold nodeD
        by_cases h1 : 0 ≤ n
        · rw [decide_eq_false (p := n < 64) (fun h => hd ⟨h1, h⟩), Bool.and_false]
        · rw [decide_eq_false h1, Bool.false_and]
      have HD := Aside0.mk hd
      clear hd
      go_wp2_with fail
      refine (node_calls n hn _).mono ?_
      rintro e w' ⟨rfl, rfl⟩
      rw [hd']
      go_wp2_with fail
      go_ret2
      refine ⟨HB1.out, HP.out _ ?_ ?_⟩
      · intro n' h
        rw [if_neg (fun h => HD.out ⟨h.1, h.2.1⟩)] at h
        cases h
      · exact fun _ => ⟨_, rfl⟩
  | «range» =>
    have HP := Aside0.mk (show ∀ e, (∃ n, e = .returned (.tuple #[.int .i64 n, .bool false])) → NumPost s e from fun e h => by
      unfold NumPost numD
      rw [hx]
      exact ⟨(fun n h => by cases h), fun _ => h⟩)
    have HX := Aside0.mk hx
    clear hx
    obtain ⟨ev, hv, hev⟩ := HW.out.lw.te.2
    have HV := Aside0.mk hv
    clear hv
    go_enter Tryd.func41, Tryd.ntmps41
    go_wp2_with fail
    refine (Tryd.strconv_Atoi_range ⟨s.toArray⟩ (by have := HS.out; omega) HX.out ev _ HV.out hev).mono ?_
    rintro e w1 ⟨N1, rfl, _, _, hb1⟩
    have HB1 := Aside0.mk hb1
    clear hb1
    go_wp2_with fail
    go_ret2
    exact ⟨HB1.out, HP.out _ ⟨_, rfl⟩⟩
  | _ =>
    have hx0 := hx
    replace hx : Lib.atoiAll s = Lib.atoiAll [] := by rw [hx0]; rfl
    have HP := Aside0.mk (show ∀ e, (∃ n, e = .returned (.tuple #[.int .i64 n, .bool false])) → NumPost s e from fun e h => by
      unfold NumPost numD
      rw [hx]
      exact ⟨(fun n h => by cases h), fun _ => h⟩)
    have HX := Aside0.mk hx
    clear hx hx0
    obtain ⟨ev, hv, hev⟩ := HW.out.lw.te.1
    have HV := Aside0.mk hv
    clear hv
    go_enter Tryd.func41, Tryd.ntmps41
    go_wp2_with fail
    refine (Tryd.strconv_Atoi_syntax ⟨s.toArray⟩ (by have := HS.out; omega) HX.out ev _ HV.out hev).mono ?_
    rintro e w1 ⟨N1, rfl, _, _, hb1⟩
    have HB1 := Aside0.mk hb1
    clear hb1
    go_wp2_with fail
    go_ret2
    exact ⟨HB1.out, HP.out _ ⟨_, rfl⟩⟩
/-- How label ends. -/
def LabPost (names : List (List UInt8)) (s : List UInt8) (e : Ending) : Prop := (∀ k y, labD names s = some (k, y) → e = .returned (.tuple #[.int .i64 k, .int .i64 y, .bool true])) ∧ (labD names s = none → ∃ k y, e = .returned (.tuple #[.int .i64 k, .int .i64 y, .bool false]))
theorem kwI_pos {c : List UInt8} {j : Nat} (hj : j < 5) (h : c = kw j) : kwI c = some j := by rw [h]; exact kwI_kw hj
theorem kwI_neg {c : List UInt8} (h : ∀ j, j < 5 → c ≠ kw j) : kwI c = none := by
  unfold kwI
  rw [if_neg (h 0 (by decide)), if_neg (h 1 (by decide)), if_neg (h 2 (by decide)), if_neg (h 3 (by decide)), if_neg (h 4 (by decide))]
set_option maxRecDepth 100000 in
set_option maxHeartbeats 2000000 in
theorem label_calls (names : List (List UInt8)) (s : List UInt8) (b : Nat) (w : World) (hm : MapL.Is encS w b (bookL names)) (hn : names.Nodup) (hs : s.length < 4294967281) (hw : ML w) :
    Calls Tryd.prog 43 #[.string ⟨s.toArray⟩, .map (some b)] w fun e w' => (∃ n, w' = w.drewN n) ∧ LabPost names s e := by
  obtain ⟨m, hml⟩ := hw
  have HML := Aside0.mk hml
  have HM := Aside0.mk hm
  clear hml hm
  have HS := Aside0.mk (show (ByteArray.mk s.toArray).size < 4294967281 from hs)
  have HP := Aside0.mk (show ∀ e, LabPost names s e ↔ ((∀ k y, labD names s = some (k, y) → e = .returned (.tuple #[.int .i64 k, .int .i64 y, .bool true])) ∧ (labD names s = none → ∃ k y, e = .returned (.tuple #[.int .i64 k, .int .i64 y, .bool false]))) from fun e => Iff.rfl)
  have HD := Aside0.mk (show labD names s = match kwI (Lib.cut s [32]).1 with
    | none => none
    | some b => if (Lib.cut s [32]).2.2 = true then (if (Lib.cut s [32]).2.1 ∈ names then some ((2 : Int) ^ b, (names.idxOf (Lib.cut s [32]).2.1 : Int)) else none) else some ((2 : Int) ^ b, -1) from rfl)
  generalize labD names s = D at HP HD
  have HLK := Aside0.mk (bookL_look names hn (Lib.cut s [32]).2.1)
  go_enter Tryd.func43, Tryd.ntmps43
  go_wp2_with fail
  refine (Tryd.strings_Cut ⟨s.toArray⟩ ⟨#[32]⟩ m _ HS.out HML.out).mono ?_
  rintro e w1 ⟨rfl, n1, rfl⟩
  simp only [List.toList_toArray]
  obtain ⟨⟨c1, c2, c3⟩, hc⟩ : ∃ c, c = Lib.cut s [32] := ⟨_, rfl⟩
  rw [← hc] at HD HLK ⊢
  clear hc
  simp only at HD HLK ⊢
  go_wp2
  go_loopg [19] 5 (fun kq v19 w2 => ∃ j : Nat, j + kq = 5 ∧ v19 = .int .i64 j ∧ Aside0 (w2 = w.drewN n1) ∧ Aside0 (∀ i, i < j → c1 ≠ kw i))
  case atStart => exact ⟨0, by omega, rfl, Aside0.mk rfl, Aside0.mk (fun i hi => by omega)⟩
  case round =>
    obtain ⟨j, hj, rfl, HW, HN⟩ := hrel
    have hj5 : j = 5 ∨ j < 5 := by omega
    rcases hj5 with rfl | hj5
    · have hge : ¬ ((5 : Nat) : Int) < 5 := by omega
      go_wp2
      go_ret3
      refine ⟨⟨n1, HW.out⟩, (HP.out _).2 ⟨fun k y h => ?_, fun _ => ⟨_, _, rfl⟩⟩⟩
      rw [HD.out, kwI_neg HN.out] at h
      cases h
    · obtain ⟨k1, rfl⟩ : ∃ m, gk = m + 1 := ⟨gk - 1, by omega⟩
      have HJ := Aside0.mk hj
      clear hj
      by_cases q : c1 = kw j
      · have HD2 := Aside0.mk (show D = if c3 = true then (if c2 ∈ names then some ((2 : Int) ^ j, (names.idxOf c2 : Int)) else none) else some ((2 : Int) ^ j, -1) by rw [HD.out, kwI_pos hj5 q])
        have hq : (kw j == c1) = true := beq_iff_eq.2 q.symm
        have HJ5 := Aside0.mk hj5
        have hjz : ((j : Nat) : Int) < 5 := by omega
        clear q hj5
        go_wp2_with fail
        refine (word_calls j HJ5.out _).mono ?_
        rintro e w' ⟨rfl, rfl⟩
        cases c3 with
        | false =>
          have HE := Aside0.mk (show D = some ((2 : Int) ^ j, -1) by rw [HD2.out]; rfl)
          clear HD2 HD HLK
          have hj4 : j = 0 ∨ j = 1 ∨ j = 2 ∨ j = 3 ∨ j = 4 := by have := HJ5.out; omega
          rcases hj4 with rfl | rfl | rfl | rfl | rfl
          all_goals
            go_wp2
            go_ret3
            refine ⟨⟨n1, HW.out⟩, (HP.out _).2 ⟨fun k y h => ?_, fun h => ?_⟩⟩
            · rw [HE.out] at h
              cases h
              rfl
            · rw [HE.out] at h
              cases h
        | true =>
          rw [if_pos rfl] at HD2
          have hM2 : MapL.Is encS w' b (bookL names) := by rw [HW.out]; exact HM.out.drewN n1
          have hlk := MapL.run_lookup_ok hM2 keyed_S Tryd.underlying36 Tryd.underlying9 (zero_int _) c2
          unfold encS at hlk
          rw [HLK.out] at hlk
          by_cases hc2 : c2 ∈ names
          · rw [if_pos hc2] at HD2
            rw [if_pos hc2, Option.getD_some, Option.isSome_some] at hlk
            clear hc2 HLK HD hM2
            have hj4 : j = 0 ∨ j = 1 ∨ j = 2 ∨ j = 3 ∨ j = 4 := by have := HJ5.out; omega
            rcases hj4 with rfl | rfl | rfl | rfl | rfl
            all_goals
              go_wp2
              go_ret3
              refine ⟨⟨n1, HW.out⟩, (HP.out _).2 ⟨fun k y h => ?_, fun h => ?_⟩⟩
              · rw [HD2.out] at h
                cases h
                rfl
              · rw [HD2.out] at h
                cases h
          · rw [if_neg hc2] at HD2
            rw [if_neg hc2, Option.getD_none, Option.isSome_none] at hlk
            clear hc2 HLK HD hM2
            have hj4 : j = 0 ∨ j = 1 ∨ j = 2 ∨ j = 3 ∨ j = 4 := by have := HJ5.out; omega
            rcases hj4 with rfl | rfl | rfl | rfl | rfl
            all_goals
              go_wp2
              go_ret3
              refine ⟨⟨n1, HW.out⟩, (HP.out _).2 ⟨fun k y h => ?_, fun h => ?_⟩⟩
              · rw [HD2.out] at h
                cases h
              · exact ⟨_, _, rfl⟩
      · have hq : (kw j == c1) = false := beq_eq_false_iff_ne.2 (fun h => q h.symm)
        have HN2 := Aside0.mk (show ∀ i, i < j + 1 → c1 ≠ kw i from fun i hi => by
          by_cases e : i = j
          · rw [e]; exact q
          · exact HN.out i (by omega))
        have hjz : ((j : Nat) : Int) < 5 := by omega
        have HJ5 := Aside0.mk hj5
        clear q hj5
        go_wp2_with fail
        refine (word_calls j HJ5.out _).mono ?_
        rintro e w' ⟨rfl, rfl⟩
        go_wp2
        go_roundg k1
        case measure => omega
        case rel => exact ⟨j + 1, by have := HJ.out; omega, by go_num, HW, HN2⟩
end Go.Proofs.YtohlbnbfpcbpdaaDoor.Dt
