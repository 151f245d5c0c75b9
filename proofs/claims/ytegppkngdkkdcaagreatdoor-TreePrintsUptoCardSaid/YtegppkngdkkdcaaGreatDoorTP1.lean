/- What TreePrints stands on, part 1. -/
import Derived.Test.YtegppkngdkkdcaaGreatDoorTP0
set_option linter.unusedVariables false
set_option linter.unusedSimpArgs false
section
set_option linter.unusedVariables false
set_option linter.unusedSimpArgs false
namespace Go.Proofs.YtegppkngdkkdcaaGreatDoor.Lx
open Go.RowKit Go.Proofs.YtegppkngdkkdcaaGreatDoorW.PrintWords Go.Proofs.YtegppkngdkkdcaaGreatDoorW.PrintLast Go.Proofs.YtegppkngdkkdcaaGreatDoorW.PrintMore
def TE (w : World) : Prop := (∃ ev, w.cell? ⟨2, 0, none⟩ = some ev ∧ (ev = .nilIface ∨ ∃ te pe, ev = .iface te pe)) ∧ (∃ ev, w.cell? ⟨3, 0, none⟩ = some ev ∧ (ev = .nilIface ∨ ∃ te pe, ev = .iface te pe))
theorem drew_below (w : World) : Below w.heap.size w w.drew := ⟨rfl, rfl, rfl, Nat.le_refl _, fun _ _ => rfl⟩
theorem bytes_new (w : World) (e : TypeId) (s : ByteArray) : Below w.heap.size w (Lib.bytesWorld w e s) :=
  ⟨rfl, rfl, rfl, by simp [Lib.bytesWorld, World.freeze, World.alloc, World.drew, -World.alloc_eq, -World.drew_eq], fun k hk => Lib.bytesWorld_at_old w e s k hk⟩
theorem RD.below {r : Nat} {l : List UInt8} {a : Nat} {w w' : World} (h : RD r l a w) (hb : Below w.heap.size w w') : RD r l a w' := (hb.block r (blk_lt h)).trans h
attribute [local go_sem] idx_list
set_option maxRecDepth 100000 in
set_option maxHeartbeats 2000000 in
theorem number_neg (r : Nat) (l : List UInt8) (at' : Nat) (ds : List UInt8) (w : World) (hr : RD r l at' w) (hat : at' < l.length) (hc : l[at'] = 45) (hds : ds = (l.drop (at' + 1)).takeWhile isDigit) (hl : l.length ≤ 1000000000000) (hte : ∀ w1, KeepR r w w1 → TE w1) :
    Calls Tryz.prog 66 #[.pointer (some ⟨r, 0, none⟩)] w fun e w' => KeepR r w w' ∧
      ((∀ v, numR true ds = some v → e = .returned (.int .i64 v) ∧ RD r l (at' + 1 + ds.length) w') ∧ (numR true ds = none → e = .panicked [{ v := broken at', recovered := false }])) := by
  have HR := Aside0.mk hr
  have c0 : w.cell? ⟨r, 0, none⟩ = some (.string ⟨l.toArray⟩) := blk_cell hr 0
  have c1 : w.cell? ⟨r, 1, none⟩ = some (.int .i64 at') := blk_cell hr 1
  have f1 := blk_frozen hr 1
  have hlt : (at' : Int) < (l.length : Int) := by omega
  have hsz : (ByteArray.mk l.toArray).size = l.length := by simp [ByteArray.size]
  have hci : ((l[at'].toNat : Nat) : Int) = 45 := by rw [hc]; rfl
  clear hr
  go_enter Tryz.func66, Tryz.ntmps66
  go_wp2_with fail
  refine start_ (n := 10) (S := fun w' => w' = w.drew) (ds := []) #[fF, fF, fF, fF, fF, fF, fF, fF, fF, fF] (by kernel_rfl) rfl rfl rfl (fun hHeld => ?_)
  refine pure_ (i := 0) (N := some 11) (v := ?_) (a' := ?_) #[tT, fF, fF, fF, fF, fF, fF, fF, fF, fF] rfl rfl (by kernel_rfl) (fun _ _ _ h => h) (Or.inl ⟨by rfl, ?_⟩) ?_ ?_
  rotate_left
  · intro w'
    go_simp
    with_reducible rfl
  rotate_left
  · simp only [Act.put, sA, sZ, sS, i64_w, i32_w]
    rfl
  refine pure_ (i := 1) (N := some 12) (v := ?_) (a' := ?_) #[tT, tT, fF, fF, fF, fF, fF, fF, fF, fF] rfl rfl (by kernel_rfl) (fun _ _ _ h => h) (Or.inl ⟨by rfl, ?_⟩) ?_ ?_
  rotate_left
  · intro w'
    go_simp
    with_reducible rfl
  rotate_left
  · simp only [Act.put, sA, sZ, sS, i64_w, i32_w]
    rfl
  refine pure_ (i := 2) (N := some 13) (v := ?_) (a' := ?_) #[tT, tT, tT, fF, fF, fF, fF, fF, fF, fF] rfl rfl (by kernel_rfl) (fun _ _ _ h => h) (Or.inl ⟨by rfl, ?_⟩) ?_ ?_
  rotate_left
  · intro w'
    go_simp
    with_reducible rfl
  rotate_left
  · simp only [Act.put, sA, sZ, sS, i64_w, i32_w]
    rfl
  refine take_ (i := 3) (N := some 14) (v := ?_) (a' := ?_) #[tT, tT, tT, tT, fF, fF, fF, fF, fF, fF] rfl rfl (by kernel_rfl) (fun _ _ _ h => h) (Or.inl ⟨by rfl, ?_⟩) hHeld ?_ ?_
  rotate_left
  · rintro w' rfl
    go_simp
    with_reducible rfl
  rotate_left
  · simp only [Act.put, sA, sZ, sS, i64_w, i32_w]
    rfl
  refine pure_ (i := 4) (N := some 15) (v := ?_) (a' := ?_) #[tT, tT, tT, tT, tT, fF, fF, fF, fF, fF] rfl rfl (by kernel_rfl) (fun _ _ _ h => h) (Or.inl ⟨by rfl, ?_⟩) ?_ ?_
  rotate_left
  · intro w'
    go_simp
    with_reducible rfl
  rotate_left
  · simp only [Act.put, sA, sZ, sS, i64_w, i32_w]
    rfl
  refine pure_ (i := 5) (N := some 16) (v := ?_) (a' := ?_) #[tT, tT, tT, tT, tT, tT, fF, fF, fF, fF] rfl rfl (by kernel_rfl) (fun _ _ _ h => h) (Or.inl ⟨by rfl, ?_⟩) ?_ ?_
  rotate_left
  · intro w'
    go_simp
    with_reducible rfl
  rotate_left
  · simp only [Act.put, sA, sZ, sS, i64_w, i32_w]
    rfl
  refine pure_ (i := 6) (N := some 17) (v := ?_) (a' := ?_) #[tT, tT, tT, tT, tT, tT, tT, fF, fF, fF] rfl rfl (by kernel_rfl) (fun _ _ _ h => h) (Or.inl ⟨by rfl, ?_⟩) ?_ ?_
  rotate_left
  · intro w'
    go_simp
    with_reducible rfl
  rotate_left
  · simp only [Act.put, sA, sZ, sS, i64_w, i32_w]
    rfl
  refine take_ (i := 7) (N := some 18) (v := ?_) (a' := ?_) #[tT, tT, tT, tT, tT, tT, tT, tT, fF, fF] rfl rfl (by kernel_rfl) (fun _ _ _ h => h) (Or.inl ⟨by rfl, ?_⟩) hHeld ?_ ?_
  rotate_left
  · rintro w' rfl
    go_simp
    with_reducible rfl
  rotate_left
  · simp only [Act.put, sA, sZ, sS, i64_w, i32_w]
    rfl
  refine pure_ (i := 8) (N := some 19) (v := ?_) (a' := ?_) #[tT, tT, tT, tT, tT, tT, tT, tT, tT, fF] rfl rfl (by kernel_rfl) (fun _ _ _ h => h) (Or.inl ⟨by rfl, ?_⟩) ?_ ?_
  rotate_left
  · intro w'
    go_simp
    with_reducible rfl
  rotate_left
  · simp only [Act.put, sA, sZ, sS, i64_w, i32_w]
    rfl
  refine pure_ (i := 9) (N := some 20) (v := ?_) (a' := ?_) #[tT, tT, tT, tT, tT, tT, tT, tT, tT, tT] rfl rfl (by kernel_rfl) (fun _ _ _ h => h) (Or.inl ⟨by rfl, ?_⟩) ?_ ?_
  rotate_left
  · intro w'
    go_simp
    with_reducible rfl
  rotate_left
  · simp only [Act.put, sA, sZ, sS, i64_w, i32_w]
    rfl
  refine done_ (by kernel_rfl) ?_
  go_wp2_with fail
  have hrd : RD r l (at' + 1) (w.setCell ⟨r, 1, none⟩ (.int .i64 ((at' : Int) + 1))).drew := RD.set HR.out (at' + 1)
  refine (while_calls r l (at' + 1) 65 isDigit _ digit_enters digit_calls hrd (by omega) hl).mono ?_
  rw [← hds]
  rintro e w2 ⟨rfl, hr2, hk2⟩
  have hdl : at' + 1 + ds.length ≤ l.length := by
    have h := (List.takeWhile_sublist (l := l.drop (at' + 1)) isDigit).length_le
    rw [← hds, List.length_drop] at h
    omega
  have hwhole : (ByteArray.mk l.toArray).extract at' (at' + 1 + ds.length) = ⟨(45 :: ds).toArray⟩ := by
    have hpre : ds <+: l.drop (at' + 1) := by rw [hds]; exact List.takeWhile_prefix _
    have htk : (l.drop (at' + 1)).take ds.length = ds := (List.prefix_iff_eq_take.1 hpre).symm
    rw [ext_seg, List.drop_eq_getElem_cons hat, hc, show at' + 1 + ds.length - at' = ds.length + 1 by omega, List.take_succ_cons, htk]
  obtain ⟨m, hm⟩ : ∃ m, m = at' + 1 + ds.length := ⟨_, rfl⟩
  rw [← hm] at hr2 hwhole
  have hKK : KeepR r w (w.setCell ⟨r, 1, none⟩ (.int .i64 ((at' : Int) + 1))).drew := ((KeepR.refl r w).set 1 _).drew
  have HK2 := Aside0.mk (hKK.trans hk2)
  have HR2 := Aside0.mk hr2
  have HM := Aside0.mk hm
  have HWH := Aside0.mk hwhole
  have d0 : w2.cell? ⟨r, 0, none⟩ = some (.string ⟨l.toArray⟩) := blk_cell hr2 0
  have d1 : w2.cell? ⟨r, 1, none⟩ = some (.int .i64 m) := blk_cell hr2 1
  have hml : m ≤ l.length := by omega
  have ham : at' ≤ m := by omega
  have ham' : (at' : Int) ≤ (m : Int) := by omega
  have hml' : (m : Int) ≤ (l.length : Int) := by omega
  have HCI := Aside0.mk hci
  clear hr2 hk2 hKK hwhole hm c0 c1 f1 hds
  go_wp2_with fail
  refine start_ (n := 16) (S := fun w' => w'.cell? ⟨r, 0, none⟩ = some (.string ⟨l.toArray⟩) ∧ w'.cell? ⟨r, 1, none⟩ = some (.int .i64 m)) (ds := []) #[fF, fF, fF, fF, fF, fF, fF, fF, fF, fF, fF, fF, fF, fF, fF, fF] (by kernel_rfl) rfl rfl ⟨d0, d1⟩ (fun hHeld => ?_)
  refine pure_ (i := 0) (N := some 31) (v := ?_) (a' := ?_) #[tT, fF, fF, fF, fF, fF, fF, fF, fF, fF, fF, fF, fF, fF, fF, fF] rfl rfl (by kernel_rfl) (fun _ _ _ h => h) (Or.inl ⟨by rfl, ?_⟩) ?_ ?_
  rotate_left
  · intro w'
    go_simp
    with_reducible rfl
  rotate_left
  · simp only [Act.put, sA, sZ, sS, i64_w, i32_w]
    rfl
  refine pure_ (i := 1) (N := some 32) (v := ?_) (a' := ?_) #[tT, tT, fF, fF, fF, fF, fF, fF, fF, fF, fF, fF, fF, fF, fF, fF] rfl rfl (by kernel_rfl) (fun _ _ _ h => h) (Or.inl ⟨by rfl, ?_⟩) ?_ ?_
  rotate_left
  · intro w'
    go_simp
    with_reducible rfl
  rotate_left
  · simp only [Act.put, sA, sZ, sS, i64_w, i32_w]
    rfl
  refine pure_ (i := 2) (N := some 33) (v := ?_) (a' := ?_) #[tT, tT, tT, fF, fF, fF, fF, fF, fF, fF, fF, fF, fF, fF, fF, fF] rfl rfl (by kernel_rfl) (fun _ _ _ h => h) (Or.inl ⟨by rfl, ?_⟩) ?_ ?_
  rotate_left
  · intro w'
    go_simp
    with_reducible rfl
  rotate_left
  · simp only [Act.put, sA, sZ, sS, i64_w, i32_w]
    rfl
  refine take_ (i := 3) (N := some 34) (v := ?_) (a' := ?_) #[tT, tT, tT, tT, fF, fF, fF, fF, fF, fF, fF, fF, fF, fF, fF, fF] rfl rfl (by kernel_rfl) (fun _ _ _ h => h) (Or.inl ⟨by rfl, ?_⟩) hHeld ?_ ?_
  rotate_left
  · rintro w' ⟨s0, s1⟩
    go_simp
    with_reducible rfl
  rotate_left
  · simp only [Act.put, sA, sZ, sS, i64_w, i32_w]
    rfl
  refine pure_ (i := 4) (N := some 35) (v := ?_) (a' := ?_) #[tT, tT, tT, tT, tT, fF, fF, fF, fF, fF, fF, fF, fF, fF, fF, fF] rfl rfl (by kernel_rfl) (fun _ _ _ h => h) (Or.inl ⟨by rfl, ?_⟩) ?_ ?_
  rotate_left
  · intro w'
    go_simp
    with_reducible rfl
  rotate_left
  · simp only [Act.put, sA, sZ, sS, i64_w, i32_w]
    rfl
  refine pure_ (i := 5) (N := some 36) (v := ?_) (a' := ?_) #[tT, tT, tT, tT, tT, tT, fF, fF, fF, fF, fF, fF, fF, fF, fF, fF] rfl rfl (by kernel_rfl) (fun _ _ _ h => h) (Or.inl ⟨by rfl, ?_⟩) ?_ ?_
  rotate_left
  · intro w'
    go_simp
    with_reducible rfl
  rotate_left
  · simp only [Act.put, sA, sZ, sS, i64_w, i32_w]
    rfl
  refine pure_ (i := 6) (N := some 37) (v := ?_) (a' := ?_) #[tT, tT, tT, tT, tT, tT, tT, fF, fF, fF, fF, fF, fF, fF, fF, fF] rfl rfl (by kernel_rfl) (fun _ _ _ h => h) (Or.inl ⟨by rfl, ?_⟩) ?_ ?_
  rotate_left
  · intro w'
    go_simp
    with_reducible rfl
  rotate_left
  · simp only [Act.put, sA, sZ, sS, i64_w, i32_w]
    rfl
  refine pure_ (i := 7) (N := some 38) (v := ?_) (a' := ?_) #[tT, tT, tT, tT, tT, tT, tT, tT, fF, fF, fF, fF, fF, fF, fF, fF] rfl rfl (by kernel_rfl) (fun _ _ _ h => h) (Or.inl ⟨by rfl, ?_⟩) ?_ ?_
  rotate_left
  · intro w'
    go_simp
    with_reducible rfl
  rotate_left
  · simp only [Act.put, sA, sZ, sS, i64_w, i32_w]
    rfl
  refine take_ (i := 8) (N := some 39) (v := ?_) (a' := ?_) #[tT, tT, tT, tT, tT, tT, tT, tT, tT, fF, fF, fF, fF, fF, fF, fF] rfl rfl (by kernel_rfl) (fun _ _ _ h => h) (Or.inl ⟨by rfl, ?_⟩) hHeld ?_ ?_
  rotate_left
  · rintro w' ⟨s0, s1⟩
    go_simp
    with_reducible rfl
  rotate_left
  · simp only [Act.put, sA, sZ, sS, i64_w, i32_w]
    rfl
  refine pure_ (i := 9) (N := some 40) (v := ?_) (a' := ?_) #[tT, tT, tT, tT, tT, tT, tT, tT, tT, tT, fF, fF, fF, fF, fF, fF] rfl rfl (by kernel_rfl) (fun _ _ _ h => h) (Or.inl ⟨by rfl, ?_⟩) ?_ ?_
  rotate_left
  · intro w'
    go_simp
    with_reducible rfl
  rotate_left
  · simp only [Act.put, sA, sZ, sS, i64_w, i32_w]
    rfl
  refine one_ (i := 10) (N := some 41) #[tT, tT, tT, tT, tT, tT, tT, tT, tT, tT, tT, fF, fF, fF, fF, fF] rfl rfl (by kernel_rfl) (by decide) (fun K hK => ?_)
  refine goes_ Tryz.func84 (by kernel_rfl) rfl #[.string ((ByteArray.mk l.toArray).extract at' m), .int .i64 10, .int .i64 64] (by rfl) rfl rfl (by simp only [List.map_toArray, List.map_cons, List.map_nil]; rfl) ?_
  rw [HWH.out]
  have hwl : (ByteArray.mk (45 :: ds).toArray).size ≤ 1000000000000 := by rw [show (ByteArray.mk (45 :: ds).toArray).size = ds.length + 1 by simp [ByteArray.size]]; have := HM.out; omega
  cases hP : Lib.parseIntB 64 (45 :: ds) with
  | ok v =>
    refine (Tryz.strconv_ParseInt_10_at64_ok ⟨(45 :: ds).toArray⟩ (by omega) v hP _).mono ?_
    rintro e w3 ⟨rfl, hw3⟩
    have hb3 : Below w2.heap.size w2 w3 := by
      rcases hw3 with rfl | ⟨t, rfl⟩
      · exact drew_below w2
      · exact (drew_below w2).trans (bytes_new w2.drew 5 t)
    have HK3 := Aside0.mk (HK2.out.trans (KeepR.of_below hb3 (blk_lt HR2.out)))
    have HR3 := Aside0.mk (RD.below HR2.out hb3)
    refine ⟨_, rfl, hK.out _ _ ⟨blk_cell HR3.out 0, blk_cell HR3.out 1⟩ fun _ => ?_⟩
    clear hK K hw3 hb3
    refine norm_ (a' := ?_) ?_ ?_
    rotate_left
    · show Act.put _ (some 41) _ = _
      simp only [Act.put, sA, sZ, sS, i64_w, i32_w]
      rfl
    refine pure_ (i := 11) (N := some 30) (v := ?_) (a' := ?_) #[tT, tT, tT, tT, tT, tT, tT, tT, tT, tT, tT, tT, fF, fF, fF, fF] rfl rfl (by kernel_rfl) (fun _ _ _ h => h) (Or.inl ⟨by rfl, ?_⟩) ?_ ?_
    rotate_left
    · intro w'
      go_simp
      with_reducible rfl
    rotate_left
    · simp only [Act.put, sA, sZ, sS, i64_w, i32_w]
      rfl
    refine pure_ (i := 12) (N := some 42) (v := ?_) (a' := ?_) #[tT, tT, tT, tT, tT, tT, tT, tT, tT, tT, tT, tT, tT, fF, fF, fF] rfl rfl (by kernel_rfl) (fun _ _ _ h => h) (Or.inl ⟨by rfl, ?_⟩) ?_ ?_
    rotate_left
    · intro w'
      go_simp
      with_reducible rfl
    rotate_left
    · simp only [Act.put, sA, sZ, sS, i64_w, i32_w]
      rfl
    refine pure_ (i := 13) (N := some 43) (v := ?_) (a' := ?_) #[tT, tT, tT, tT, tT, tT, tT, tT, tT, tT, tT, tT, tT, tT, fF, fF] rfl rfl (by kernel_rfl) (fun _ _ _ h => h) (Or.inl ⟨by rfl, ?_⟩) ?_ ?_
    rotate_left
    · intro w'
      go_simp
      with_reducible rfl
    rotate_left
    · simp only [Act.put, sA, sZ, sS, i64_w, i32_w]
      rfl
    refine pure_ (i := 14) (N := some 5) (v := ?_) (a' := ?_) #[tT, tT, tT, tT, tT, tT, tT, tT, tT, tT, tT, tT, tT, tT, tT, fF] rfl rfl (by kernel_rfl) (fun _ _ _ h => h) (Or.inl ⟨by rfl, ?_⟩) ?_ ?_
    rotate_left
    · intro w'
      go_simp
      with_reducible rfl
    rotate_left
    · simp only [Act.put, sA, sZ, sS, i64_w, i32_w]
      rfl
    refine pure_ (i := 15) (N := some 6) (v := ?_) (a' := ?_) #[tT, tT, tT, tT, tT, tT, tT, tT, tT, tT, tT, tT, tT, tT, tT, tT] rfl rfl (by kernel_rfl) (fun _ _ _ h => h) (Or.inl ⟨by rfl, ?_⟩) ?_ ?_
    rotate_left
    · intro w'
      go_simp
      with_reducible rfl
    rotate_left
    · simp only [Act.put, sA, sZ, sS, i64_w, i32_w]
      rfl
    refine done_ (by kernel_rfl) ?_
    have HN := Aside0.mk (show numR true ds = if badNum true ds then none else some v by unfold numR; rw [show (if true = true then [45] else []) ++ ds = 45 :: ds from rfl, hP])
    have d0 : w3.cell? ⟨r, 0, none⟩ = some (.string ⟨l.toArray⟩) := blk_cell HR3.out 0
    clear hP
    by_cases h48 : ds = [48]
    · subst h48
      have hbad : badNum true [48] = true := by decide
      rw [hbad] at HN
      go_wp2
      exact ⟨rfl, HK3.out, (fun v' h => by rw [HN.out] at h; cases h), (fun _ => rfl)⟩
    · have b48 : (ds == [48]) = false := beq_eq_false_iff_ne.2 h48
      go_wp2_with fail
      refine (Tryz.strings_HasPrefix ⟨ds.toArray⟩ ⟨#[48]⟩ _).mono ?_
      rintro e w4 ⟨rfl, hw4⟩
      rw [hw4]
      clear hw4 w4
      cases hpx : Lib.hasPrefix (ByteArray.mk ds.toArray).data.toList (ByteArray.mk #[48]).data.toList with
      | true =>
        have hbad : badNum true ds = true := by
          unfold badNum
          have h2 : [48].isPrefixOf ds = true := hpx
          rw [h2, show (ds != [48]) = true by simp [h48]]
          rfl
        rw [hbad] at HN
        clear hbad
        go_wp2
        exact ⟨rfl, HK3.out, (fun v' h => by rw [HN.out] at h; cases h), (fun _ => rfl)⟩
      | false =>
        have hbad : badNum true ds = false := by
          unfold badNum
          have h2 : [48].isPrefixOf ds = false := hpx
          rw [h2, b48]
          simp
        rw [hbad] at HN
        clear hbad
        go_wp2
        go_ret
        refine ⟨HK3.out, (fun v' h => ?_), (fun h => by rw [HN.out] at h; cases h)⟩
        rw [HN.out] at h
        cases h
        exact ⟨rfl, by rw [← HM.out]; exact HR3.out⟩
  | range =>
    obtain ⟨ev, hev1, hev2⟩ := (hte _ (HK2.out.drew)).2
    refine (Tryz.strconv_ParseInt_10_at64_range ⟨(45 :: ds).toArray⟩ (by omega) hP ev _ hev1 hev2).mono ?_
    rintro e w3 ⟨N, rfl, hN1, hN2, hb3'⟩
    have hb3 : Below w2.heap.size w2 w3 := (drew_below w2).trans hb3'
    have HK3 := Aside0.mk (HK2.out.trans (KeepR.of_below hb3 (blk_lt HR2.out)))
    have HR3 := Aside0.mk (RD.below HR2.out hb3)
    have HN := Aside0.mk (show numR true ds = none by unfold numR; rw [show (if true = true then [45] else []) ++ ds = 45 :: ds from rfl, hP])
    refine ⟨_, rfl, hK.out _ _ ⟨blk_cell HR3.out 0, blk_cell HR3.out 1⟩ fun _ => ?_⟩
    clear hK K hb3 hb3' hN1 hN2 hP
    refine norm_ (a' := ?_) ?_ ?_
    rotate_left
    · show Act.put _ (some 41) _ = _
      simp only [Act.put, sA, sZ, sS, i64_w, i32_w]
      rfl
    refine pure_ (i := 11) (N := some 30) (v := ?_) (a' := ?_) #[tT, tT, tT, tT, tT, tT, tT, tT, tT, tT, tT, tT, fF, fF, fF, fF] rfl rfl (by kernel_rfl) (fun _ _ _ h => h) (Or.inl ⟨by rfl, ?_⟩) ?_ ?_
    rotate_left
    · intro w'
      go_simp
      with_reducible rfl
    rotate_left
    · simp only [Act.put, sA, sZ, sS, i64_w, i32_w]
      rfl
    refine pure_ (i := 12) (N := some 42) (v := ?_) (a' := ?_) #[tT, tT, tT, tT, tT, tT, tT, tT, tT, tT, tT, tT, tT, fF, fF, fF] rfl rfl (by kernel_rfl) (fun _ _ _ h => h) (Or.inl ⟨by rfl, ?_⟩) ?_ ?_
    rotate_left
    · intro w'
      go_simp
      with_reducible rfl
    rotate_left
    · simp only [Act.put, sA, sZ, sS, i64_w, i32_w]
      rfl
    refine pure_ (i := 13) (N := some 43) (v := ?_) (a' := ?_) #[tT, tT, tT, tT, tT, tT, tT, tT, tT, tT, tT, tT, tT, tT, fF, fF] rfl rfl (by kernel_rfl) (fun _ _ _ h => h) (Or.inl ⟨by rfl, ?_⟩) ?_ ?_
    rotate_left
    · intro w'
      go_simp
      with_reducible rfl
    rotate_left
    · simp only [Act.put, sA, sZ, sS, i64_w, i32_w]
      rfl
    refine pure_ (i := 14) (N := some 5) (v := ?_) (a' := ?_) #[tT, tT, tT, tT, tT, tT, tT, tT, tT, tT, tT, tT, tT, tT, tT, fF] rfl rfl (by kernel_rfl) (fun _ _ _ h => h) (Or.inl ⟨by rfl, ?_⟩) ?_ ?_
    rotate_left
    · intro w'
      go_simp
      with_reducible rfl
    rotate_left
    · simp only [Act.put, sA, sZ, sS, i64_w, i32_w]
      rfl
    refine pure_ (i := 15) (N := some 6) (v := ?_) (a' := ?_) #[tT, tT, tT, tT, tT, tT, tT, tT, tT, tT, tT, tT, tT, tT, tT, tT] rfl rfl (by kernel_rfl) (fun _ _ _ h => h) (Or.inl ⟨by rfl, ?_⟩) ?_ ?_
    rotate_left
    · intro w'
      go_simp
      with_reducible rfl
    rotate_left
    · simp only [Act.put, sA, sZ, sS, i64_w, i32_w]
      rfl
    refine done_ (by kernel_rfl) ?_
    go_wp2
    exact ⟨rfl, HK3.out, (fun v' h => by rw [HN.out] at h; cases h), (fun _ => rfl)⟩
  | _ =>
    obtain ⟨ev, hev1, hev2⟩ := (hte _ (HK2.out.drew)).1
    refine (Tryz.strconv_ParseInt_10_at64_syntax ⟨(45 :: ds).toArray⟩ (by omega) hP ev _ hev1 hev2).mono ?_
    rintro e w3 ⟨N, rfl, hN1, hN2, hb3'⟩
    have hb3 : Below w2.heap.size w2 w3 := (drew_below w2).trans hb3'
    have HK3 := Aside0.mk (HK2.out.trans (KeepR.of_below hb3 (blk_lt HR2.out)))
    have HR3 := Aside0.mk (RD.below HR2.out hb3)
    have HN := Aside0.mk (show numR true ds = none by unfold numR; rw [show (if true = true then [45] else []) ++ ds = 45 :: ds from rfl, hP])
    refine ⟨_, rfl, hK.out _ _ ⟨blk_cell HR3.out 0, blk_cell HR3.out 1⟩ fun _ => ?_⟩
    clear hK K hb3 hb3' hN1 hN2 hP
    refine norm_ (a' := ?_) ?_ ?_
    rotate_left
    · show Act.put _ (some 41) _ = _
      simp only [Act.put, sA, sZ, sS, i64_w, i32_w]
      rfl
    refine pure_ (i := 11) (N := some 30) (v := ?_) (a' := ?_) #[tT, tT, tT, tT, tT, tT, tT, tT, tT, tT, tT, tT, fF, fF, fF, fF] rfl rfl (by kernel_rfl) (fun _ _ _ h => h) (Or.inl ⟨by rfl, ?_⟩) ?_ ?_
    rotate_left
    · intro w'
      go_simp
      with_reducible rfl
    rotate_left
    · simp only [Act.put, sA, sZ, sS, i64_w, i32_w]
      rfl
    refine pure_ (i := 12) (N := some 42) (v := ?_) (a' := ?_) #[tT, tT, tT, tT, tT, tT, tT, tT, tT, tT, tT, tT, tT, fF, fF, fF] rfl rfl (by kernel_rfl) (fun _ _ _ h => h) (Or.inl ⟨by rfl, ?_⟩) ?_ ?_
    rotate_left
    · intro w'
      go_simp
      with_reducible rfl
    rotate_left
    · simp only [Act.put, sA, sZ, sS, i64_w, i32_w]
      rfl
    refine pure_ (i := 13) (N := some 43) (v := ?_) (a' := ?_) #[tT, tT, tT, tT, tT, tT, tT, tT, tT, tT, tT, tT, tT, tT, fF, fF] rfl rfl (by kernel_rfl) (fun _ _ _ h => h) (Or.inl ⟨by rfl, ?_⟩) ?_ ?_
    rotate_left
    · intro w'
      go_simp
      with_reducible rfl
    rotate_left
    · simp only [Act.put, sA, sZ, sS, i64_w, i32_w]
      rfl
    refine pure_ (i := 14) (N := some 5) (v := ?_) (a' := ?_) #[tT, tT, tT, tT, tT, tT, tT, tT, tT, tT, tT, tT, tT, tT, tT, fF] rfl rfl (by kernel_rfl) (fun _ _ _ h => h) (Or.inl ⟨by rfl, ?_⟩) ?_ ?_
    rotate_left
    · intro w'
      go_simp
      with_reducible rfl
    rotate_left
    · simp only [Act.put, sA, sZ, sS, i64_w, i32_w]
      rfl
    refine pure_ (i := 15) (N := some 6) (v := ?_) (a' := ?_) #[tT, tT, tT, tT, tT, tT, tT, tT, tT, tT, tT, tT, tT, tT, tT, tT] rfl rfl (by kernel_rfl) (fun _ _ _ h => h) (Or.inl ⟨by rfl, ?_⟩) ?_ ?_
    rotate_left
    · intro w'
      go_simp
      with_reducible rfl
    rotate_left
    · simp only [Act.put, sA, sZ, sS, i64_w, i32_w]
      rfl
    refine done_ (by kernel_rfl) ?_
    go_wp2
    exact ⟨rfl, HK3.out, (fun v' h => by rw [HN.out] at h; cases h), (fun _ => rfl)⟩
set_option maxRecDepth 100000 in
set_option maxHeartbeats 2000000 in
theorem number_pos (r : Nat) (l : List UInt8) (at' : Nat) (ds : List UInt8) (w : World) (hr : RD r l at' w) (hat : at' < l.length) (hc : l[at'] ≠ 45) (hds : ds = (l.drop at').takeWhile isDigit) (hl : l.length ≤ 1000000000000) (hte : ∀ w1, KeepR r w w1 → TE w1) :
    Calls Tryz.prog 66 #[.pointer (some ⟨r, 0, none⟩)] w fun e w' => KeepR r w w' ∧
      ((∀ v, numR false ds = some v → e = .returned (.int .i64 v) ∧ RD r l (at' + ds.length) w') ∧ (numR false ds = none → e = .panicked [{ v := broken at', recovered := false }])) := by
  have HR := Aside0.mk hr
  have c0 : w.cell? ⟨r, 0, none⟩ = some (.string ⟨l.toArray⟩) := blk_cell hr 0
  have c1 : w.cell? ⟨r, 1, none⟩ = some (.int .i64 at') := blk_cell hr 1
  have f1 := blk_frozen hr 1
  have hlt : (at' : Int) < (l.length : Int) := by omega
  have hsz : (ByteArray.mk l.toArray).size = l.length := by simp [ByteArray.size]
  have hci : ¬ ((l[at'].toNat : Nat) : Int) = 45 := fun e => hc (UInt8.toNat_inj.1 (by show l[at'].toNat = 45; omega))
  clear hr
  go_enter Tryz.func66, Tryz.ntmps66
  go_wp2_with fail
  refine start_ (n := 10) (S := fun w' => w' = w.drew) (ds := []) #[fF, fF, fF, fF, fF, fF, fF, fF, fF, fF] (by kernel_rfl) rfl rfl rfl (fun hHeld => ?_)
  refine pure_ (i := 0) (N := some 11) (v := ?_) (a' := ?_) #[tT, fF, fF, fF, fF, fF, fF, fF, fF, fF] rfl rfl (by kernel_rfl) (fun _ _ _ h => h) (Or.inl ⟨by rfl, ?_⟩) ?_ ?_
  rotate_left
  · intro w'
    go_simp
    with_reducible rfl
  rotate_left
  · simp only [Act.put, sA, sZ, sS, i64_w, i32_w]
    rfl
  refine pure_ (i := 1) (N := some 12) (v := ?_) (a' := ?_) #[tT, tT, fF, fF, fF, fF, fF, fF, fF, fF] rfl rfl (by kernel_rfl) (fun _ _ _ h => h) (Or.inl ⟨by rfl, ?_⟩) ?_ ?_
  rotate_left
  · intro w'
    go_simp
    with_reducible rfl
  rotate_left
  · simp only [Act.put, sA, sZ, sS, i64_w, i32_w]
    rfl
  refine pure_ (i := 2) (N := some 13) (v := ?_) (a' := ?_) #[tT, tT, tT, fF, fF, fF, fF, fF, fF, fF] rfl rfl (by kernel_rfl) (fun _ _ _ h => h) (Or.inl ⟨by rfl, ?_⟩) ?_ ?_
  rotate_left
  · intro w'
    go_simp
    with_reducible rfl
  rotate_left
  · simp only [Act.put, sA, sZ, sS, i64_w, i32_w]
    rfl
  refine take_ (i := 3) (N := some 14) (v := ?_) (a' := ?_) #[tT, tT, tT, tT, fF, fF, fF, fF, fF, fF] rfl rfl (by kernel_rfl) (fun _ _ _ h => h) (Or.inl ⟨by rfl, ?_⟩) hHeld ?_ ?_
  rotate_left
  · rintro w' rfl
    go_simp
    with_reducible rfl
  rotate_left
  · simp only [Act.put, sA, sZ, sS, i64_w, i32_w]
    rfl
  refine pure_ (i := 4) (N := some 15) (v := ?_) (a' := ?_) #[tT, tT, tT, tT, tT, fF, fF, fF, fF, fF] rfl rfl (by kernel_rfl) (fun _ _ _ h => h) (Or.inl ⟨by rfl, ?_⟩) ?_ ?_
  rotate_left
  · intro w'
    go_simp
    with_reducible rfl
  rotate_left
  · simp only [Act.put, sA, sZ, sS, i64_w, i32_w]
    rfl
  refine pure_ (i := 5) (N := some 16) (v := ?_) (a' := ?_) #[tT, tT, tT, tT, tT, tT, fF, fF, fF, fF] rfl rfl (by kernel_rfl) (fun _ _ _ h => h) (Or.inl ⟨by rfl, ?_⟩) ?_ ?_
  rotate_left
  · intro w'
    go_simp
    with_reducible rfl
  rotate_left
  · simp only [Act.put, sA, sZ, sS, i64_w, i32_w]
    rfl
  refine pure_ (i := 6) (N := some 17) (v := ?_) (a' := ?_) #[tT, tT, tT, tT, tT, tT, tT, fF, fF, fF] rfl rfl (by kernel_rfl) (fun _ _ _ h => h) (Or.inl ⟨by rfl, ?_⟩) ?_ ?_
  rotate_left
  · intro w'
    go_simp
    with_reducible rfl
  rotate_left
  · simp only [Act.put, sA, sZ, sS, i64_w, i32_w]
    rfl
  refine take_ (i := 7) (N := some 18) (v := ?_) (a' := ?_) #[tT, tT, tT, tT, tT, tT, tT, tT, fF, fF] rfl rfl (by kernel_rfl) (fun _ _ _ h => h) (Or.inl ⟨by rfl, ?_⟩) hHeld ?_ ?_
  rotate_left
  · rintro w' rfl
    go_simp
    with_reducible rfl
  rotate_left
  · simp only [Act.put, sA, sZ, sS, i64_w, i32_w]
    rfl
  refine pure_ (i := 8) (N := some 19) (v := ?_) (a' := ?_) #[tT, tT, tT, tT, tT, tT, tT, tT, tT, fF] rfl rfl (by kernel_rfl) (fun _ _ _ h => h) (Or.inl ⟨by rfl, ?_⟩) ?_ ?_
  rotate_left
  · intro w'
    go_simp
    with_reducible rfl
  rotate_left
  · simp only [Act.put, sA, sZ, sS, i64_w, i32_w]
    rfl
  refine pure_ (i := 9) (N := some 20) (v := ?_) (a' := ?_) #[tT, tT, tT, tT, tT, tT, tT, tT, tT, tT] rfl rfl (by kernel_rfl) (fun _ _ _ h => h) (Or.inl ⟨by rfl, ?_⟩) ?_ ?_
  rotate_left
  · intro w'
    go_simp
    with_reducible rfl
  rotate_left
  · simp only [Act.put, sA, sZ, sS, i64_w, i32_w]
    rfl
  refine done_ (by kernel_rfl) ?_
  go_wp2_with fail
  have hrd : RD r l at' w.drew := HR.out
  refine (while_calls r l at' 65 isDigit _ digit_enters digit_calls hrd (by omega) hl).mono ?_
  rw [← hds]
  rintro e w2 ⟨rfl, hr2, hk2⟩
  have hdl : at' + ds.length ≤ l.length := by
    have h := (List.takeWhile_sublist (l := l.drop at') isDigit).length_le
    rw [← hds, List.length_drop] at h
    omega
  have hwhole : (ByteArray.mk l.toArray).extract at' (at' + ds.length) = ⟨ds.toArray⟩ := by
    have hpre : ds <+: l.drop at' := by rw [hds]; exact List.takeWhile_prefix _
    have htk : (l.drop at').take ds.length = ds := (List.prefix_iff_eq_take.1 hpre).symm
    rw [ext_seg, show at' + ds.length - at' = ds.length by omega, htk]
  obtain ⟨m, hm⟩ : ∃ m, m = at' + ds.length := ⟨_, rfl⟩
  rw [← hm] at hr2 hwhole
  have hKK : KeepR r w w.drew := (KeepR.refl r w).drew
  have HK2 := Aside0.mk (hKK.trans hk2)
  have HR2 := Aside0.mk hr2
  have HM := Aside0.mk hm
  have HWH := Aside0.mk hwhole
  have d0 : w2.cell? ⟨r, 0, none⟩ = some (.string ⟨l.toArray⟩) := blk_cell hr2 0
  have d1 : w2.cell? ⟨r, 1, none⟩ = some (.int .i64 m) := blk_cell hr2 1
  have hml : m ≤ l.length := by omega
  have ham : at' ≤ m := by omega
  have ham' : (at' : Int) ≤ (m : Int) := by omega
  have hml' : (m : Int) ≤ (l.length : Int) := by omega
  have HCI := Aside0.mk hci
  clear hr2 hk2 hKK hwhole hm c0 c1 f1 hds
  go_wp2_with fail
  refine start_ (n := 16) (S := fun w' => w'.cell? ⟨r, 0, none⟩ = some (.string ⟨l.toArray⟩) ∧ w'.cell? ⟨r, 1, none⟩ = some (.int .i64 m)) (ds := []) #[fF, fF, fF, fF, fF, fF, fF, fF, fF, fF, fF, fF, fF, fF, fF, fF] (by kernel_rfl) rfl rfl ⟨d0, d1⟩ (fun hHeld => ?_)
  refine pure_ (i := 0) (N := some 31) (v := ?_) (a' := ?_) #[tT, fF, fF, fF, fF, fF, fF, fF, fF, fF, fF, fF, fF, fF, fF, fF] rfl rfl (by kernel_rfl) (fun _ _ _ h => h) (Or.inl ⟨by rfl, ?_⟩) ?_ ?_
  rotate_left
  · intro w'
    go_simp
    with_reducible rfl
  rotate_left
  · simp only [Act.put, sA, sZ, sS, i64_w, i32_w]
    rfl
  refine pure_ (i := 1) (N := some 32) (v := ?_) (a' := ?_) #[tT, tT, fF, fF, fF, fF, fF, fF, fF, fF, fF, fF, fF, fF, fF, fF] rfl rfl (by kernel_rfl) (fun _ _ _ h => h) (Or.inl ⟨by rfl, ?_⟩) ?_ ?_
  rotate_left
  · intro w'
    go_simp
    with_reducible rfl
  rotate_left
  · simp only [Act.put, sA, sZ, sS, i64_w, i32_w]
    rfl
  refine pure_ (i := 2) (N := some 33) (v := ?_) (a' := ?_) #[tT, tT, tT, fF, fF, fF, fF, fF, fF, fF, fF, fF, fF, fF, fF, fF] rfl rfl (by kernel_rfl) (fun _ _ _ h => h) (Or.inl ⟨by rfl, ?_⟩) ?_ ?_
  rotate_left
  · intro w'
    go_simp
    with_reducible rfl
  rotate_left
  · simp only [Act.put, sA, sZ, sS, i64_w, i32_w]
    rfl
  refine take_ (i := 3) (N := some 34) (v := ?_) (a' := ?_) #[tT, tT, tT, tT, fF, fF, fF, fF, fF, fF, fF, fF, fF, fF, fF, fF] rfl rfl (by kernel_rfl) (fun _ _ _ h => h) (Or.inl ⟨by rfl, ?_⟩) hHeld ?_ ?_
  rotate_left
  · rintro w' ⟨s0, s1⟩
    go_simp
    with_reducible rfl
  rotate_left
  · simp only [Act.put, sA, sZ, sS, i64_w, i32_w]
    rfl
  refine pure_ (i := 4) (N := some 35) (v := ?_) (a' := ?_) #[tT, tT, tT, tT, tT, fF, fF, fF, fF, fF, fF, fF, fF, fF, fF, fF] rfl rfl (by kernel_rfl) (fun _ _ _ h => h) (Or.inl ⟨by rfl, ?_⟩) ?_ ?_
  rotate_left
  · intro w'
    go_simp
    with_reducible rfl
  rotate_left
  · simp only [Act.put, sA, sZ, sS, i64_w, i32_w]
    rfl
  refine pure_ (i := 5) (N := some 36) (v := ?_) (a' := ?_) #[tT, tT, tT, tT, tT, tT, fF, fF, fF, fF, fF, fF, fF, fF, fF, fF] rfl rfl (by kernel_rfl) (fun _ _ _ h => h) (Or.inl ⟨by rfl, ?_⟩) ?_ ?_
  rotate_left
  · intro w'
    go_simp
    with_reducible rfl
  rotate_left
  · simp only [Act.put, sA, sZ, sS, i64_w, i32_w]
    rfl
  refine pure_ (i := 6) (N := some 37) (v := ?_) (a' := ?_) #[tT, tT, tT, tT, tT, tT, tT, fF, fF, fF, fF, fF, fF, fF, fF, fF] rfl rfl (by kernel_rfl) (fun _ _ _ h => h) (Or.inl ⟨by rfl, ?_⟩) ?_ ?_
  rotate_left
  · intro w'
    go_simp
    with_reducible rfl
  rotate_left
  · simp only [Act.put, sA, sZ, sS, i64_w, i32_w]
    rfl
  refine pure_ (i := 7) (N := some 38) (v := ?_) (a' := ?_) #[tT, tT, tT, tT, tT, tT, tT, tT, fF, fF, fF, fF, fF, fF, fF, fF] rfl rfl (by kernel_rfl) (fun _ _ _ h => h) (Or.inl ⟨by rfl, ?_⟩) ?_ ?_
  rotate_left
  · intro w'
    go_simp
    with_reducible rfl
  rotate_left
  · simp only [Act.put, sA, sZ, sS, i64_w, i32_w]
    rfl
  refine take_ (i := 8) (N := some 39) (v := ?_) (a' := ?_) #[tT, tT, tT, tT, tT, tT, tT, tT, tT, fF, fF, fF, fF, fF, fF, fF] rfl rfl (by kernel_rfl) (fun _ _ _ h => h) (Or.inl ⟨by rfl, ?_⟩) hHeld ?_ ?_
  rotate_left
  · rintro w' ⟨s0, s1⟩
    go_simp
    with_reducible rfl
  rotate_left
  · simp only [Act.put, sA, sZ, sS, i64_w, i32_w]
    rfl
  refine pure_ (i := 9) (N := some 40) (v := ?_) (a' := ?_) #[tT, tT, tT, tT, tT, tT, tT, tT, tT, tT, fF, fF, fF, fF, fF, fF] rfl rfl (by kernel_rfl) (fun _ _ _ h => h) (Or.inl ⟨by rfl, ?_⟩) ?_ ?_
  rotate_left
  · intro w'
    go_simp
    with_reducible rfl
  rotate_left
  · simp only [Act.put, sA, sZ, sS, i64_w, i32_w]
    rfl
  refine one_ (i := 10) (N := some 41) #[tT, tT, tT, tT, tT, tT, tT, tT, tT, tT, tT, fF, fF, fF, fF, fF] rfl rfl (by kernel_rfl) (by decide) (fun K hK => ?_)
  refine goes_ Tryz.func84 (by kernel_rfl) rfl #[.string ((ByteArray.mk l.toArray).extract at' m), .int .i64 10, .int .i64 64] (by rfl) rfl rfl (by simp only [List.map_toArray, List.map_cons, List.map_nil]; rfl) ?_
  rw [HWH.out]
  have hwl : (ByteArray.mk ds.toArray).size ≤ 1000000000000 := by rw [show (ByteArray.mk ds.toArray).size = ds.length by simp [ByteArray.size]]; have := HM.out; omega
  cases hP : Lib.parseIntB 64 ds with
  | ok v =>
    refine (Tryz.strconv_ParseInt_10_at64_ok ⟨ds.toArray⟩ (by omega) v hP _).mono ?_
    rintro e w3 ⟨rfl, hw3⟩
    have hb3 : Below w2.heap.size w2 w3 := by
      rcases hw3 with rfl | ⟨t, rfl⟩
      · exact drew_below w2
      · exact (drew_below w2).trans (bytes_new w2.drew 5 t)
    have HK3 := Aside0.mk (HK2.out.trans (KeepR.of_below hb3 (blk_lt HR2.out)))
    have HR3 := Aside0.mk (RD.below HR2.out hb3)
    refine ⟨_, rfl, hK.out _ _ ⟨blk_cell HR3.out 0, blk_cell HR3.out 1⟩ fun _ => ?_⟩
    clear hK K hw3 hb3
    refine norm_ (a' := ?_) ?_ ?_
    rotate_left
    · show Act.put _ (some 41) _ = _
      simp only [Act.put, sA, sZ, sS, i64_w, i32_w]
      rfl
    refine pure_ (i := 11) (N := some 30) (v := ?_) (a' := ?_) #[tT, tT, tT, tT, tT, tT, tT, tT, tT, tT, tT, tT, fF, fF, fF, fF] rfl rfl (by kernel_rfl) (fun _ _ _ h => h) (Or.inl ⟨by rfl, ?_⟩) ?_ ?_
    rotate_left
    · intro w'
      go_simp
      with_reducible rfl
    rotate_left
    · simp only [Act.put, sA, sZ, sS, i64_w, i32_w]
      rfl
    refine pure_ (i := 12) (N := some 42) (v := ?_) (a' := ?_) #[tT, tT, tT, tT, tT, tT, tT, tT, tT, tT, tT, tT, tT, fF, fF, fF] rfl rfl (by kernel_rfl) (fun _ _ _ h => h) (Or.inl ⟨by rfl, ?_⟩) ?_ ?_
    rotate_left
    · intro w'
      go_simp
      with_reducible rfl
    rotate_left
    · simp only [Act.put, sA, sZ, sS, i64_w, i32_w]
      rfl
    refine pure_ (i := 13) (N := some 43) (v := ?_) (a' := ?_) #[tT, tT, tT, tT, tT, tT, tT, tT, tT, tT, tT, tT, tT, tT, fF, fF] rfl rfl (by kernel_rfl) (fun _ _ _ h => h) (Or.inl ⟨by rfl, ?_⟩) ?_ ?_
    rotate_left
    · intro w'
      go_simp
      with_reducible rfl
    rotate_left
    · simp only [Act.put, sA, sZ, sS, i64_w, i32_w]
      rfl
    refine pure_ (i := 14) (N := some 5) (v := ?_) (a' := ?_) #[tT, tT, tT, tT, tT, tT, tT, tT, tT, tT, tT, tT, tT, tT, tT, fF] rfl rfl (by kernel_rfl) (fun _ _ _ h => h) (Or.inl ⟨by rfl, ?_⟩) ?_ ?_
    rotate_left
    · intro w'
      go_simp
      with_reducible rfl
    rotate_left
    · simp only [Act.put, sA, sZ, sS, i64_w, i32_w]
      rfl
    refine pure_ (i := 15) (N := some 6) (v := ?_) (a' := ?_) #[tT, tT, tT, tT, tT, tT, tT, tT, tT, tT, tT, tT, tT, tT, tT, tT] rfl rfl (by kernel_rfl) (fun _ _ _ h => h) (Or.inl ⟨by rfl, ?_⟩) ?_ ?_
    rotate_left
    · intro w'
      go_simp
      with_reducible rfl
    rotate_left
    · simp only [Act.put, sA, sZ, sS, i64_w, i32_w]
      rfl
    refine done_ (by kernel_rfl) ?_
    have HN := Aside0.mk (show numR false ds = if badNum false ds then none else some v by unfold numR; rw [show (if false = true then [45] else []) ++ ds = ds from rfl, hP])
    have d0 : w3.cell? ⟨r, 0, none⟩ = some (.string ⟨l.toArray⟩) := blk_cell HR3.out 0
    clear hP
    by_cases h48 : ds = [48]
    · subst h48
      have hbad : badNum false [48] = false := by decide
      rw [hbad] at HN
      go_wp2
      go_ret
      refine ⟨HK3.out, (fun v' h => ?_), (fun h => by rw [HN.out] at h; cases h)⟩
      rw [HN.out] at h
      cases h
      exact ⟨rfl, by rw [← HM.out]; exact HR3.out⟩
    · have b48 : (ds == [48]) = false := beq_eq_false_iff_ne.2 h48
      go_wp2_with fail
      refine (Tryz.strings_HasPrefix ⟨ds.toArray⟩ ⟨#[48]⟩ _).mono ?_
      rintro e w4 ⟨rfl, hw4⟩
      rw [hw4]
      clear hw4 w4
      cases hpx : Lib.hasPrefix (ByteArray.mk ds.toArray).data.toList (ByteArray.mk #[48]).data.toList with
      | true =>
        have hbad : badNum false ds = true := by
          unfold badNum
          have h2 : [48].isPrefixOf ds = true := hpx
          rw [h2, show (ds != [48]) = true by simp [h48]]
          rfl
        rw [hbad] at HN
        clear hbad
        go_wp2
        exact ⟨rfl, HK3.out, (fun v' h => by rw [HN.out] at h; cases h), (fun _ => rfl)⟩
      | false =>
        have hbad : badNum false ds = false := by
          unfold badNum
          have h2 : [48].isPrefixOf ds = false := hpx
          rw [h2, b48]
          simp
        rw [hbad] at HN
        clear hbad
        go_wp2
        go_ret
        refine ⟨HK3.out, (fun v' h => ?_), (fun h => by rw [HN.out] at h; cases h)⟩
        rw [HN.out] at h
        cases h
        exact ⟨rfl, by rw [← HM.out]; exact HR3.out⟩
  | range =>
    obtain ⟨ev, hev1, hev2⟩ := (hte _ (HK2.out.drew)).2
    refine (Tryz.strconv_ParseInt_10_at64_range ⟨ds.toArray⟩ (by omega) hP ev _ hev1 hev2).mono ?_
    rintro e w3 ⟨N, rfl, hN1, hN2, hb3'⟩
    have hb3 : Below w2.heap.size w2 w3 := (drew_below w2).trans hb3'
    have HK3 := Aside0.mk (HK2.out.trans (KeepR.of_below hb3 (blk_lt HR2.out)))
    have HR3 := Aside0.mk (RD.below HR2.out hb3)
    have HN := Aside0.mk (show numR false ds = none by unfold numR; rw [show (if false = true then [45] else []) ++ ds = ds from rfl, hP])
    refine ⟨_, rfl, hK.out _ _ ⟨blk_cell HR3.out 0, blk_cell HR3.out 1⟩ fun _ => ?_⟩
    clear hK K hb3 hb3' hN1 hN2 hP
    refine norm_ (a' := ?_) ?_ ?_
    rotate_left
    · show Act.put _ (some 41) _ = _
      simp only [Act.put, sA, sZ, sS, i64_w, i32_w]
      rfl
    refine pure_ (i := 11) (N := some 30) (v := ?_) (a' := ?_) #[tT, tT, tT, tT, tT, tT, tT, tT, tT, tT, tT, tT, fF, fF, fF, fF] rfl rfl (by kernel_rfl) (fun _ _ _ h => h) (Or.inl ⟨by rfl, ?_⟩) ?_ ?_
    rotate_left
    · intro w'
      go_simp
      with_reducible rfl
    rotate_left
    · simp only [Act.put, sA, sZ, sS, i64_w, i32_w]
      rfl
    refine pure_ (i := 12) (N := some 42) (v := ?_) (a' := ?_) #[tT, tT, tT, tT, tT, tT, tT, tT, tT, tT, tT, tT, tT, fF, fF, fF] rfl rfl (by kernel_rfl) (fun _ _ _ h => h) (Or.inl ⟨by rfl, ?_⟩) ?_ ?_
    rotate_left
    · intro w'
      go_simp
      with_reducible rfl
    rotate_left
    · simp only [Act.put, sA, sZ, sS, i64_w, i32_w]
      rfl
    refine pure_ (i := 13) (N := some 43) (v := ?_) (a' := ?_) #[tT, tT, tT, tT, tT, tT, tT, tT, tT, tT, tT, tT, tT, tT, fF, fF] rfl rfl (by kernel_rfl) (fun _ _ _ h => h) (Or.inl ⟨by rfl, ?_⟩) ?_ ?_
    rotate_left
    · intro w'
      go_simp
      with_reducible rfl
    rotate_left
    · simp only [Act.put, sA, sZ, sS, i64_w, i32_w]
      rfl
    refine pure_ (i := 14) (N := some 5) (v := ?_) (a' := ?_) #[tT, tT, tT, tT, tT, tT, tT, tT, tT, tT, tT, tT, tT, tT, tT, fF] rfl rfl (by kernel_rfl) (fun _ _ _ h => h) (Or.inl ⟨by rfl, ?_⟩) ?_ ?_
    rotate_left
    · intro w'
      go_simp
      with_reducible rfl
    rotate_left
    · simp only [Act.put, sA, sZ, sS, i64_w, i32_w]
      rfl
    refine pure_ (i := 15) (N := some 6) (v := ?_) (a' := ?_) #[tT, tT, tT, tT, tT, tT, tT, tT, tT, tT, tT, tT, tT, tT, tT, tT] rfl rfl (by kernel_rfl) (fun _ _ _ h => h) (Or.inl ⟨by rfl, ?_⟩) ?_ ?_
    rotate_left
    · intro w'
      go_simp
      with_reducible rfl
    rotate_left
    · simp only [Act.put, sA, sZ, sS, i64_w, i32_w]
      rfl
    refine done_ (by kernel_rfl) ?_
    go_wp2
    exact ⟨rfl, HK3.out, (fun v' h => by rw [HN.out] at h; cases h), (fun _ => rfl)⟩
  | _ =>
    obtain ⟨ev, hev1, hev2⟩ := (hte _ (HK2.out.drew)).1
    refine (Tryz.strconv_ParseInt_10_at64_syntax ⟨ds.toArray⟩ (by omega) hP ev _ hev1 hev2).mono ?_
    rintro e w3 ⟨N, rfl, hN1, hN2, hb3'⟩
    have hb3 : Below w2.heap.size w2 w3 := (drew_below w2).trans hb3'
    have HK3 := Aside0.mk (HK2.out.trans (KeepR.of_below hb3 (blk_lt HR2.out)))
    have HR3 := Aside0.mk (RD.below HR2.out hb3)
    have HN := Aside0.mk (show numR false ds = none by unfold numR; rw [show (if false = true then [45] else []) ++ ds = ds from rfl, hP])
    refine ⟨_, rfl, hK.out _ _ ⟨blk_cell HR3.out 0, blk_cell HR3.out 1⟩ fun _ => ?_⟩
    clear hK K hb3 hb3' hN1 hN2 hP
    refine norm_ (a' := ?_) ?_ ?_
    rotate_left
    · show Act.put _ (some 41) _ = _
      simp only [Act.put, sA, sZ, sS, i64_w, i32_w]
      rfl
    refine pure_ (i := 11) (N := some 30) (v := ?_) (a' := ?_) #[tT, tT, tT, tT, tT, tT, tT, tT, tT, tT, tT, tT, fF, fF, fF, fF] rfl rfl (by kernel_rfl) (fun _ _ _ h => h) (Or.inl ⟨by rfl, ?_⟩) ?_ ?_
    rotate_left
    · intro w'
      go_simp
      with_reducible rfl
    rotate_left
    · simp only [Act.put, sA, sZ, sS, i64_w, i32_w]
      rfl
    refine pure_ (i := 12) (N := some 42) (v := ?_) (a' := ?_) #[tT, tT, tT, tT, tT, tT, tT, tT, tT, tT, tT, tT, tT, fF, fF, fF] rfl rfl (by kernel_rfl) (fun _ _ _ h => h) (Or.inl ⟨by rfl, ?_⟩) ?_ ?_
    rotate_left
    · intro w'
      go_simp
      with_reducible rfl
    rotate_left
    · simp only [Act.put, sA, sZ, sS, i64_w, i32_w]
      rfl
    refine pure_ (i := 13) (N := some 43) (v := ?_) (a' := ?_) #[tT, tT, tT, tT, tT, tT, tT, tT, tT, tT, tT, tT, tT, tT, fF, fF] rfl rfl (by kernel_rfl) (fun _ _ _ h => h) (Or.inl ⟨by rfl, ?_⟩) ?_ ?_
    rotate_left
    · intro w'
      go_simp
      with_reducible rfl
    rotate_left
    · simp only [Act.put, sA, sZ, sS, i64_w, i32_w]
      rfl
    refine pure_ (i := 14) (N := some 5) (v := ?_) (a' := ?_) #[tT, tT, tT, tT, tT, tT, tT, tT, tT, tT, tT, tT, tT, tT, tT, fF] rfl rfl (by kernel_rfl) (fun _ _ _ h => h) (Or.inl ⟨by rfl, ?_⟩) ?_ ?_
    rotate_left
    · intro w'
      go_simp
      with_reducible rfl
    rotate_left
    · simp only [Act.put, sA, sZ, sS, i64_w, i32_w]
      rfl
    refine pure_ (i := 15) (N := some 6) (v := ?_) (a' := ?_) #[tT, tT, tT, tT, tT, tT, tT, tT, tT, tT, tT, tT, tT, tT, tT, tT] rfl rfl (by kernel_rfl) (fun _ _ _ h => h) (Or.inl ⟨by rfl, ?_⟩) ?_ ?_
    rotate_left
    · intro w'
      go_simp
      with_reducible rfl
    rotate_left
    · simp only [Act.put, sA, sZ, sS, i64_w, i32_w]
      rfl
    refine done_ (by kernel_rfl) ?_
    go_wp2
    exact ⟨rfl, HK3.out, (fun v' h => by rw [HN.out] at h; cases h), (fun _ => rfl)⟩
end Go.Proofs.YtegppkngdkkdcaaGreatDoor.Lx
end
section
set_option linter.unusedVariables false
set_option linter.unusedSimpArgs false
namespace Go.Proofs.YtegppkngdkkdcaaGreatDoor.Lx
open Go.RowKit Go.Proofs.YtegppkngdkkdcaaGreatDoorW.PrintWords Go.Proofs.YtegppkngdkkdcaaGreatDoorW.PrintLast Go.Proofs.YtegppkngdkkdcaaGreatDoorW.PrintMore
theorem or_all : ∀ n : Nat, n < 256 → bits BinOp.or IntKind.u8 (n : Int) 32 = ((n ||| 32 : Nat) : Int) := by decide +kernel
theorem lower_calls (c : UInt8) (w : World) : Calls Tryz.prog 117 #[.int .u8 c.toNat] w fun e w' => e = .returned (.int .u8 ((c.toNat ||| 32 : Nat) : Int)) ∧ w' = w := by
  rw [← or_all c.toNat c.toNat_lt]
  go_enter Tryz.func117, Tryz.ntmps117
  go_wp2
  go_ret
  exact ⟨rfl, rfl⟩
theorem lower_95 (w : World) : Calls Tryz.prog 117 #[.int .u8 95] w fun e w' => e = .returned (.int .u8 127) ∧ w' = w := lower_calls 95 w
theorem or_lt : ∀ n : Nat, n < 256 → (n ||| 32) < 256 := by decide +kernel
set_option maxRecDepth 100000 in
set_option maxHeartbeats 4000000 in
theorem ParseUint16_calls (t : List UInt8) (ht : t.length = 4) (w : World) :
    Calls Tryz.prog 108 #[.string ⟨t.toArray⟩, .int .i64 16, .int .i64 16] w fun e w' => Below w.heap.size w w' ∧
      ((∀ n, hexN 0 t = some n → e = .returned (.tuple #[.int .u64 n, .nilIface]) ∧ n ≤ 65535) ∧ (hexN 0 t = none → e = .returned (.tuple #[.int .u64 0, .iface 141 (.int .i64 2)]))) := by
  have hsz : (ByteArray.mk t.toArray).size = 4 := by rw [show (ByteArray.mk t.toArray).size = t.length by simp [ByteArray.size], ht]
  have hne : t.isEmpty = false := by cases t with | nil => simp at ht | cons _ _ => rfl
  have hcv := Lib.run_convert_string_bytes (P := Tryz.prog) w 9 63 5 ⟨t.toArray⟩ (u := .string) Tryz.underlying9 Tryz.underlying63 Tryz.underlying5
  rw [hsz] at hcv
  have hB : ∀ j, j < 4 → (Lib.bytesWorld w 5 ⟨t.toArray⟩).cell? ⟨w.heap.size, j, none⟩ = some (.int .u8 (t.getD j 0).toNat) := fun j hj => Lib.bytesWorld_cell w 5 ⟨t.toArray⟩ j (by rw [hsz]; exact hj)
  have hbw := bytes_new w 5 ⟨t.toArray⟩
  generalize Lib.bytesWorld w 5 ⟨t.toArray⟩ = W1 at hcv hB hbw
  have HB := Aside0.mk hB
  have HBW := Aside0.mk hbw
  have hmv : IntKind.u64.wrap (IntKind.u64.wrap 65536 - 1) = 65535 := by
    rw [IntKind.wrap_u64, IntKind.wrap_u64]
    decide
  clear hB hbw
  go_enter Tryz.func108, Tryz.ntmps108
  go_wp2
  go_loopg [12, 13, 101] 4 (fun kq vu vn vi w2 => ∃ (k acc : Nat), k + kq = 4 ∧ vu = .bool false ∧ vn = .int .u64 acc ∧ vi = .int .i64 k ∧ Aside0 (acc < 16 ^ k) ∧ Aside0 (hexN 0 t = hexN acc (t.drop k)) ∧ w2 = W1)
  case atStart => exact ⟨0, 0, by omega, rfl, rfl, rfl, Aside0.mk (by decide), Aside0.mk rfl, rfl⟩
  case round =>
    obtain ⟨k, acc, hk, rfl, rfl, rfl, HA, HH, rfl⟩ := hrel
    cases gk with
    | zero =>
      obtain rfl : k = 4 := by omega
      have hacc : acc ≤ 65535 := by have := HA.out; omega
      have hh := HH.out
      rw [List.drop_eq_nil_of_le (by omega)] at hh
      have HE := Aside0.mk (show hexN 0 t = some acc from hh)
      clear hh
      go_wp2
      go_ret2
      refine ⟨HBW.out, (fun n h => ?_), (fun h => by rw [HE.out] at h; cases h)⟩
      rw [HE.out] at h
      cases h
      exact ⟨rfl, hacc⟩
    | succ k1 =>
      have hk4 : k < 4 := by omega
      have hkz : (k : Int) < 4 := by omega
      have hkt : k < t.length := by omega
      have hacc : acc ≤ 4095 := by
        have h1 := HA.out
        have h2 : 16 ^ k ≤ 16 ^ 3 := Nat.pow_le_pow_right (by omega) (by omega)
        have h3 : (16 : Nat) ^ 3 = 4096 := by decide
        omega
      obtain ⟨c, hc⟩ : ∃ c, c = t[k] := ⟨_, rfl⟩
      have hd : t.drop k = c :: t.drop (k + 1) := by rw [hc]; exact List.drop_eq_getElem_cons hkt
      have cc : wr.cell? ⟨w.heap.size, k, none⟩ = some (.int .u8 c.toNat) := by
        have h := HB.out k hk4
        rw [h, hc]
        simp [List.getD, List.getElem?_eq_getElem hkt]
      have hh := HH.out
      rw [hd] at hh
      have hc256 : c.toNat < 256 := c.toNat_lt
      have hc256' : (c.toNat : Int) < 256 := by omega
      have hlow := or_lt c.toNat hc256
      have hlowz : ((c.toNat ||| 32 : Nat) : Int) < 256 := by omega
      have haccz : (acc : Int) ≤ 4095 := by omega
      by_cases hdig : 48 ≤ c.toNat ∧ c.toNat ≤ 57
      · have hz1 : (48 : Int) ≤ (c.toNat : Int) := by omega
        have hz2 : (c.toNat : Int) ≤ 57 := by omega
        have hx : hexD c.toNat = some (c.toNat - 48) := by unfold hexD; rw [if_pos hdig]
        have HS := Aside0.mk (show hexN 0 t = hexN (acc * 16 + (c.toNat - 48)) (t.drop (k + 1)) by rw [hh, hexN, hx])
        have HAN := Aside0.mk (show acc * 16 + (c.toNat - 48) < 16 ^ (k + 1) by have := HA.out; rw [Nat.pow_succ]; omega)
        have h39 : ¬ (1152921504606846976 : Int) ≤ (acc : Int) := by omega
        clear hx hh hd hc
        go_wp2
        go_roundg k1
        case measure => omega
        case rel => exact ⟨k + 1, acc * 16 + (c.toNat - 48), by omega, rfl, by congr 1; omega, by go_num, HAN, HS, rfl⟩
      · by_cases h95 : c.toNat = 95
        · have cc' : wr.cell? ⟨w.heap.size, k, none⟩ = some (.int .u8 95) := by rw [cc, h95]; rfl
          have hx : hexD c.toNat = none := by rw [h95]; decide
          have HE := Aside0.mk (show hexN 0 t = none by rw [hh, hexN, hx])
          clear hx hh hd hc cc hdig hlow hlowz hc256 hc256' h95
          go_wp2_with fail
          refine (lower_95 _).mono ?_
          rintro e w' ⟨rfl, hw⟩
          rw [hw]
          clear hw w'
          simp only []
          go_wp2_with fail
          refine (lower_95 _).mono ?_
          rintro e w' ⟨rfl, hw⟩
          rw [hw]
          clear hw w'
          simp only []
          go_wp2
          go_ret2
          exact ⟨HBW.out, (fun n h => by rw [HE.out] at h; cases h), (fun _ => rfl)⟩
        · have h95z : ¬ (c.toNat : Int) = 95 := by omega
          by_cases h48 : 48 ≤ c.toNat
          · have hz1 : (48 : Int) ≤ (c.toNat : Int) := by omega
            have hz2 : ¬ (c.toNat : Int) ≤ 57 := by omega
            by_cases hL : 97 ≤ (c.toNat ||| 32) ∧ (c.toNat ||| 32) ≤ 122
            · have hl1 : (97 : Int) ≤ ((c.toNat ||| 32 : Nat) : Int) := by omega
              have hl2 : ((c.toNat ||| 32 : Nat) : Int) ≤ 122 := by omega
              by_cases hF : (c.toNat ||| 32) ≤ 102
              · have hx : hexD c.toNat = some ((c.toNat ||| 32) - 87) := by unfold hexD; rw [if_neg hdig, if_pos ⟨hL.1, hF⟩]
                have HS := Aside0.mk (show hexN 0 t = hexN (acc * 16 + ((c.toNat ||| 32) - 87)) (t.drop (k + 1)) by rw [hh, hexN, hx])
                have HAN := Aside0.mk (show acc * 16 + ((c.toNat ||| 32) - 87) < 16 ^ (k + 1) by have := HA.out; rw [Nat.pow_succ]; omega)
                obtain ⟨lw, hlw⟩ : ∃ lw, lw = (c.toNat ||| 32) := ⟨_, rfl⟩
                have hlc := fun w => lower_calls c w
                rw [← hlw] at hL hl1 hl2 hF HS HAN hlow hlowz
                simp only [← hlw] at hlc
                have HLC := Aside0.mk hlc
                clear hlc
                clear hx hh hd hc hlw hdig
                clear hL hlow hlowz hc256 hc256'
                go_wp2_with fail
                refine (HLC.out _).mono ?_
                rintro e w' ⟨rfl, hw⟩
                rw [hw]
                clear hw w'
                simp only []
                go_wp2_with fail
                refine (HLC.out _).mono ?_
                rintro e w' ⟨rfl, hw⟩
                rw [hw]
                clear hw w'
                simp only []
                go_wp2_with fail
                refine (HLC.out _).mono ?_
                rintro e w' ⟨rfl, hw⟩
                rw [hw]
                clear hw w'
                simp only []
                clear HLC
                have hw1 : IntKind.u8.wrap ((lw : Int) - 97) = (lw : Int) - 97 := by rw [IntKind.wrap_u8]; omega
                have hw2 : IntKind.u8.wrap ((lw : Int) - 97 + 10) = (lw : Int) - 97 + 10 := by rw [IntKind.wrap_u8]; omega
                have hFz : (lw : Int) ≤ 102 := by omega
                have h39 : ¬ (1152921504606846976 : Int) ≤ (acc : Int) := by omega
                clear hl2 hF
                go_wp2
                go_roundg k1
                case measure => omega
                case rel => exact ⟨k + 1, acc * 16 + (lw - 87), by omega, rfl, by congr 1; omega, by go_num, HAN, HS, rfl⟩
              · have hx : hexD c.toNat = none := by unfold hexD; rw [if_neg hdig, if_neg (by omega)]
                have HE := Aside0.mk (show hexN 0 t = none by rw [hh, hexN, hx])
                obtain ⟨lw, hlw⟩ : ∃ lw, lw = (c.toNat ||| 32) := ⟨_, rfl⟩
                have hlc := fun w => lower_calls c w
                rw [← hlw] at hL hl1 hl2 hF hlow hlowz
                simp only [← hlw] at hlc
                have HLC := Aside0.mk hlc
                clear hlc
                have hFz : (102 : Int) < (lw : Int) := by omega
                clear hx hh hd hc hlw hdig
                clear hL hlow hlowz hc256 hc256'
                go_wp2_with fail
                refine (HLC.out _).mono ?_
                rintro e w' ⟨rfl, hw⟩
                rw [hw]
                clear hw w'
                simp only []
                go_wp2_with fail
                refine (HLC.out _).mono ?_
                rintro e w' ⟨rfl, hw⟩
                rw [hw]
                clear hw w'
                simp only []
                go_wp2_with fail
                refine (HLC.out _).mono ?_
                rintro e w' ⟨rfl, hw⟩
                rw [hw]
                clear hw w'
                simp only []
                clear HLC
                go_wp2
                go_ret2
                exact ⟨HBW.out, (fun n h => by rw [HE.out] at h; cases h), (fun _ => rfl)⟩
            · have hx : hexD c.toNat = none := by unfold hexD; rw [if_neg hdig, if_neg (by omega)]
              have HE := Aside0.mk (show hexN 0 t = none by rw [hh, hexN, hx])
              obtain ⟨lw, hlw⟩ : ∃ lw, lw = (c.toNat ||| 32) := ⟨_, rfl⟩
              have hlc := fun w => lower_calls c w
              rw [← hlw] at hL hlow hlowz
              simp only [← hlw] at hlc
              have HLC := Aside0.mk hlc
              clear hlc
              clear hx hh hd hc hlw hdig
              by_cases hl1 : 97 ≤ lw
              · have hl1z : (97 : Int) ≤ (lw : Int) := by omega
                have hl2z : ¬ (lw : Int) ≤ 122 := by omega
                clear hL hlow hlowz hc256 hc256'
                go_wp2_with fail
                refine (HLC.out _).mono ?_
                rintro e w' ⟨rfl, hw⟩
                rw [hw]
                clear hw w'
                simp only []
                go_wp2_with fail
                refine (HLC.out _).mono ?_
                rintro e w' ⟨rfl, hw⟩
                rw [hw]
                clear hw w'
                simp only []
                clear HLC
                go_wp2
                go_ret2
                exact ⟨HBW.out, (fun n h => by rw [HE.out] at h; cases h), (fun _ => rfl)⟩
              · have hl1z : ¬ (97 : Int) ≤ (lw : Int) := by omega
                clear hL hlow hlowz hc256 hc256'
                go_wp2_with fail
                refine (HLC.out _).mono ?_
                rintro e w' ⟨rfl, hw⟩
                rw [hw]
                clear hw w'
                simp only []
                clear HLC
                go_wp2
                go_ret2
                exact ⟨HBW.out, (fun n h => by rw [HE.out] at h; cases h), (fun _ => rfl)⟩
          · have hz1 : ¬ (48 : Int) ≤ (c.toNat : Int) := by omega
            by_cases hL : 97 ≤ (c.toNat ||| 32) ∧ (c.toNat ||| 32) ≤ 122
            · have hl1 : (97 : Int) ≤ ((c.toNat ||| 32 : Nat) : Int) := by omega
              have hl2 : ((c.toNat ||| 32 : Nat) : Int) ≤ 122 := by omega
              by_cases hF : (c.toNat ||| 32) ≤ 102
              · have hx : hexD c.toNat = some ((c.toNat ||| 32) - 87) := by unfold hexD; rw [if_neg hdig, if_pos ⟨hL.1, hF⟩]
                have HS := Aside0.mk (show hexN 0 t = hexN (acc * 16 + ((c.toNat ||| 32) - 87)) (t.drop (k + 1)) by rw [hh, hexN, hx])
                have HAN := Aside0.mk (show acc * 16 + ((c.toNat ||| 32) - 87) < 16 ^ (k + 1) by have := HA.out; rw [Nat.pow_succ]; omega)
                obtain ⟨lw, hlw⟩ : ∃ lw, lw = (c.toNat ||| 32) := ⟨_, rfl⟩
                have hlc := fun w => lower_calls c w
                rw [← hlw] at hL hl1 hl2 hF HS HAN hlow hlowz
                simp only [← hlw] at hlc
                have HLC := Aside0.mk hlc
                clear hlc
                clear hx hh hd hc hlw hdig
                clear hL hlow hlowz hc256 hc256'
                go_wp2_with fail
                refine (HLC.out _).mono ?_
                rintro e w' ⟨rfl, hw⟩
                rw [hw]
                clear hw w'
                simp only []
                go_wp2_with fail
                refine (HLC.out _).mono ?_
                rintro e w' ⟨rfl, hw⟩
                rw [hw]
                clear hw w'
                simp only []
                go_wp2_with fail
                refine (HLC.out _).mono ?_
                rintro e w' ⟨rfl, hw⟩
                rw [hw]
                clear hw w'
                simp only []
                clear HLC
                have hw1 : IntKind.u8.wrap ((lw : Int) - 97) = (lw : Int) - 97 := by rw [IntKind.wrap_u8]; omega
                have hw2 : IntKind.u8.wrap ((lw : Int) - 97 + 10) = (lw : Int) - 97 + 10 := by rw [IntKind.wrap_u8]; omega
                have hFz : (lw : Int) ≤ 102 := by omega
                have h39 : ¬ (1152921504606846976 : Int) ≤ (acc : Int) := by omega
                clear hl2 hF
                go_wp2
                go_roundg k1
                case measure => omega
                case rel => exact ⟨k + 1, acc * 16 + (lw - 87), by omega, rfl, by congr 1; omega, by go_num, HAN, HS, rfl⟩
              · have hx : hexD c.toNat = none := by unfold hexD; rw [if_neg hdig, if_neg (by omega)]
                have HE := Aside0.mk (show hexN 0 t = none by rw [hh, hexN, hx])
                obtain ⟨lw, hlw⟩ : ∃ lw, lw = (c.toNat ||| 32) := ⟨_, rfl⟩
                have hlc := fun w => lower_calls c w
                rw [← hlw] at hL hl1 hl2 hF hlow hlowz
                simp only [← hlw] at hlc
                have HLC := Aside0.mk hlc
                clear hlc
                have hFz : (102 : Int) < (lw : Int) := by omega
                clear hx hh hd hc hlw hdig
                clear hL hlow hlowz hc256 hc256'
                go_wp2_with fail
                refine (HLC.out _).mono ?_
                rintro e w' ⟨rfl, hw⟩
                rw [hw]
                clear hw w'
                simp only []
                go_wp2_with fail
                refine (HLC.out _).mono ?_
                rintro e w' ⟨rfl, hw⟩
                rw [hw]
                clear hw w'
                simp only []
                go_wp2_with fail
                refine (HLC.out _).mono ?_
                rintro e w' ⟨rfl, hw⟩
                rw [hw]
                clear hw w'
                simp only []
                clear HLC
                go_wp2
                go_ret2
                exact ⟨HBW.out, (fun n h => by rw [HE.out] at h; cases h), (fun _ => rfl)⟩
            · have hx : hexD c.toNat = none := by unfold hexD; rw [if_neg hdig, if_neg (by omega)]
              have HE := Aside0.mk (show hexN 0 t = none by rw [hh, hexN, hx])
              obtain ⟨lw, hlw⟩ : ∃ lw, lw = (c.toNat ||| 32) := ⟨_, rfl⟩
              have hlc := fun w => lower_calls c w
              rw [← hlw] at hL hlow hlowz
              simp only [← hlw] at hlc
              have HLC := Aside0.mk hlc
              clear hlc
              clear hx hh hd hc hlw hdig
              by_cases hl1 : 97 ≤ lw
              · have hl1z : (97 : Int) ≤ (lw : Int) := by omega
                have hl2z : ¬ (lw : Int) ≤ 122 := by omega
                clear hL hlow hlowz hc256 hc256'
                go_wp2_with fail
                refine (HLC.out _).mono ?_
                rintro e w' ⟨rfl, hw⟩
                rw [hw]
                clear hw w'
                simp only []
                go_wp2_with fail
                refine (HLC.out _).mono ?_
                rintro e w' ⟨rfl, hw⟩
                rw [hw]
                clear hw w'
                simp only []
                clear HLC
                go_wp2
                go_ret2
                exact ⟨HBW.out, (fun n h => by rw [HE.out] at h; cases h), (fun _ => rfl)⟩
              · have hl1z : ¬ (97 : Int) ≤ (lw : Int) := by omega
                clear hL hlow hlowz hc256 hc256'
                go_wp2_with fail
                refine (HLC.out _).mono ?_
                rintro e w' ⟨rfl, hw⟩
                rw [hw]
                clear hw w'
                simp only []
                clear HLC
                go_wp2
                go_ret2
                exact ⟨HBW.out, (fun n h => by rw [HE.out] at h; cases h), (fun _ => rfl)⟩
end Go.Proofs.YtegppkngdkkdcaaGreatDoor.Lx
namespace Go.Proofs.YtegppkngdkkdcaaGreatDoor.Lx
open Go.RowKit Go.Proofs.YtegppkngdkkdcaaGreatDoorW.PrintWords Go.Proofs.YtegppkngdkkdcaaGreatDoorW.PrintLast Go.Proofs.YtegppkngdkkdcaaGreatDoorW.PrintMore
theorem cell_below {w w' : World} {a : Addr} {v : Value} (hb : Below w.heap.size w w') (h : w.cell? a = some v) : w'.cell? a = some v := by
  have hlt : a.block < w.heap.size := by
    rcases Nat.lt_or_ge a.block w.heap.size with h' | h'
    · exact h'
    · simp [World.cell?, Array.getElem?_eq_none h'] at h
  rw [hb.cell hlt]
  exact h
theorem TE.below {w w' : World} (h : TE w) (hb : Below w.heap.size w w') : TE w' := by
  obtain ⟨⟨e1, h1, h2⟩, e2, h3, h4⟩ := h
  exact ⟨⟨e1, cell_below hb h1, h2⟩, e2, cell_below hb h3, h4⟩
set_option maxRecDepth 100000 in
set_option maxHeartbeats 2000000 in
theorem PU_calls (t : List UInt8) (ht : t.length = 4) (w : World) (hte : TE w) :
    Calls Tryz.prog 94 #[.string ⟨t.toArray⟩, .int .i64 16, .int .i64 16] w fun e w' => Below w.heap.size w w' ∧
      ((∀ n, hexN 0 t = some n → e = .returned (.tuple #[.int .u64 n, .nilIface]) ∧ n ≤ 65535) ∧ (hexN 0 t = none → ∃ N, e = .returned (.tuple #[.int .u64 0, .iface 142 (.pointer (some ⟨N, 0, none⟩))]))) := by
  have HT := Aside0.mk hte
  have hsz : (ByteArray.mk t.toArray).size = 4 := by rw [show (ByteArray.mk t.toArray).size = t.length by simp [ByteArray.size], ht]
  have HC := Aside0.mk (ParseUint16_calls t ht w)
  clear hte
  cases hx : hexN 0 t with
  | some n =>
    have HX := Aside0.mk hx
    clear hx
    go_enter Tryz.func94, Tryz.ntmps94
    go_wp2_with fail
    refine HC.out.mono ?_
    rintro e w1 ⟨hb, h1, _⟩
    obtain ⟨rfl, hn⟩ := h1 n HX.out
    have HB := Aside0.mk hb
    clear hb h1
    go_wp2
    go_ret2
    exact ⟨HB.out, (fun m hm => by cases hm; exact ⟨rfl, hn⟩), (fun h => by cases h)⟩
  | none =>
    have HX := Aside0.mk hx
    clear hx
    go_enter Tryz.func94, Tryz.ntmps94
    go_wp2_with fail
    refine HC.out.mono ?_
    rintro e w1 ⟨hb, _, h1⟩
    obtain rfl := h1 HX.out
    have HB := Aside0.mk hb
    obtain ⟨ev, hev1, hev2⟩ := (HT.out.below hb).1
    have HE1 := Aside0.mk hev1
    have HE2 := Aside0.mk hev2
    clear hb h1 hev1 hev2
    go_wp2_with fail
    refine (Tryz.strconv_toError_syntax _ ⟨t.toArray⟩ 16 16 ev w1 (by omega) HE1.out HE2.out).mono ?_
    rintro e w2 ⟨N, rfl, _, _, hb2⟩
    have HB2 := Aside0.mk (HB.out.trans (hb2.mono HB.out.size))
    clear hb2
    go_wp2
    go_ret2
    exact ⟨HB2.out, (fun m hm => by cases hm), (fun _ => ⟨N, rfl⟩)⟩
end Go.Proofs.YtegppkngdkkdcaaGreatDoor.Lx
end
section
set_option linter.unusedVariables false
set_option linter.unusedSimpArgs false
namespace Go.Proofs.YtegppkngdkkdcaaGreatDoor.Lx
open Go.RowKit Go.Proofs.YtegppkngdkkdcaaGreatDoorW.PrintWords Go.Proofs.YtegppkngdkkdcaaGreatDoorW.PrintLast Go.Proofs.YtegppkngdkkdcaaGreatDoorW.PrintMore
theorem cell_new1 (W : World) (x : Value) (t : TypeId) (n : Nat) (hn : n = W.heap.size) : ∀ j u, [x][j]? = some u → (W.alloc (.cells #[x] t)).cell? ((⟨n, 0, none⟩ : Addr).add j) = some u := by
  subst hn
  exact cell_one_new W x t
structure BAt (Br b : Nat) (v : Value) (bs : List Value) (w : World) : Prop where
  blk : w.heap[b]? = some (.cells #[.pointer none, v] 65 (0, 0)) ∨ w.heap[b]? = some (.cells #[.pointer (some ⟨b, 0, none⟩), v] 65 (0, 0))
  row : w.ownsRow Br 5 1 v bs.length bs
  lt : b < Br
theorem BAt.blt {Br b : Nat} {v : Value} {bs : List Value} {w : World} (h : BAt Br b v bs w) : b < w.heap.size := by
  rcases h.blk with h | h <;> exact blk_lt h
theorem BAt.ne {Br b : Nat} {v : Value} {bs : List Value} {w : World} (h : BAt Br b v bs w) : v.ownBlock ≠ some b := fun e => by
  have := own_base h.row b e
  have := h.lt
  omega
theorem BAt.is {Br b : Nat} {v : Value} {bs : List Value} {w : World} (h : BAt Br b v bs w) : Lib.IsBuilder 65 5 b b bs w := by
  have hr := own_weaken h.row (Nat.le_of_lt h.lt)
  rcases h.blk with hb | hb
  · exact .inl ⟨Nat.le_refl _, v, hb, hr, h.ne⟩
  · exact .inr ⟨Nat.le_refl _, v, hb, hr, h.ne⟩
theorem BAt.move {Br b : Nat} {v : Value} {bs : List Value} {w w' : World} (h : BAt Br b v bs w) (hm : ∀ k, k < w.heap.size → (k = b ∨ v.ownBlock = some k) → w'.heap[k]? = w.heap[k]?) : BAt Br b v bs w' := by
  refine ⟨?_, own_move h.row fun k hk => hm k (own_lt h.row k hk) (.inr hk), h.lt⟩
  have e := hm b h.blt (.inl rfl)
  rcases h.blk with hb | hb
  · exact .inl (e.trans hb)
  · exact .inr (e.trans hb)
def Kept (b : Nat) (v : Value) (w w' : World) : Prop := Below b w w' ∧ ∀ k, k < w.heap.size → k ≠ b → v.ownBlock ≠ some k → w'.heap[k]? = w.heap[k]?
theorem check_calls (Br b : Nat) (v : Value) (bs : List Value) (w : World) (h : BAt Br b v bs w) :
    Calls Tryz.prog 79 #[.pointer (some ⟨b, 0, none⟩)] w fun e w' => e = .returned (.tuple #[]) ∧ w'.heap[b]? = some (.cells #[.pointer (some ⟨b, 0, none⟩), v] 65 (0, 0)) ∧ w'.ownsRow Br 5 1 v bs.length bs ∧ Kept b v w w' ∧ w'.heap.size = w.heap.size := by
  rcases h.blk with hb | hb
  · have hr := own_weaken h.row (Nat.le_of_lt h.lt)
    have hh : Lib.BuilderAt 65 5 b b (.pointer none) bs w := ⟨Nat.le_refl _, v, hb, hr, h.ne⟩
    refine (Bld.copyCheck_fresh b w hh.cell0 hh.shape hh.frozen0).mono ?_
    rintro e w' ⟨rfl, rfl⟩
    refine ⟨rfl, blk_put hb 0 _ rfl, own_move h.row fun k hk => Below.heap_setCell _ _ _ _ (fun e => h.ne (by rw [hk, e])), ⟨(Below.refl b w).setCell (p := ⟨b, 0, none⟩) (Nat.le_refl _) _, fun k _ hk _ => Below.heap_setCell _ _ _ _ hk⟩, by simp [World.setCell]⟩
  · refine (Bld.copyCheck_used b w (by rw [Lib.cell_of_heap hb]; rfl)).mono ?_
    rintro e w' ⟨rfl, rfl⟩
    exact ⟨rfl, hb, h.row, ⟨Below.refl _ _, fun _ _ _ _ => rfl⟩, rfl⟩
set_option maxHeartbeats 1000000 in
set_option maxRecDepth 100000 in
theorem Write_calls (Br b : Nat) (v : Value) (bs : List Value) (s : ByteArray) (w : World) (h : BAt Br b v bs w) (hlen : bs.length + s.size ≤ 140737488355328) (hBr : Br ≤ w.heap.size) :
    Calls Tryz.prog 52 #[.pointer (some ⟨b, 0, none⟩), .string s] w fun e w' => e = .returned (.tuple #[.int .i64 s.size, .nilIface]) ∧ ∃ v', BAt Br b v' (bs ++ Lib.strCells s) w' ∧ Kept b v w w' := by
  obtain ⟨i0, hi, hz0, hz1, hz2⟩ := info_parts Bld.infoByte
  have H := Aside0.mk h
  go_enter Tryz.func52, Tryz.ntmps52
  go_wp2_with fail
  refine (check_calls Br b v bs _ h).mono ?_
  rintro e w1 ⟨rfl, hbk, hown, hkept, hsz1⟩
  clear h
  have c1 : w1.cell? ⟨b, 1, none⟩ = some v := by rw [Lib.cell_of_heap hbk]; rfl
  have HK := Aside0.mk hkept
  clear hkept
  go_wp2_with (at_builtin; refine Lib.wpList_append_own_string _ rfl _ _ 63 9 rfl Br 5 i0 Tryz.underlying63 Tryz.underlying9 hi hz0 hz1 hz2 _ _ _ rfl hown s rfl ?c3 ?c4 ?c5 ?_)
  case c3 => unfold maxLen; omega
  case c4 => omega
  case c5 => omega
  intro v' w2 hown' hgrow _
  have hb2 := blk_grown hbk hgrow (fun e => H.out.ne e.symm)
  have d1 : w2.cell? ⟨b, 1, none⟩ = some v := by rw [Lib.cell_of_heap hb2]; rfl
  have f1 : w2.frozen? ⟨b, 1, none⟩ = false := Lib.frozen_of_heap hb2 1
  obtain ⟨ao, n', cap, rfl⟩ : ∃ ao n' cap, v' = .slice ao n' cap := by
    rcases hown'.2 with ⟨hv, _⟩ | ⟨g, cap, cur, hv, _⟩
    · exact ⟨_, _, _, hv⟩
    · exact ⟨_, _, _, hv⟩
  have HG := Aside0.mk hgrow
  have HO := Aside0.mk hown'
  have HB2 := Aside0.mk hb2
  clear hgrow hown' hb2 hown hbk
  go_wp2
  go_ret2
  refine ⟨rfl, _, ⟨.inr (blk_put HB2.out 1 _ rfl), ?_, H.out.lt⟩, ?_, ?_⟩
  · have hr := HO.out
    rw [show bs.length + s.size = (bs ++ Lib.strCells s).length by simp [Lib.strCells_length]] at hr
    exact own_move hr fun k hk => Below.heap_setCell _ _ _ _ (fun (e : k = b) => by have := own_base hr k hk; have := H.out.lt; omega)
  · exact (HK.out.1.grown HG.out (by have := H.out.blt; omega) (fun k hk => by have := own_base H.out.row k hk; have := H.out.lt; omega)).setCell (p := ⟨b, 1, none⟩) (Nat.le_refl _) _
  · intro k hk hkb hkv
    rw [Below.heap_setCell _ _ _ _ hkb, HG.out.block k (by omega) (fun e => hkv e.symm)]
    exact HK.out.2 k hk hkb hkv
set_option maxHeartbeats 1000000 in
set_option maxRecDepth 100000 in
theorem WriteByte_calls (Br b : Nat) (v : Value) (bs : List Value) (c : UInt8) (w : World) (h : BAt Br b v bs w) (hlen : bs.length + 1 ≤ 140737488355328) (hBr : Br ≤ w.heap.size) :
    Calls Tryz.prog 56 #[.pointer (some ⟨b, 0, none⟩), .int .u8 c.toNat] w fun e w' => e = .returned .nilIface ∧ ∃ v', BAt Br b v' (bs ++ [.int .u8 c.toNat]) w' ∧ Kept b v w w' := by
  obtain ⟨i0, hi, hz0, hz1, hz2⟩ := info_parts Bld.infoByte
  have H := Aside0.mk h
  go_enter Tryz.func56, Tryz.ntmps56
  go_wp2_with fail
  refine (check_calls Br b v bs _ h).mono ?_
  rintro e w1 ⟨rfl, hbk, hown, hkept, hsz1⟩
  clear h
  have c1 : w1.cell? ⟨b, 1, none⟩ = some v := by rw [Lib.cell_of_heap hbk]; rfl
  have HK := Aside0.mk hkept
  have hbl := blk_lt hbk
  clear hkept
  obtain ⟨Av, cav, rfl⟩ := own_slice hown
  go_wp2_with (at_builtin; refine wpList_append_own _ rfl _ _ 63 rfl Br 5 i0 (.int .u8 0) 1 1 Tryz.underlying63 hi hz0 hz1 hz2 rfl (by decide) _ bs.length bs rfl (hown.alloc _) ⟨_, 0, none⟩ 1 1 [.int .u8 c.toNat] rfl rfl (cell_new1 _ _ _ _ hsz1.symm) (by simp [Value.oneCell']) (by simp only [maxLen]; omega) (by omega) (by simp; omega) ?_)
  intro v' w2 hown' hgrow _
  have hba : (w1.alloc (.cells #[.int .u8 c.toNat] 5)).heap[b]? = some (.cells #[.pointer (some ⟨b, 0, none⟩), .slice Av bs.length cav] 65 (0, 0)) := (Below.heap_alloc _ _ _ hbl).trans hbk
  have hb2 := blk_grown hba hgrow (fun e => H.out.ne e.symm)
  have d1 : w2.cell? ⟨b, 1, none⟩ = some (.slice Av bs.length cav) := by rw [Lib.cell_of_heap hb2]; rfl
  have f1 : w2.frozen? ⟨b, 1, none⟩ = false := Lib.frozen_of_heap hb2 1
  obtain ⟨A', c', rfl⟩ := own_slice hown'
  have HG := Aside0.mk hgrow
  have HO := Aside0.mk hown'
  have HB2 := Aside0.mk hb2
  clear hgrow hown' hb2 hown hbk hba
  go_wp2
  go_ret
  have hsa : (w1.alloc (.cells #[.int .u8 c.toNat] 5)).heap.size = w1.heap.size + 1 := by simp
  refine ⟨rfl, _, ⟨.inr (blk_put HB2.out 1 _ rfl), ?_, H.out.lt⟩, ?_, ?_⟩
  · have hr := HO.out
    have hn : (bs ++ [Value.int .u8 c.toNat]).length = bs.length + 1 := by simp
    rw [hn]
    exact own_move hr fun k hk => Below.heap_setCell _ _ _ _ (fun (e : k = b) => by have := own_base hr k hk; have := H.out.lt; omega)
  · exact ((HK.out.1.alloc (by have := H.out.blt; omega) _).grown HG.out (by rw [hsa]; have := H.out.blt; omega) (fun k hk => by have := own_base H.out.row k hk; have := H.out.lt; omega)).setCell (p := ⟨b, 1, none⟩) (Nat.le_refl _) _
  · intro k hk hkb hkv
    rw [Below.heap_setCell _ _ _ _ hkb, HG.out.block k (by rw [hsa]; omega) (fun e => hkv e.symm), Below.heap_alloc _ _ _ (by omega)]
    exact HK.out.2 k hk hkb hkv
end Go.Proofs.YtegppkngdkkdcaaGreatDoor.Lx
namespace Go.Proofs.YtegppkngdkkdcaaGreatDoor.Lx
open Go.RowKit Go.Proofs.YtegppkngdkkdcaaGreatDoorW.PrintWords Go.Proofs.YtegppkngdkkdcaaGreatDoorW.PrintLast Go.Proofs.YtegppkngdkkdcaaGreatDoorW.PrintMore
theorem cell_new2 (W : World) (x y : Value) (t : TypeId) (n : Nat) (hn : n = W.heap.size) : ∀ j u, [x, y][j]? = some u → (W.alloc (.cells #[x, y] t)).cell? ((⟨n, 0, none⟩ : Addr).add j) = some u := by
  subst hn
  intro j u h
  have e : (⟨W.heap.size, 0, none⟩ : Addr).add j = ⟨W.heap.size, j, none⟩ := by unfold Addr.add; split <;> simp_all
  rw [e, blk_cell (blk_new W _), ← h]
  simp
set_option maxRecDepth 100000 in
set_option maxHeartbeats 2000000 in
theorem rune1 (Br : Nat) (v : Value) (xs : List Value) (n : Nat) (w : World) (hown : w.ownsRow Br 5 1 v xs.length xs) (hn : n < 128) (hlen : xs.length + 4 ≤ 140737488355328) (hB : Br ≤ w.heap.size) :
    Calls Tryz.prog 110 #[v, .int .i32 n] w fun e w' => ∃ v', e = .returned v' ∧ w'.ownsRow Br 5 1 v' (xs ++ [Value.int .u8 n]).length (xs ++ [Value.int .u8 n]) ∧ Below Br w w' ∧ w.grownBy w' v.ownBlock := by
  have HO := Aside0.mk hown
  obtain ⟨Av, cav, rfl⟩ := own_slice hown
  obtain ⟨i0, hi, hz0, hz1, hz2⟩ := info_parts Bld.infoByte
  have hnz : (n : Int) < 128 := by omega
  clear hown
  go_enter Tryz.func110, Tryz.ntmps110
  go_wp2_with (at_builtin; refine wpList_append_own _ rfl _ _ 63 rfl Br 5 i0 (.int .u8 0) 1 1 Tryz.underlying63 hi hz0 hz1 hz2 rfl (by decide) _ xs.length xs rfl (HO.out.alloc _) ⟨_, 0, none⟩ 1 1 [.int .u8 n] rfl rfl (cell_new1 _ _ _ _ (by simp)) (by simp [Value.oneCell']) (by simp only [maxLen]; omega) (by omega) (by simp; omega) ?_)
  intro v' w2 hown' hg' _
  have HO2 := Aside0.mk hown'
  have HG := Aside0.mk hg'
  clear hown' hg'
  go_wp2
  go_ret
  have hs : (w.alloc (.cells #[.int .u8 n] 5)).heap.size = w.heap.size + 1 := by simp
  refine ⟨v', rfl, by simpa using HO2.out, ((Below.refl Br w).alloc hB _).grown HG.out (by rw [hs]; omega) (fun k hk => own_base HO.out k hk), ?_⟩
  exact (World.grownBy_alloc w _ _).trans HG.out
theorem cell_new3 (W : World) (x y z : Value) (t : TypeId) (n : Nat) (hn : n = W.heap.size) : ∀ j u, [x, y, z][j]? = some u → (W.alloc (.cells #[x, y, z] t)).cell? ((⟨n, 0, none⟩ : Addr).add j) = some u := by
  subst hn
  intro j u h
  have e : (⟨W.heap.size, 0, none⟩ : Addr).add j = ⟨W.heap.size, j, none⟩ := by unfold Addr.add; split <;> simp_all
  rw [e, blk_cell (blk_new W _), ← h]
  simp
set_option maxRecDepth 1000000 in
set_option maxHeartbeats 4000000 in
theorem rune2 (Br : Nat) (v : Value) (xs : List Value) (n : Nat) (w : World) (hown : w.ownsRow Br 5 1 v xs.length xs) (h1 : 128 ≤ n) (hn : n < 2048) (hlen : xs.length + 4 ≤ 140737488355328) (hB : Br ≤ w.heap.size) :
    Calls Tryz.prog 123 #[v, .int .i32 n] w fun e w' => ∃ v', e = .returned v' ∧ w'.ownsRow Br 5 1 v' (xs ++ [Value.int .u8 (192 + (n : Int) / 64), Value.int .u8 (128 + (n : Int) % 64)]).length (xs ++ [Value.int .u8 (192 + (n : Int) / 64), Value.int .u8 (128 + (n : Int) % 64)]) ∧ Below Br w w' ∧ w.grownBy w' v.ownBlock := by
  have HO := Aside0.mk hown
  obtain ⟨Av, cav, rfl⟩ := own_slice hown
  have hnz : (128 : Int) ≤ n := by omega
  have hnz2 : (n : Int) ≤ 2047 := by omega
  clear h1 hn
  clear hown
  obtain ⟨i0, hi, hz0, hz1, hz2⟩ := info_parts Bld.infoByte
  go_enter Tryz.func123, Tryz.ntmps123
  go_wp2_with (at_builtin; refine wpList_append_own _ rfl _ _ 63 rfl Br 5 i0 (.int .u8 0) 1 1 Tryz.underlying63 hi hz0 hz1 hz2 rfl (by decide) _ xs.length xs rfl (HO.out.alloc _) ⟨_, 0, none⟩ 2 2 [Value.int .u8 _, Value.int .u8 _] rfl rfl (cell_new2 _ _ _ _ _ (by simp)) (by simp [Value.oneCell']) (by simp only [maxLen]; omega) (by omega) (by simp; omega) ?_)
  intro v' w2 hown' hg' _
  have HO2 := Aside0.mk hown'
  have HG := Aside0.mk hg'
  clear hown' hg'
  go_wp2
  go_ret
  exact ⟨v', rfl, by simpa using HO2.out, ((Below.refl Br w).alloc hB _).grown HG.out (by simp; omega) (fun k hk => own_base HO.out k hk), (World.grownBy_alloc w _ _).trans HG.out⟩
set_option maxRecDepth 1000000 in
set_option maxHeartbeats 4000000 in
theorem rune3a (Br : Nat) (v : Value) (xs : List Value) (n : Nat) (w : World) (hown : w.ownsRow Br 5 1 v xs.length xs) (h1 : 2048 ≤ n) (hn : n < 55296) (hlen : xs.length + 4 ≤ 140737488355328) (hB : Br ≤ w.heap.size) :
    Calls Tryz.prog 123 #[v, .int .i32 n] w fun e w' => ∃ v', e = .returned v' ∧ w'.ownsRow Br 5 1 v' (xs ++ [Value.int .u8 (224 + (n : Int) / 4096), Value.int .u8 (128 + (n : Int) / 64 % 64), Value.int .u8 (128 + (n : Int) % 64)]).length (xs ++ [Value.int .u8 (224 + (n : Int) / 4096), Value.int .u8 (128 + (n : Int) / 64 % 64), Value.int .u8 (128 + (n : Int) % 64)]) ∧ Below Br w w' ∧ w.grownBy w' v.ownBlock := by
  have HO := Aside0.mk hown
  obtain ⟨Av, cav, rfl⟩ := own_slice hown
  have hnz : ¬ (n : Int) ≤ 2047 := by omega
  have hnz2 : (n : Int) < 55296 := by omega
  clear h1 hn
  clear hown
  obtain ⟨i0, hi, hz0, hz1, hz2⟩ := info_parts Bld.infoByte
  go_enter Tryz.func123, Tryz.ntmps123
  go_wp2_with (at_builtin; refine wpList_append_own _ rfl _ _ 63 rfl Br 5 i0 (.int .u8 0) 1 1 Tryz.underlying63 hi hz0 hz1 hz2 rfl (by decide) _ xs.length xs rfl (HO.out.alloc _) ⟨_, 0, none⟩ 3 3 [Value.int .u8 _, Value.int .u8 _, Value.int .u8 _] rfl rfl (cell_new3 _ _ _ _ _ _ (by simp)) (by simp [Value.oneCell']) (by simp only [maxLen]; omega) (by omega) (by simp; omega) ?_)
  intro v' w2 hown' hg' _
  have HO2 := Aside0.mk hown'
  have HG := Aside0.mk hg'
  clear hown' hg'
  go_wp2
  go_ret
  exact ⟨v', rfl, by simpa using HO2.out, ((Below.refl Br w).alloc hB _).grown HG.out (by simp; omega) (fun k hk => own_base HO.out k hk), (World.grownBy_alloc w _ _).trans HG.out⟩
set_option maxRecDepth 1000000 in
set_option maxHeartbeats 4000000 in
theorem rune3b (Br : Nat) (v : Value) (xs : List Value) (n : Nat) (w : World) (hown : w.ownsRow Br 5 1 v xs.length xs) (h1 : 57343 < n) (hn : n < 65536) (hlen : xs.length + 4 ≤ 140737488355328) (hB : Br ≤ w.heap.size) :
    Calls Tryz.prog 123 #[v, .int .i32 n] w fun e w' => ∃ v', e = .returned v' ∧ w'.ownsRow Br 5 1 v' (xs ++ [Value.int .u8 (224 + (n : Int) / 4096), Value.int .u8 (128 + (n : Int) / 64 % 64), Value.int .u8 (128 + (n : Int) % 64)]).length (xs ++ [Value.int .u8 (224 + (n : Int) / 4096), Value.int .u8 (128 + (n : Int) / 64 % 64), Value.int .u8 (128 + (n : Int) % 64)]) ∧ Below Br w w' ∧ w.grownBy w' v.ownBlock := by
  have HO := Aside0.mk hown
  obtain ⟨Av, cav, rfl⟩ := own_slice hown
  have hnz : ¬ (n : Int) ≤ 2047 := by omega
  have hnz1 : ¬ (n : Int) < 55296 := by omega
  have hnz3 : (57343 : Int) < n := by omega
  have hnz2 : (n : Int) ≤ 65535 := by omega
  clear h1 hn
  clear hown
  obtain ⟨i0, hi, hz0, hz1, hz2⟩ := info_parts Bld.infoByte
  go_enter Tryz.func123, Tryz.ntmps123
  go_wp2_with (at_builtin; refine wpList_append_own _ rfl _ _ 63 rfl Br 5 i0 (.int .u8 0) 1 1 Tryz.underlying63 hi hz0 hz1 hz2 rfl (by decide) _ xs.length xs rfl (HO.out.alloc _) ⟨_, 0, none⟩ 3 3 [Value.int .u8 _, Value.int .u8 _, Value.int .u8 _] rfl rfl (cell_new3 _ _ _ _ _ _ (by simp)) (by simp [Value.oneCell']) (by simp only [maxLen]; omega) (by omega) (by simp; omega) ?_)
  intro v' w2 hown' hg' _
  have HO2 := Aside0.mk hown'
  have HG := Aside0.mk hg'
  clear hown' hg'
  go_wp2
  go_ret
  exact ⟨v', rfl, by simpa using HO2.out, ((Below.refl Br w).alloc hB _).grown HG.out (by simp; omega) (fun k hk => own_base HO.out k hk), (World.grownBy_alloc w _ _).trans HG.out⟩
end Go.Proofs.YtegppkngdkkdcaaGreatDoor.Lx
namespace Go.Proofs.YtegppkngdkkdcaaGreatDoor.Lx
open Go.RowKit Go.Proofs.YtegppkngdkkdcaaGreatDoorW.PrintWords Go.Proofs.YtegppkngdkkdcaaGreatDoorW.PrintLast Go.Proofs.YtegppkngdkkdcaaGreatDoorW.PrintMore
theorem ofNat_val (n : Nat) (h : n < 256) (m : Int) (e : m = n) : Value.int .u8 m = Value.int .u8 (UInt8.ofNat n).toNat := by
  subst e
  rw [UInt8.toNat_ofNat']
  congr 1
  omega
theorem rune1_cells (n : Nat) (h : n < 128) : Lib.byteCells (runeB n) = [Value.int .u8 n] := by
  unfold runeB Lib.byteCells
  rw [if_pos h]
  simp only [List.map_cons, List.map_nil]
  rw [← ofNat_val n (by omega) n rfl]
theorem rune2_cells (n : Nat) (h1 : 128 ≤ n) (h : n < 2048) : Lib.byteCells (runeB n) = [Value.int .u8 (192 + (n : Int) / 64), Value.int .u8 (128 + (n : Int) % 64)] := by
  unfold runeB Lib.byteCells
  rw [if_neg (by omega), if_pos h]
  simp only [List.map_cons, List.map_nil]
  rw [← ofNat_val (192 + n / 64) (by omega) (192 + (n : Int) / 64) (by omega), ← ofNat_val (128 + n % 64) (by omega) (128 + (n : Int) % 64) (by omega)]
theorem rune3_cells (n : Nat) (h1 : 2048 ≤ n) (h : n < 65536) : Lib.byteCells (runeB n) = [Value.int .u8 (224 + (n : Int) / 4096), Value.int .u8 (128 + (n : Int) / 64 % 64), Value.int .u8 (128 + (n : Int) % 64)] := by
  unfold runeB Lib.byteCells
  rw [if_neg (by omega), if_neg (by omega)]
  simp only [List.map_cons, List.map_nil]
  rw [← ofNat_val (224 + n / 4096) (by omega) (224 + (n : Int) / 4096) (by omega), ← ofNat_val (128 + n / 64 % 64) (by omega) (128 + (n : Int) / 64 % 64) (by omega), ← ofNat_val (128 + n % 64) (by omega) (128 + (n : Int) % 64) (by omega)]
theorem runeN (Br : Nat) (v : Value) (xs : List Value) (n : Nat) (w : World) (hown : w.ownsRow Br 5 1 v xs.length xs) (h1 : 128 ≤ n) (hn : n < 65536) (hs : ¬ (55296 ≤ n ∧ n ≤ 57343)) (hlen : xs.length + 4 ≤ 140737488355328) (hB : Br ≤ w.heap.size) :
    Calls Tryz.prog 123 #[v, .int .i32 n] w fun e w' => ∃ v', e = .returned v' ∧ w'.ownsRow Br 5 1 v' (xs ++ Lib.byteCells (runeB n)).length (xs ++ Lib.byteCells (runeB n)) ∧ Below Br w w' ∧ w.grownBy w' v.ownBlock := by
  by_cases h2 : n < 2048
  · rw [rune2_cells n h1 h2]
    exact rune2 Br v xs n w hown h1 h2 hlen hB
  · rw [rune3_cells n (by omega) hn]
    by_cases h3 : n < 55296
    · exact rune3a Br v xs n w hown (by omega) h3 hlen hB
    · exact rune3b Br v xs n w hown (by omega) hn hlen hB
set_option maxRecDepth 100000 in
set_option maxHeartbeats 2000000 in
theorem AppendRune_calls (Br : Nat) (v : Value) (xs : List Value) (n : Nat) (w : World) (hown : w.ownsRow Br 5 1 v xs.length xs) (hn : n < 65536) (hs : ¬ (55296 ≤ n ∧ n ≤ 57343)) (hlen : xs.length + 4 ≤ 140737488355328) (hB : Br ≤ w.heap.size) :
    Calls Tryz.prog 110 #[v, .int .i32 n] w fun e w' => ∃ v', e = .returned v' ∧ w'.ownsRow Br 5 1 v' (xs ++ Lib.byteCells (runeB n)).length (xs ++ Lib.byteCells (runeB n)) ∧ Below Br w w' ∧ w.grownBy w' v.ownBlock := by
  by_cases h1 : n < 128
  · rw [rune1_cells n h1]
    exact rune1 Br v xs n w hown h1 hlen hB
  · have HC := Aside0.mk (runeN Br v xs n w hown (by omega) hn hs hlen hB)
    have hnz : ¬ (n : Int) < 128 := by omega
    clear hown hs
    go_enter Tryz.func110, Tryz.ntmps110
    go_wp2_with fail
    refine HC.out.mono ?_
    rintro e w1 ⟨v', rfl, h⟩
    have HH := Aside0.mk h
    clear h
    go_wp2
    go_ret
    exact ⟨v', rfl, HH.out⟩
set_option maxHeartbeats 1000000 in
set_option maxRecDepth 100000 in
theorem WriteRune_calls (Br b : Nat) (v : Value) (bs : List Value) (n : Nat) (w : World) (h : BAt Br b v bs w) (hn : n < 65536) (hs : ¬ (55296 ≤ n ∧ n ≤ 57343)) (hlen : bs.length + 4 ≤ 140737488355328) (hBr : Br ≤ w.heap.size) :
    Calls Tryz.prog 97 #[.pointer (some ⟨b, 0, none⟩), .int .i32 n] w fun e w' => (∃ k, e = .returned (.tuple #[.int .i64 k, .nilIface])) ∧ ∃ v', BAt Br b v' (bs ++ Lib.byteCells (runeB n)) w' ∧ Kept b v w w' := by
  have H := Aside0.mk h
  go_enter Tryz.func97, Tryz.ntmps97
  go_wp2_with fail
  refine (check_calls Br b v bs _ h).mono ?_
  rintro e w1 ⟨rfl, hbk, hown, hkept, hsz1⟩
  clear h
  have c1 : w1.cell? ⟨b, 1, none⟩ = some v := by rw [Lib.cell_of_heap hbk]; rfl
  have HK := Aside0.mk hkept
  have hbl := blk_lt hbk
  clear hkept
  obtain ⟨Av, cav, rfl⟩ := own_slice hown
  have HC := Aside0.mk (AppendRune_calls Br _ bs n w1 hown hn hs hlen (by omega))
  clear hs
  go_wp2_with fail
  refine HC.out.mono ?_
  rintro e w2 ⟨v', rfl, hown', hbel, hgrow⟩
  have hb2 := blk_grown hbk hgrow (fun e => H.out.ne e.symm)
  have d1 : w2.cell? ⟨b, 1, none⟩ = some (.slice Av bs.length cav) := by rw [Lib.cell_of_heap hb2]; rfl
  have f1 : w2.frozen? ⟨b, 1, none⟩ = false := Lib.frozen_of_heap hb2 1
  obtain ⟨A', c', rfl⟩ := own_slice hown'
  have HG := Aside0.mk hgrow
  have HO := Aside0.mk hown'
  have HB2 := Aside0.mk hb2
  clear hgrow hown' hb2 hown hbk hbel HC
  go_wp2
  go_ret2
  refine ⟨⟨_, rfl⟩, _, ⟨.inr (blk_put HB2.out 1 _ rfl), ?_, H.out.lt⟩, ?_, ?_⟩
  · have hr := HO.out
    have hc : (bs ++ Lib.byteCells (runeB n)).length = bs.length + (Lib.byteCells (runeB n)).length := List.length_append
    simp only [hc] at hr ⊢
    exact own_move hr fun k hk => Below.heap_setCell _ _ _ _ (fun (e : k = b) => by have := own_base hr k hk; have := H.out.lt; omega)
  · exact (HK.out.1.grown HG.out (by have := H.out.blt; omega) (fun k hk => by have := own_base H.out.row k hk; have := H.out.lt; omega)).setCell (p := ⟨b, 1, none⟩) (Nat.le_refl _) _
  · intro k hk hkb hkv
    rw [Below.heap_setCell _ _ _ _ hkb, HG.out.block k (by omega) (fun e => hkv e.symm)]
    exact HK.out.2 k hk hkb hkv
end Go.Proofs.YtegppkngdkkdcaaGreatDoor.Lx
end
section
set_option linter.unusedVariables false
set_option linter.unusedSimpArgs false
namespace Go.Proofs.YtegppkngdkkdcaaGreatDoor.Lx
open Go.RowKit Go.Proofs.YtegppkngdkkdcaaGreatDoorW.PrintWords Go.Proofs.YtegppkngdkkdcaaGreatDoorW.PrintLast Go.Proofs.YtegppkngdkkdcaaGreatDoorW.PrintMore
attribute [local go_sem] idx_list
def KB (r b : Nat) (w w' : World) : Prop := Below r w w' ∧ w.heap.size ≤ w'.heap.size ∧ ∀ k, k < b → k ≠ r → w'.heap[k]? = w.heap[k]?
theorem KB.refl (r b : Nat) (w : World) : KB r b w w := ⟨Below.refl _ _, Nat.le_refl _, fun _ _ _ => rfl⟩
theorem KB.trans {r b : Nat} {w w1 w2 : World} (h : KB r b w w1) (k : KB r b w1 w2) : KB r b w w2 := ⟨h.1.trans k.1, Nat.le_trans h.2.1 k.2.1, fun j hj hr => (k.2.2 j hj hr).trans (h.2.2 j hj hr)⟩
theorem KB.set {r b : Nat} {w w1 : World} (h : KB r b w w1) (j : Nat) (v : Value) : KB r b w (w1.setCell ⟨r, j, none⟩ v) := ⟨h.1.setCell (p := ⟨r, j, none⟩) (Nat.le_refl _) v, by simpa [World.setCell] using h.2.1, fun k hk hr => (Below.heap_setCell _ _ _ _ hr).trans (h.2.2 k hk hr)⟩
theorem KB.below {r b : Nat} {w w' : World} (h : Below b w w') (hr : r < b) : KB r b w w' := ⟨h.mono (Nat.le_of_lt hr), h.size, fun k hk _ => h.block k hk⟩
theorem KB.drew {r b : Nat} {w w1 : World} (h : KB r b w w1) : KB r b w w1.drew := ⟨⟨h.1.os, h.1.tape, h.1.output, h.1.size, h.1.block⟩, h.2.1, h.2.2⟩
theorem KB.mono {r b c : Nat} {w w1 : World} (h : KB r c w w1) (hbc : b ≤ c) : KB r b w w1 := ⟨h.1, h.2.1, fun k hk hr => h.2.2 k (Nat.lt_of_lt_of_le hk hbc) hr⟩
theorem TE.drewN {w : World} (h : TE w) (n : Nat) : TE (w.drewN n) := h
theorem KB.drewN {r b : Nat} {w w1 : World} (h : KB r b w w1) (n : Nat) : KB r b w (w1.drewN n) := ⟨⟨h.1.os, h.1.tape, h.1.output, h.1.size, h.1.block⟩, h.2.1, h.2.2⟩
theorem BAt.setR {Br b : Nat} {v : Value} {bs : List Value} {w : World} (h : BAt Br b v bs w) (r j : Nat) (x : Value) (hr : r < b) : BAt Br b v bs (w.setCell ⟨r, j, none⟩ x) := h.move fun k _ h2 => Below.heap_setCell _ _ _ _ (fun e => by
  rcases h2 with h2 | h2
  · have : r = b := e.symm.trans h2
    omega
  · have := own_base h.row k h2
    have := h.lt
    have : r = k := e.symm
    omega)
theorem RD.kept {r : Nat} {l : List UInt8} {a b : Nat} {w w' : World} (h : RD r l a w) (hb : Below b w w') (hr : r < b) : RD r l a w' := (hb.block r hr).trans h
theorem hex_ascii : ∀ n : Nat, n < 256 → (hexD n).isSome = true → n < 128 ∧ n ≠ 43 ∧ n ≠ 45 ∧ n ≠ 95 := by decide +kernel
theorem hexN_bytes : ∀ (t : List UInt8) (acc n : Nat), hexN acc t = some n → ∀ c, c ∈ t → c.toNat < 128 ∧ c.toNat ≠ 43 ∧ c.toNat ≠ 45 ∧ c.toNat ≠ 95
  | [], _, _, _ => fun c h => absurd h (by simp)
  | a :: t, acc, n, h => fun c hc => by
    unfold hexN at h
    cases hd : hexD a.toNat with
    | none => rw [hd] at h; cases h
    | some d =>
      rw [hd] at h
      rcases List.mem_cons.1 hc with rfl | hc
      · exact hex_ascii _ (UInt8.toNat_lt c) (by rw [hd]; rfl)
      · exact hexN_bytes t _ n h c hc
theorem indexAny_none (chars : List UInt8) : ∀ l : List UInt8, (∀ c, c ∈ l → chars.contains c = false) → Lib.indexAny l chars = -1
  | [], _ => rfl
  | b :: l, h => by
    unfold Lib.indexAny
    rw [h b (by simp), indexAny_none chars l (fun c hc => h c (by simp [hc]))]
    rfl
theorem hexN_noAny (t : List UInt8) (n : Nat) (h : hexN 0 t = some n) : Lib.containsAny t [43, 45, 95] = false := by
  unfold Lib.containsAny
  rw [indexAny_none _ _ fun c hc => ?_]
  · rfl
  · have hb := hexN_bytes t 0 n h c hc
    have hne : ∀ m : UInt8, c.toNat ≠ m.toNat → (c == m) = false := fun m hm => beq_eq_false_iff_ne.2 (fun e => hm (by rw [e]))
    simp [List.contains, List.elem, hne 43 hb.2.1, hne 45 hb.2.2.1, hne 95 hb.2.2.2]
theorem validB (n : Nat) (hn : n ≤ 65535) : Lib.validRune (n : Int) = !decide (55296 ≤ n ∧ n ≤ 57343) := by
  unfold Lib.validRune
  rw [Bool.eq_iff_iff]
  simp only [decide_eq_true_eq, Bool.not_eq_true', decide_eq_false_iff_not]
  omega
theorem any_ascii : ∀ (j : Nat) (b : UInt8), (ByteArray.mk #[43, 45, 95]).data.toList[j]? = some b → b.toNat < 128 := by
  intro j b hj
  have := List.mem_of_getElem? hj
  simp at this
  rcases this with rfl | rfl | rfl <;> decide
theorem indexByte_lt (l : List UInt8) (c : UInt8) (h : 0 ≤ Lib.indexByte l c) : Lib.indexByte l c < l.length := by
  obtain ⟨o, ho⟩ := Int.eq_ofNat_of_zero_le h
  have := (Lib.indexByte_some ho).1
  obtain ⟨h1, _⟩ := List.getElem?_eq_some_iff.1 this
  omega
set_option maxRecDepth 100000 in
set_option maxHeartbeats 2000000 in
theorem escape_calls (r : Nat) (l : List UInt8) (at' fr : Nat) (Br b : Nat) (v : Value) (bs : List UInt8) (w : World) (hr : RD r l at' w) (hb : BAt Br b v (Lib.byteCells bs) w) (hrb : r < b) (hat : at' ≤ l.length) (hl : l.length ≤ 1000000000000) (hbs : bs.length ≤ 1000000000000) (hBr : Br ≤ w.heap.size) (hte : ∀ w1, Below r w w1 → TE w1) :
    Calls Tryz.prog 83 #[.pointer (some ⟨r, 0, none⟩), .pointer (some ⟨b, 0, none⟩), .int .i64 fr] w fun e w' => KB r b w w' ∧
      (∀ out at2, escR l at' = some (out, at2) → e = .returned (.tuple #[]) ∧ RD r l at2 w' ∧ ∃ v', BAt Br b v' (Lib.byteCells (bs ++ out)) w') ∧
      (escR l at' = none → e = .panicked [{ v := broken fr, recovered := false }]) := by
  have HR := Aside0.mk hr
  have HB := Aside0.mk hb
  have HTE := Aside0.mk hte
  have c0 : w.cell? ⟨r, 0, none⟩ = some (.string ⟨l.toArray⟩) := blk_cell hr 0
  have c1 : w.cell? ⟨r, 1, none⟩ = some (.int .i64 at') := blk_cell hr 1
  have f1 := blk_frozen hr 1
  have hsz : (ByteArray.mk l.toArray).size = l.length := by simp [ByteArray.size]
  clear hr hb hte
  by_cases hend : at' = l.length
  · have hgb : ((at' : Int) == (l.length : Int)) = true := by simp; omega
    go_enter Tryz.func83, Tryz.ntmps83
    go_wp2
    go_quiet (fail)
    go_wp2
    exact ⟨rfl, (KB.refl _ _ _).drewN _, (fun o a h => by rw [escR, List.getElem?_eq_none (by omega)] at h; cases h), (fun _ => rfl)⟩
  · have hgb : ((at' : Int) == (l.length : Int)) = false := by simp; omega
    go_enter Tryz.func83, Tryz.ntmps83
    go_wp2
    go_quiet (fail)
    go_wp2
    have hlt : at' < l.length := by omega
    have hltz : (at' : Int) < (l.length : Int) := by omega
    go_quiet (fail)
    go_wp2_with fail
    refine (Tryz.strings_IndexByte _ _ _).mono ?_
    rintro e w' ⟨rfl, hw'⟩
    have hix : (((l[at'].toNat : Nat) : Int).toNat).toUInt8 = l[at'] := by simp
    generalize hkk : Lib.indexByte _ _ = kk
    have HKK := Aside0.mk (show Lib.indexByte escTab l[at'] = kk by rw [← hkk, hix]; rfl)
    have HE := Aside0.mk (show escR l at' = if 0 ≤ Lib.indexByte escTab l[at'] then some ([escOut.getD (Lib.indexByte escTab l[at']).toNat 0], at' + 1) else
      if l[at'] ≠ 117 ∨ l.length < at' + 5 then none else
      match hexN 0 ((l.drop (at' + 1)).take 4) with
      | none => none
      | some n => if 55296 ≤ n ∧ n ≤ 57343 then none else some (runeB n, at' + 5) by rw [escR, List.getElem?_eq_getElem hlt]; rfl)
    have HR1 := Aside0.mk (show RD r l (at' + 1) w' by rw [hw']; exact HR.out.set (at' + 1))
    have HB1 := Aside0.mk (show BAt Br b v (Lib.byteCells bs) w' by rw [hw']; exact (HB.out.setR r 1 _ hrb).move fun _ _ _ => rfl)
    have HK1 := Aside0.mk (show KB r b w w' by rw [hw']; exact ((KB.refl r b w).set 1 _).drewN _)
    clear hkk hix hw' hgb HR HB c0 c1 f1
    have hw1 : w.heap.size ≤ w'.heap.size := HK1.out.2.1
    have d0 : w'.cell? ⟨r, 0, none⟩ = some (.string ⟨l.toArray⟩) := blk_cell HR1.out 0
    have d1 : w'.cell? ⟨r, 1, none⟩ = some (.int .i64 ((at' : Int) + 1)) := blk_cell HR1.out 1
    have g1 := blk_frozen HR1.out 1
    rw [HKK.out] at HE
    by_cases hk0 : 0 ≤ kk
    · rw [if_pos hk0] at HE
      have hk8 := indexByte_lt escTab l[at'] (by rw [HKK.out]; exact hk0)
      rw [HKK.out] at hk8
      clear HKK
      have HE' : kk = 0 ∨ kk = 1 ∨ kk = 2 ∨ kk = 3 ∨ kk = 4 ∨ kk = 5 ∨ kk = 6 ∨ kk = 7 := by
        have : (escTab.length : Int) = 8 := rfl
        omega
      clear hk8 hk0
      rcases HE' with rfl | rfl | rfl | rfl | rfl | rfl | rfl | rfl
      · go_wp2_with fail
        refine (WriteByte_calls Br b v (Lib.byteCells bs) 34 w' HB1.out (by simp [Lib.byteCells]; omega) (by omega)).mono ?_
        rintro e w2 ⟨rfl, v', hb2, hk2⟩
        have H2 := Aside0.mk hb2
        have HK2 := Aside0.mk hk2
        clear hb2 hk2
        go_wp2
        (try simp only [Exit.inBlock, Exit.then])
        refine bodyPost_ret (results_none rfl _ _ _) rfl ?_
        refine ⟨HK1.out.trans (KB.below HK2.out.1 hrb), (fun o a h => ?_), (fun h => by rw [HE.out] at h; cases h)⟩
        rw [HE.out] at h
        cases h
        exact ⟨rfl, HR1.out.kept HK2.out.1 hrb, v', by simpa [Lib.byteCells, escOut] using H2.out⟩
      · go_wp2_with fail
        refine (WriteByte_calls Br b v (Lib.byteCells bs) 92 w' HB1.out (by simp [Lib.byteCells]; omega) (by omega)).mono ?_
        rintro e w2 ⟨rfl, v', hb2, hk2⟩
        have H2 := Aside0.mk hb2
        have HK2 := Aside0.mk hk2
        clear hb2 hk2
        go_wp2
        (try simp only [Exit.inBlock, Exit.then])
        refine bodyPost_ret (results_none rfl _ _ _) rfl ?_
        refine ⟨HK1.out.trans (KB.below HK2.out.1 hrb), (fun o a h => ?_), (fun h => by rw [HE.out] at h; cases h)⟩
        rw [HE.out] at h
        cases h
        exact ⟨rfl, HR1.out.kept HK2.out.1 hrb, v', by simpa [Lib.byteCells, escOut] using H2.out⟩
      · go_wp2_with fail
        refine (WriteByte_calls Br b v (Lib.byteCells bs) 47 w' HB1.out (by simp [Lib.byteCells]; omega) (by omega)).mono ?_
        rintro e w2 ⟨rfl, v', hb2, hk2⟩
        have H2 := Aside0.mk hb2
        have HK2 := Aside0.mk hk2
        clear hb2 hk2
        go_wp2
        (try simp only [Exit.inBlock, Exit.then])
        refine bodyPost_ret (results_none rfl _ _ _) rfl ?_
        refine ⟨HK1.out.trans (KB.below HK2.out.1 hrb), (fun o a h => ?_), (fun h => by rw [HE.out] at h; cases h)⟩
        rw [HE.out] at h
        cases h
        exact ⟨rfl, HR1.out.kept HK2.out.1 hrb, v', by simpa [Lib.byteCells, escOut] using H2.out⟩
      · go_wp2_with fail
        refine (WriteByte_calls Br b v (Lib.byteCells bs) 8 w' HB1.out (by simp [Lib.byteCells]; omega) (by omega)).mono ?_
        rintro e w2 ⟨rfl, v', hb2, hk2⟩
        have H2 := Aside0.mk hb2
        have HK2 := Aside0.mk hk2
        clear hb2 hk2
        go_wp2
        (try simp only [Exit.inBlock, Exit.then])
        refine bodyPost_ret (results_none rfl _ _ _) rfl ?_
        refine ⟨HK1.out.trans (KB.below HK2.out.1 hrb), (fun o a h => ?_), (fun h => by rw [HE.out] at h; cases h)⟩
        rw [HE.out] at h
        cases h
        exact ⟨rfl, HR1.out.kept HK2.out.1 hrb, v', by simpa [Lib.byteCells, escOut] using H2.out⟩
      · go_wp2_with fail
        refine (WriteByte_calls Br b v (Lib.byteCells bs) 12 w' HB1.out (by simp [Lib.byteCells]; omega) (by omega)).mono ?_
        rintro e w2 ⟨rfl, v', hb2, hk2⟩
        have H2 := Aside0.mk hb2
        have HK2 := Aside0.mk hk2
        clear hb2 hk2
        go_wp2
        (try simp only [Exit.inBlock, Exit.then])
        refine bodyPost_ret (results_none rfl _ _ _) rfl ?_
        refine ⟨HK1.out.trans (KB.below HK2.out.1 hrb), (fun o a h => ?_), (fun h => by rw [HE.out] at h; cases h)⟩
        rw [HE.out] at h
        cases h
        exact ⟨rfl, HR1.out.kept HK2.out.1 hrb, v', by simpa [Lib.byteCells, escOut] using H2.out⟩
      · go_wp2_with fail
        refine (WriteByte_calls Br b v (Lib.byteCells bs) 10 w' HB1.out (by simp [Lib.byteCells]; omega) (by omega)).mono ?_
        rintro e w2 ⟨rfl, v', hb2, hk2⟩
        have H2 := Aside0.mk hb2
        have HK2 := Aside0.mk hk2
        clear hb2 hk2
        go_wp2
        (try simp only [Exit.inBlock, Exit.then])
        refine bodyPost_ret (results_none rfl _ _ _) rfl ?_
        refine ⟨HK1.out.trans (KB.below HK2.out.1 hrb), (fun o a h => ?_), (fun h => by rw [HE.out] at h; cases h)⟩
        rw [HE.out] at h
        cases h
        exact ⟨rfl, HR1.out.kept HK2.out.1 hrb, v', by simpa [Lib.byteCells, escOut] using H2.out⟩
      · go_wp2_with fail
        refine (WriteByte_calls Br b v (Lib.byteCells bs) 13 w' HB1.out (by simp [Lib.byteCells]; omega) (by omega)).mono ?_
        rintro e w2 ⟨rfl, v', hb2, hk2⟩
        have H2 := Aside0.mk hb2
        have HK2 := Aside0.mk hk2
        clear hb2 hk2
        go_wp2
        (try simp only [Exit.inBlock, Exit.then])
        refine bodyPost_ret (results_none rfl _ _ _) rfl ?_
        refine ⟨HK1.out.trans (KB.below HK2.out.1 hrb), (fun o a h => ?_), (fun h => by rw [HE.out] at h; cases h)⟩
        rw [HE.out] at h
        cases h
        exact ⟨rfl, HR1.out.kept HK2.out.1 hrb, v', by simpa [Lib.byteCells, escOut] using H2.out⟩
      · go_wp2_with fail
        refine (WriteByte_calls Br b v (Lib.byteCells bs) 9 w' HB1.out (by simp [Lib.byteCells]; omega) (by omega)).mono ?_
        rintro e w2 ⟨rfl, v', hb2, hk2⟩
        have H2 := Aside0.mk hb2
        have HK2 := Aside0.mk hk2
        clear hb2 hk2
        go_wp2
        (try simp only [Exit.inBlock, Exit.then])
        refine bodyPost_ret (results_none rfl _ _ _) rfl ?_
        refine ⟨HK1.out.trans (KB.below HK2.out.1 hrb), (fun o a h => ?_), (fun h => by rw [HE.out] at h; cases h)⟩
        rw [HE.out] at h
        cases h
        exact ⟨rfl, HR1.out.kept HK2.out.1 hrb, v', by simpa [Lib.byteCells, escOut] using H2.out⟩
    · rw [if_neg hk0] at HE
      have hkz : ¬ (0 : Int) ≤ kk := hk0
      by_cases hu : l[at'] = 117
      · have hub : ((((l[at'].toNat : Nat) : Int)) == 117) = true := by rw [hu]; rfl
        by_cases hlen : l.length < at' + 5
        · have hlz : (l.length : Int) < (at' : Int) + 1 + 4 := by omega
          have hdz : decide ((l.length : Int) < (at' : Int) + 1 + 4) = true := decide_eq_true hlz
          rw [if_pos (Or.inr hlen)] at HE
          have hwr : IntKind.i64.wrap ((at' : Int) + 1 + 4) = (at' : Int) + 1 + 4 := IntWalk.i64_in _ (by omega)
          go_wp2
          go_quiet (fail)
          go_wp2
          exact ⟨rfl, HK1.out.drewN _, (fun o a h => by rw [HE.out] at h; cases h), (fun _ => rfl)⟩
        · have hlz : ¬ (l.length : Int) < (at' : Int) + 1 + 4 := by omega
          have hdz : decide ((l.length : Int) < (at' : Int) + 1 + 4) = false := decide_eq_false hlz
          rw [if_neg (by simp [hu]; omega)] at HE
          have hwr : IntKind.i64.wrap ((at' : Int) + 1 + 4) = (at' : Int) + 1 + 4 := IntWalk.i64_in _ (by omega)
          go_wp2
          go_quiet (fail)
          go_wp2
          have hsl : ∀ W, (Instr.slice 9 (.string ⟨l.toArray⟩) (some (.int .i64 ((at' : Int) + 1))) (some (.int .i64 ((at' : Int) + 1 + 4))) none).run Tryz.prog W = .ok (.string ⟨((l.drop (at' + 1)).take 4).toArray⟩) W := fun W => by
            rw [run_slice_string W 9 _ _ _ _ _ Tryz.underlying9 (by omega) (by omega) (by rw [hsz]; omega), ext_seg]
            have e1 : ((at' : Int) + 1).toNat = at' + 1 := by omega
            have e2 : ((at' : Int) + 1 + 4).toNat = at' + 5 := by omega
            rw [e1, e2]
            simp
          have HT4 := Aside0.mk (show ((l.drop (at' + 1)).take 4).length = 4 by rw [List.length_take, List.length_drop]; omega)
          generalize (l.drop (at' + 1)).take 4 = t4 at *
          have HX := Aside0.mk (show TE w' from HTE.out _ HK1.out.1)
          go_quiet (fail)
          go_wp2_with fail
          refine (PU_calls t4 HT4.out _ (HX.out.drewN _)).mono ?_
          rintro e w2 ⟨hb2, h2⟩
          have hb3 : Below w'.heap.size w' w2 := by
            have := hb2
            exact ⟨this.os, this.tape, this.output, this.size, this.block⟩
          have HR2 := Aside0.mk (HR1.out.below hb3)
          have HB2 := Aside0.mk (HB1.out.move fun k hk _ => hb3.block k hk)
          have HK2 := Aside0.mk (HK1.out.trans ((KB.below hb3 (blk_lt HR1.out)).mono (Nat.le_of_lt HB1.out.blt)))
          have hw2 : w'.heap.size ≤ w2.heap.size := hb3.size
          clear hb2 hb3 d0 d1 g1
          have d0 : w2.cell? ⟨r, 0, none⟩ = some (.string ⟨l.toArray⟩) := blk_cell HR2.out 0
          have d1 : w2.cell? ⟨r, 1, none⟩ = some (.int .i64 ((at' : Int) + 1)) := blk_cell HR2.out 1
          have g1 := blk_frozen HR2.out 1
          cases hn : hexN 0 t4 with
          | none =>
            rw [hn] at HE
            obtain ⟨N, rfl⟩ := h2.2 hn
            clear hn h2
            go_wp2
            exact ⟨rfl, HK2.out, (fun o a h => by rw [HE.out] at h; cases h), (fun _ => rfl)⟩
          | some n =>
            rw [hn] at HE
            obtain ⟨rfl, hn1⟩ := h2.1 n hn
            have hca := hexN_noAny t4 n hn
            have hasc : ∀ (j : Nat) (b : UInt8), t4[j]? = some b → b.toNat < 128 := fun j b hj => (hexN_bytes t4 0 n hn b (List.mem_of_getElem? hj)).1
            clear hn h2
            go_wp2_with fail
            refine (Tryz.strings_ContainsAny (fun w => by kernel_rfl) _ _ _ (by rw [show (ByteArray.mk t4.toArray).size = t4.length by simp [ByteArray.size], HT4.out]; decide) (by decide) (by simpa using hasc) any_ascii).mono ?_
            rintro e w3 ⟨he, hb3⟩
            rw [show Lib.containsAny (ByteArray.mk t4.toArray).data.toList (ByteArray.mk #[43, 45, 95]).data.toList = false from hca] at he
            subst he
            have HR3 := Aside0.mk (HR2.out.below hb3)
            have HB3 := Aside0.mk (HB2.out.move fun k hk _ => hb3.block k hk)
            have HK3 := Aside0.mk (HK2.out.trans ((KB.below hb3 (blk_lt HR2.out)).mono (Nat.le_of_lt HB2.out.blt)))
            have hw3 : w2.heap.size ≤ w3.heap.size := hb3.size
            clear hb3 d0 d1 g1 hca hasc
            have d0 : w3.cell? ⟨r, 0, none⟩ = some (.string ⟨l.toArray⟩) := blk_cell HR3.out 0
            have d1 : w3.cell? ⟨r, 1, none⟩ = some (.int .i64 ((at' : Int) + 1)) := blk_cell HR3.out 1
            have g1 := blk_frozen HR3.out 1
            have hvr := validB n hn1
            by_cases hsur : 55296 ≤ n ∧ n ≤ 57343
            · rw [decide_eq_true hsur] at hvr
              rw [if_pos hsur] at HE
              clear hsur
              go_wp2_with fail
              refine (Tryz.utf8_ValidRune _ _).mono ?_
              rintro e w' ⟨he, rfl⟩
              rw [hvr] at he
              subst he
              go_wp2
              exact ⟨rfl, HK3.out, (fun o a h => by rw [HE.out] at h; cases h), (fun _ => rfl)⟩
            · rw [decide_eq_false hsur] at hvr
              rw [if_neg hsur] at HE
              have HS := Aside0.mk hsur
              clear hsur
              go_wp2_with fail
              refine (Tryz.utf8_ValidRune _ _).mono ?_
              rintro e w' ⟨he, rfl⟩
              rw [hvr] at he
              subst he
              clear hvr
              go_wp2_with fail
              refine (WriteRune_calls Br b v (Lib.byteCells bs) n _ (HB3.out.setR r 1 (.int .i64 ((at' : Int) + 1 + 4)) hrb) (by omega) HS.out (by simp [Lib.byteCells]; omega) (by simp [World.setCell]; omega)).mono ?_
              rintro e w4 ⟨⟨k4, rfl⟩, v', hb4, hk4⟩
              have HB4 := Aside0.mk hb4
              have HK4 := Aside0.mk hk4
              clear hb4 hk4
              go_wp2
              (try simp only [Exit.inBlock, Exit.then])
              go_end0
              refine ⟨?_, (fun o a h => ?_), (fun h => by rw [HE.out] at h; cases h)⟩
              · exact (HK3.out.set 1 _).trans (KB.below HK4.out.1 hrb)
              · rw [HE.out] at h
                cases h
                exact ⟨rfl, (HR3.out.set (at' + 5)).kept HK4.out.1 hrb, v', by simpa [Lib.byteCells] using HB4.out⟩
      · have hub : ((((l[at'].toNat : Nat) : Int)) == 117) = false := by
          have := u8_eq l[at'] 117
          rw [show ((117 : UInt8).toNat : Int) = 117 from rfl] at this
          rw [this]
          exact beq_eq_false_iff_ne.2 hu
        rw [if_pos (Or.inl hu)] at HE
        have hubn : ((((l[at'].toNat : Nat) : Int)) != 117) = true := by rw [bne, hub]; rfl
        go_wp2
        go_quiet (fail)
        go_wp2
        exact ⟨rfl, HK1.out.drewN _, (fun o a h => by rw [HE.out] at h; cases h), (fun _ => rfl)⟩
end Go.Proofs.YtegppkngdkkdcaaGreatDoor.Lx
namespace Go.Proofs.YtegppkngdkkdcaaGreatDoor.Lx
open Go.RowKit Go.Proofs.YtegppkngdkkdcaaGreatDoorW.PrintWords Go.Proofs.YtegppkngdkkdcaaGreatDoorW.PrintLast Go.Proofs.YtegppkngdkkdcaaGreatDoorW.PrintMore
attribute [local go_sem] idx_list
theorem escR_step {l : List UInt8} {a : Nat} {o : List UInt8} {a2 : Nat} (h : escR l a = some (o, a2)) : a < a2 ∧ o.length ≤ a2 - a ∧ a2 ≤ l.length := by
  unfold escR at h
  split at h
  · cases h
  · rename_i c hc
    have hlt := (List.getElem?_eq_some_iff.1 hc).1
    split at h
    · cases h
      exact ⟨by omega, by simp, by omega⟩
    · split at h
      · cases h
      · rename_i hk
        split at h
        · cases h
        · split at h
          · cases h
          · cases h
            have hb : ∀ n, (runeB n).length ≤ 3 := fun n => by
              unfold runeB
              split
              · simp
              · split <;> simp
            rename_i n _ _
            refine ⟨by omega, by have := hb n; omega, by omega⟩
theorem KeepR.drewN {r : Nat} {w w1 : World} (h : KeepR r w w1) (n : Nat) : KeepR r w (w1.drewN n) := ⟨⟨h.1.os, h.1.tape, h.1.output, h.1.size, h.1.block⟩, h.2.1, h.2.2⟩
theorem BAt.new (w : World) : BAt (w.heap.size + 1) w.heap.size (.slice none 0 0) (Lib.byteCells []) (w.alloc (.cells #[.pointer none, .slice none 0 0] 65)) := by
  refine ⟨.inl ?_, ?_, Nat.lt_succ_self _⟩
  · simp [World.alloc, -World.alloc_eq]
  · exact World.ownsRow_nil _ _ _ _
theorem byteCells_snoc (l : List UInt8) (c : UInt8) : Lib.byteCells l ++ [Value.int .u8 c.toNat] = Lib.byteCells (l ++ [c]) := by simp [Lib.byteCells]
set_option maxRecDepth 100000 in
set_option maxHeartbeats 2000000 in
theorem text_calls (r : Nat) (l : List UInt8) (at' : Nat) (w : World) (hr : RD r l at' w) (hat : at' < l.length) (hl : l.length ≤ 1000000000000) (hte : ∀ w1, Below r w w1 → TE w1) :
    Calls Tryz.prog 64 #[.pointer (some ⟨r, 0, none⟩)] w fun e w' => KeepR r w w' ∧
      ((∀ out a2, textR l (l.length + 1) (at' + 1) [] = some (out, a2) → e = .returned (.string ⟨out.toArray⟩) ∧ RD r l a2 w') ∧
       (textR l (l.length + 1) (at' + 1) [] = none → e = .panicked [{ v := broken at', recovered := false }])) := by
  have HR := Aside0.mk hr
  have HTE := Aside0.mk hte
  have c1 : w.cell? ⟨r, 1, none⟩ = some (.int .i64 at') := blk_cell hr 1
  have f1 := blk_frozen hr 1
  have hrl := blk_lt hr
  have hsz : (ByteArray.mk l.toArray).size = l.length := by simp [ByteArray.size]
  clear hr hte
  generalize hX : textR l (l.length + 1) (at' + 1) [] = X
  have HX := Aside0.mk hX
  clear hX
  obtain ⟨b, hb⟩ : ∃ b, b = w.heap.size := ⟨_, rfl⟩
  go_enter Tryz.func64, Tryz.ntmps64
  go_wp2
  go_loopg [] (l.length - (at' + 1)) (fun kq w2 => ∃ (n f : Nat) (acc : List UInt8) (v : Value), n + kq = l.length ∧ at' + 1 ≤ n ∧ l.length < n + f ∧ acc.length ≤ n ∧ w.heap.size + 1 ≤ w2.heap.size ∧ Aside0 (textR l f n acc = X) ∧ Aside0 (RD r l n w2) ∧ Aside0 (BAt (w.heap.size + 1) w.heap.size v (Lib.byteCells acc) w2) ∧ Aside0 (KeepR r w w2))
  case atStart =>
    refine ⟨at' + 1, l.length + 1, [], .slice none 0 0, by omega, Nat.le_refl _, by omega, by simp, by simp [World.setCell], HX, Aside0.mk ?_, Aside0.mk ?_, Aside0.mk ?_⟩
    · exact (HR.out.set (at' + 1)).below (Below.refl _ _ |>.alloc (Nat.le_refl _) _)
    · have h := BAt.new (w.setCell ⟨r, 1, none⟩ (.int .i64 ((at' : Int) + 1)))
      rw [show (w.setCell ⟨r, 1, none⟩ (.int .i64 ((at' : Int) + 1))).heap.size = w.heap.size by simp [World.setCell]] at h
      exact h
    · exact ((KB.refl r w.heap.size w).set 1 _).trans (KB.below ((Below.refl _ _).alloc (by simp [World.setCell]) _) hrl)
  case round =>
    obtain ⟨n, f, acc, v, hn, hna, hnf, hacc, hsz2, HT, HR2, HB, HK⟩ := hrel
    have d0 : wr.cell? ⟨r, 0, none⟩ = some (.string ⟨l.toArray⟩) := blk_cell HR2.out 0
    have d1 : wr.cell? ⟨r, 1, none⟩ = some (.int .i64 n) := blk_cell HR2.out 1
    have g1 := blk_frozen HR2.out 1
    obtain ⟨f, rfl⟩ : ∃ m, f = m + 1 := ⟨f - 1, by omega⟩
    cases gk with
    | zero =>
      have hge : ¬ ((n : Nat) : Int) < (l.length : Int) := by omega
      have hgd : decide (((n : Nat) : Int) < (l.length : Int)) = false := decide_eq_false hge
      have HX0 := Aside0.mk (show X = none by rw [← HT.out, textR, List.getElem?_eq_none (by omega)])
      go_wp2
      go_quiet (fail)
      go_wp2
      exact ⟨rfl, KeepR.drewN HK.out _, (fun o a h => by rw [HX0.out] at h; cases h), (fun _ => rfl)⟩
    | succ k1 =>
      have hlt : n < l.length := by omega
      have hltz : ((n : Nat) : Int) < (l.length : Int) := by omega
      have hgd : decide (((n : Nat) : Int) < (l.length : Int)) = true := decide_eq_true hltz
      have HT2 := Aside0.mk (show textR l (f + 1) n acc = if l[n] = 34 then some (acc, n + 1) else if l[n].toNat < 32 then none else if l[n] = 92 then
        match escR l (n + 1) with
        | none => none
        | some (o, a2) => textR l f a2 (acc ++ o)
        else textR l f (n + 1) (acc ++ [l[n]]) by rw [textR, List.getElem?_eq_getElem hlt]; rfl)
      rw [HT.out] at HT2
      have HR3 := fun nq => Aside0.mk (show RD r l (n + 1) ((wr.drewN nq).setCell ⟨r, 1, none⟩ (.int .i64 ((n : Int) + 1))) from RD.set (w := wr.drewN nq) HR2.out (n + 1))
      have HB3 := fun nq => Aside0.mk (show BAt (w.heap.size + 1) w.heap.size v (Lib.byteCells acc) ((wr.drewN nq).setCell ⟨r, 1, none⟩ (.int .i64 ((n : Int) + 1))) from (HB.out.move (w' := wr.drewN nq) fun _ _ _ => rfl).setR r 1 _ hrl)
      have HK3 := fun nq => Aside0.mk (show KeepR r w ((wr.drewN nq).setCell ⟨r, 1, none⟩ (.int .i64 ((n : Int) + 1))) from (KeepR.drewN HK.out nq).set 1 _)
      have hz3 : ∀ nq, ((wr.drewN nq).setCell ⟨r, 1, none⟩ (.int .i64 ((n : Int) + 1))).heap.size = wr.heap.size := fun nq => by simp [World.setCell]
      have HZ3 := Aside0.mk hz3
      clear hz3
      by_cases q1 : l[n] = 34
      · rw [if_pos q1] at HT2
        have hq1 : ((l[n].toNat : Int) == 34) = true := by rw [q1]; rfl
        clear q1
        go_wp2
        go_quiet (fail)
        go_wp2
        go_quiet (fail)
        go_wp2_with fail
        refine (Tryz.Builder_String_any w.heap.size w.heap.size acc _ (HB3 _).out.is (by rw [HZ3.out]; omega)).mono ?_
        rintro e w2 ⟨rfl, hb2⟩
        have HF := Aside0.mk hb2
        clear hb2
        go_wp2
        (try simp only [Exit.inBlock, Exit.then])
        go_ret
        refine ⟨(show KB r w.heap.size w _ from (HK3 _).out).trans (KB.below HF.out hrl), (fun o a h => ?_), (fun h => by rw [HT2.out] at h; cases h)⟩
        rw [HT2.out] at h
        cases h
        exact ⟨rfl, (HR3 _).out.kept HF.out hrl⟩
      · rw [if_neg q1] at HT2
        have hq1 : ((l[n].toNat : Int) == 34) = false := by
          have := u8_eq l[n] 34
          rw [show ((34 : UInt8).toNat : Int) = 34 from rfl] at this
          rw [this]
          exact beq_eq_false_iff_ne.2 q1
        clear q1
        by_cases q2 : l[n].toNat < 32
        · rw [if_pos q2] at HT2
          have hq2 : (l[n].toNat : Int) < 32 := by omega
          clear q2
          go_wp2
          go_quiet (fail)
          go_wp2
          go_quiet (fail)
          go_wp2
          exact ⟨rfl, (HK3 _).out, (fun o a h => by rw [HT2.out] at h; cases h), (fun _ => rfl)⟩
        · rw [if_neg q2] at HT2
          have hq2 : ¬ (l[n].toNat : Int) < 32 := by omega
          clear q2
          by_cases q3 : l[n] = 92
          · rw [if_pos q3] at HT2
            have hq3 : ((l[n].toNat : Int) == 92) = true := by rw [q3]; rfl
            clear q3
            go_wp2
            go_quiet (fail)
            go_wp2
            go_quiet (fail)
            go_wp2_with fail
            refine (escape_calls r l (n + 1) at' (w.heap.size + 1) w.heap.size v acc _ (HR3 _).out (HB3 _).out hrl (by omega) hl (by omega) (by rw [HZ3.out]; omega) (fun w1 h1 => HTE.out w1 ((HK3 _).out.1.trans h1))).mono ?_
            rintro e w2 ⟨hk4, hs4, hn4⟩
            cases hE : escR l (n + 1) with
            | none =>
              have HT3 := Aside0.mk (show X = none by rw [HT2.out, hE])
              have he := hn4 hE
              subst he
              have HK4 := Aside0.mk hk4
              clear hk4 hs4 hn4 hE
              go_wp2
              exact ⟨rfl, (show KB r w.heap.size w _ from (HK3 _).out).trans HK4.out, (fun o a h => by rw [HT3.out] at h; cases h), (fun _ => rfl)⟩
            | some p =>
              obtain ⟨o, a2⟩ := p
              have HT3 := Aside0.mk (show textR l f a2 (acc ++ o) = X by rw [HT2.out, hE])
              obtain ⟨he, hr4, v', hb4⟩ := hs4 o a2 hE
              subst he
              have hst := escR_step hE
              have HK4 := Aside0.mk hk4
              have HR4 := Aside0.mk hr4
              have HB4 := Aside0.mk hb4
              have hz4 : w.heap.size + 1 ≤ w2.heap.size := by
                have := hk4.2.1
                rw [HZ3.out] at this
                omega
              clear hk4 hs4 hn4 hE hr4 hb4
              go_wp2
              go_roundg (l.length - a2)
              case measure => omega
              case rel => exact ⟨a2, f, acc ++ o, v', by omega, by omega, by omega, by rw [List.length_append]; omega, hz4, HT3, HR4, HB4, Aside0.mk ((show KB r w.heap.size w _ from (HK3 _).out).trans HK4.out)⟩
          · rw [if_neg q3] at HT2
            have hq3 : ((l[n].toNat : Int) == 92) = false := by
              have := u8_eq l[n] 92
              rw [show ((92 : UInt8).toNat : Int) = 92 from rfl] at this
              rw [this]
              exact beq_eq_false_iff_ne.2 q3
            clear q3
            go_wp2
            go_quiet (fail)
            go_wp2
            go_quiet (fail)
            go_wp2_with fail
            refine (WriteByte_calls (w.heap.size + 1) w.heap.size v (Lib.byteCells acc) l[n] _ (HB3 _).out (by simp [Lib.byteCells]; omega) (by rw [HZ3.out]; omega)).mono ?_
            rintro e w2 ⟨rfl, v', hb4, hk4⟩
            rw [byteCells_snoc] at hb4
            have HB4 := Aside0.mk hb4
            have HK4 := Aside0.mk hk4
            have hz4 : w.heap.size + 1 ≤ w2.heap.size := by
              have := hk4.1.size
              rw [HZ3.out] at this
              omega
            clear hb4 hk4
            go_wp2
            go_roundg (l.length - (n + 1))
            case measure => omega
            case rel => exact ⟨n + 1, f, acc ++ [l[n]], v', by omega, by omega, by omega, by rw [List.length_append]; simp; omega, hz4, Aside0.mk HT2.out.symm, Aside0.mk ((HR3 _).out.kept HK4.out.1 hrl), HB4, Aside0.mk ((show KB r w.heap.size w _ from (HK3 _).out).trans (KB.below HK4.out.1 hrl))⟩
end Go.Proofs.YtegppkngdkkdcaaGreatDoor.Lx
end
section
set_option linter.unusedVariables false
set_option linter.unusedSimpArgs false
namespace Go.Proofs.YtegppkngdkkdcaaGreatDoor.Lx
open Go.RowKit Go.Proofs.YtegppkngdkkdcaaGreatDoorW.PrintWords Go.Proofs.YtegppkngdkkdcaaGreatDoorW.PrintLast Go.Proofs.YtegppkngdkkdcaaGreatDoorW.PrintMore
def DeB (w : World) : Prop := w.cell? ⟨5, 15, none⟩ = some (.int .u8 4)
theorem cell_below' {w w' : World} {a : Addr} {v : Value} (hb : Below w.heap.size w w') (h : w.cell? a = some v) : w'.cell? a = some v := by
  have hlt : a.block < w.heap.size := by
    rcases Nat.lt_or_ge a.block w.heap.size with h' | h'
    · exact h'
    · simp [World.cell?, Array.getElem?_eq_none h'] at h
  rw [World.cell?_of_block (hb.block _ hlt)]
  exact h
theorem tz_calls (w : World) (h : DeB w) : Calls Tryz.prog 116 #[.int .u64 16] w fun e w' => e = .returned (.int .i64 4) ∧ w' = w := by
  unfold DeB at h
  have k1 : IntKind.u64.wrap (bits BinOp.and IntKind.u64 16 (IntKind.u64.wrap (-16)) * 285870213051353865) / 288230376151711744 = 15 := by decide +kernel
  go_enter Tryz.func116, Tryz.ntmps116
  go_wp2
  go_ret
  exact ⟨rfl, rfl⟩
theorem tz_any (w : World) (h : DeB w) : Calls Tryz.prog 107 #[.int .u64 16] w fun e w' => e = .returned (.int .i64 4) ∧ w' = w := by
  have H := Aside0.mk h
  clear h
  go_enter Tryz.func107, Tryz.ntmps107
  go_wp2_with fail
  refine (tz_calls _ H.out).mono ?_
  rintro e w' ⟨rfl, rfl⟩
  go_wp2
  go_ret
  exact ⟨rfl, rfl⟩
theorem pow2_calls (w : World) : Calls Tryz.prog 106 #[.int .i64 16] w fun e w' => e = .returned (.bool true) ∧ w' = w := by
  have k1 : (bits BinOp.and IntKind.i64 16 15 == 0) = true := by decide +kernel
  go_enter Tryz.func106, Tryz.ntmps106
  go_wp2
  go_ret
  exact ⟨rfl, rfl⟩
def dig36 : ByteArray := ⟨#[48, 49, 50, 51, 52, 53, 54, 55, 56, 57, 97, 98, 99, 100, 101, 102, 103, 104, 105, 106, 107, 108, 109, 110, 111, 112, 113, 114, 115, 116, 117, 118, 119, 120, 121, 122]⟩
theorem dig36_hex : ∀ u, (h : u < 16) → dig36[u]'(Nat.lt_of_lt_of_le h (by decide)) = hexC u := by decide +kernel
theorem and15 : ∀ u : Nat, u < 16 → bits BinOp.and IntKind.u64 ((u : Int) + 16) 15 = (u : Int) := by decide +kernel
theorem zc_size : Tryz.zeroCells136.size = 65 := by kernel_rfl
theorem conv1 (w : World) (c : UInt8) : (convert 63 9 (.slice (some ⟨w.heap.size, 64, none⟩) 1 1)).run Tryz.prog (w.alloc (.cells (Tryz.zeroCells136.setIfInBounds 64 (.int .u8 c.toNat)) 136)) =
    .ok (.string ⟨#[c]⟩) (w.alloc (.cells (Tryz.zeroCells136.setIfInBounds 64 (.int .u8 c.toNat)) 136)) := by
  refine run_convert_bytes_back _ 63 9 5 ⟨w.heap.size, 64, none⟩ 1 [c] Tryz.underlying63 Tryz.underlying5 Tryz.underlying9 (fun j hj => ?_)
  have hj0 : j = 0 := by simp at hj; exact hj
  subst hj0
  simp [World.cell?, World.alloc, -World.alloc_eq, Addr.add, zc_size]
theorem conv2 (w : World) (b c : UInt8) : (convert 63 9 (.slice (some ⟨w.heap.size, 63, none⟩) 2 2)).run Tryz.prog (w.alloc (.cells ((Tryz.zeroCells136.setIfInBounds 64 (.int .u8 c.toNat)).setIfInBounds 63 (.int .u8 b.toNat)) 136)) =
    .ok (.string ⟨#[b, c]⟩) (w.alloc (.cells ((Tryz.zeroCells136.setIfInBounds 64 (.int .u8 c.toNat)).setIfInBounds 63 (.int .u8 b.toNat)) 136)) := by
  refine run_convert_bytes_back _ 63 9 5 ⟨w.heap.size, 63, none⟩ 2 [b, c] Tryz.underlying63 Tryz.underlying5 Tryz.underlying9 (fun j hj => ?_)
  have hj0 : j = 0 ∨ j = 1 := by simp at hj; omega
  rcases hj0 with rfl | rfl
  · simp [World.cell?, World.alloc, -World.alloc_eq, Addr.add, zc_size]
  · simp [World.cell?, World.alloc, -World.alloc_eq, Addr.add, zc_size]
set_option maxRecDepth 100000 in
set_option maxHeartbeats 2000000 in
theorem bits_one (u : Nat) (hu : u < 16) (w : World) (h : DeB w) : Calls Tryz.prog 92 #[.slice none 0 0, .int .u64 u, .int .i64 16, .bool false, .bool false] w fun e w' => e = .returned (.tuple #[.slice none 0 0, .string ⟨#[hexC u]⟩]) ∧ Below w.heap.size w w' := by
  have H := Aside0.mk h
  clear h
  go_enter Tryz.func92, Tryz.ntmps92
  go_wp2_with fail
  refine (pow2_calls _).mono ?_
  rintro e w' ⟨rfl, rfl⟩
  go_wp2_with fail
  have HD := fun (o : Obj) => Aside0.mk (show DeB (w.alloc o) from ((Below.refl w.heap.size w).alloc (Nat.le_refl _) o |> cell_below' <| H.out))
  refine (tz_any _ (HD _).out).mono ?_
  rintro e w' ⟨rfl, rfl⟩
  have hlt : ¬ (16 : Int) ≤ (u : Int) := by omega
  go_wp2
  have hcv := conv1 w (dig36[u]'(Nat.lt_of_lt_of_le hu (by decide)))
  rw [dig36_hex u hu] at hcv
  have hdg : (dig36[u]'(Nat.lt_of_lt_of_le hu (by decide))) = hexC u := dig36_hex u hu
  unfold dig36 at hdg
  go_rounds 1
  go_ret2
  exact ⟨rfl, (Below.refl _ _).alloc (Nat.le_refl _) _⟩
set_option maxRecDepth 100000 in
set_option maxHeartbeats 2000000 in
theorem bits_two (u : Nat) (hu : u < 16) (w : World) (h : DeB w) : Calls Tryz.prog 92 #[.slice none 0 0, .int .u64 ((u : Int) + 16), .int .i64 16, .bool false, .bool false] w fun e w' => e = .returned (.tuple #[.slice none 0 0, .string ⟨#[49, hexC u]⟩]) ∧ Below w.heap.size w w' := by
  have H := Aside0.mk h
  clear h
  go_enter Tryz.func92, Tryz.ntmps92
  go_wp2_with fail
  refine (pow2_calls _).mono ?_
  rintro e w' ⟨rfl, rfl⟩
  go_wp2_with fail
  have HD := fun (o : Obj) => Aside0.mk (show DeB (w.alloc o) from ((Below.refl w.heap.size w).alloc (Nat.le_refl _) o |> cell_below' <| H.out))
  refine (tz_any _ (HD _).out).mono ?_
  rintro e w' ⟨rfl, rfl⟩
  have hlt : (16 : Int) ≤ (u : Int) + 16 := by omega
  have hand : bits BinOp.and IntKind.u64 ((u : Int) + 16) 15 = (u : Int) := and15 u hu
  have hdiv : ((u : Int) + 16) / 16 = 1 := by omega
  go_wp2
  have hcv := conv2 w (dig36[1]'(by decide)) (hexC u)
  rw [show (ByteArray.mk [dig36[1]'(by decide), hexC u].toArray) = ⟨#[49, hexC u]⟩ from rfl] at hcv
  unfold dig36 at hcv
  have hdg : (dig36[u]'(Nat.lt_of_lt_of_le hu (by decide))) = hexC u := dig36_hex u hu
  unfold dig36 at hdg
  go_rounds 2
  go_ret2
  exact ⟨rfl, (Below.refl _ _).alloc (Nat.le_refl _) _⟩
theorem hexI_one (u : Nat) (hu : u < 16) (w : World) (h : DeB w) : Calls Tryz.prog 81 #[.int .i64 ((u : Int)), .int .i64 16] w fun e w' => e = .returned (.string ⟨#[hexC u]⟩) ∧ Below w.heap.size w w' := by
  have H := Aside0.mk h
  clear h
  have h0 : (0 : Int) ≤ (u : Int) := by omega
  have h1 : ¬ ((u : Int) : Int) < 0 := by omega
  go_enter Tryz.func81, Tryz.ntmps81
  go_wp2_with fail
  refine (bits_one u hu _ H.out).mono ?_
  rintro e w' ⟨rfl, hb⟩
  have HB := Aside0.mk hb
  clear hb
  go_wp2
  go_ret
  exact ⟨rfl, HB.out⟩
theorem hex_one (u : Nat) (hu : u < 16) (w : World) (h : DeB w) : Calls Tryz.prog 54 #[.int .i64 ((u : Int)), .int .i64 16] w fun e w' => e = .returned (.string ⟨#[hexC u]⟩) ∧ Below w.heap.size w w' := by
  have H := Aside0.mk h
  clear h
  go_enter Tryz.func54, Tryz.ntmps54
  go_wp2_with fail
  refine (hexI_one u hu _ H.out).mono ?_
  rintro e w' ⟨rfl, hb⟩
  have HB := Aside0.mk hb
  clear hb
  go_wp2
  go_ret
  exact ⟨rfl, HB.out⟩
theorem hexI_two (u : Nat) (hu : u < 16) (w : World) (h : DeB w) : Calls Tryz.prog 81 #[.int .i64 ((u : Int) + 16), .int .i64 16] w fun e w' => e = .returned (.string ⟨#[49, hexC u]⟩) ∧ Below w.heap.size w w' := by
  have H := Aside0.mk h
  clear h
  have h0 : (0 : Int) ≤ (u : Int) + 16 := by omega
  have h1 : ¬ ((u : Int) + 16 : Int) < 0 := by omega
  go_enter Tryz.func81, Tryz.ntmps81
  go_wp2_with fail
  refine (bits_two u hu _ H.out).mono ?_
  rintro e w' ⟨rfl, hb⟩
  have HB := Aside0.mk hb
  clear hb
  go_wp2
  go_ret
  exact ⟨rfl, HB.out⟩
theorem hex_two (u : Nat) (hu : u < 16) (w : World) (h : DeB w) : Calls Tryz.prog 54 #[.int .i64 ((u : Int) + 16), .int .i64 16] w fun e w' => e = .returned (.string ⟨#[49, hexC u]⟩) ∧ Below w.heap.size w w' := by
  have H := Aside0.mk h
  clear h
  go_enter Tryz.func54, Tryz.ntmps54
  go_wp2_with fail
  refine (hexI_two u hu _ H.out).mono ?_
  rintro e w' ⟨rfl, hb⟩
  have HB := Aside0.mk hb
  clear hb
  go_wp2
  go_ret
  exact ⟨rfl, HB.out⟩
end Go.Proofs.YtegppkngdkkdcaaGreatDoor.Lx
end
section
set_option linter.unusedVariables false
set_option linter.unusedSimpArgs false
namespace Go.Proofs.YtegppkngdkkdcaaGreatDoor.Lx
open Go.RowKit Go.Proofs.YtegppkngdkkdcaaGreatDoorW.PrintWords Go.Proofs.YtegppkngdkkdcaaGreatDoorW.PrintLast Go.Proofs.YtegppkngdkkdcaaGreatDoorW.PrintMore
attribute [local go_sem] idx_list
theorem DeB.below {w w' : World} (h : DeB w) (hb : Below w.heap.size w w') : DeB w' := cell_below' hb h
def P10 (w : World) : Prop := Lib.TabIs Tryz.prog w "internal/strconv.uint64pow10" .u64 Lib.pow10Tab
structure LW (w : World) : Prop where
  te : TE w
  deb : DeB w
  p10 : P10 w
theorem hex_two' (c : Nat) (h1 : 16 ≤ c) (h2 : c < 32) (w : World) (h : DeB w) : Calls Tryz.prog 54 #[.int .i64 (c : Int), .int .i64 16] w fun e w' => e = .returned (.string ⟨#[49, hexC (c - 16)]⟩) ∧ Below w.heap.size w w' := by
  have e : ((c : Nat) : Int) = ((c - 16 : Nat) : Int) + 16 := by omega
  rw [e]
  exact hex_two (c - 16) (by omega) w h
theorem quoteB_len (c : UInt8) : (quoteB c).length ≤ 6 := by
  unfold quoteB
  split
  · simp
  · split
    · simp
    · split
      · simp
      · split <;> simp
theorem quote_take (l : List UInt8) (n : Nat) (h : n < l.length) : (l.take (n + 1)).flatMap quoteB = (l.take n).flatMap quoteB ++ quoteB l[n] := by
  rw [List.take_succ_eq_append_getElem h, List.flatMap_append]
  simp
theorem quote_len (l : List UInt8) : (l.flatMap quoteB).length ≤ 6 * l.length := by
  induction l with
  | nil => simp
  | cons c l ih =>
    have := quoteB_len c
    simp only [List.flatMap_cons, List.length_append, List.length_cons]
    omega
theorem strCells_list (l : List UInt8) : Lib.strCells ⟨l.toArray⟩ = Lib.byteCells l := by simp [Lib.strCells, Lib.byteCells]
set_option maxRecDepth 100000 in
set_option maxHeartbeats 2000000 in
theorem Quote_calls (l : List UInt8) (w : World) (hl : l.length ≤ 10000000000000) (hd : ∀ w1, Below w.heap.size w w1 → DeB w1) :
    Calls Tryz.prog 55 #[.string ⟨l.toArray⟩] w fun e w' => e = .returned (.string ⟨(quoteR l).toArray⟩) ∧ Below w.heap.size w w' := by
  have hsz : (ByteArray.mk l.toArray).size = l.length := by simp [ByteArray.size]
  have HD := Aside0.mk hd
  clear hd
  go_enter Tryz.func55, Tryz.ntmps55
  go_wp2_with fail
  refine (WriteByte_calls (w.heap.size + 1) w.heap.size (.slice none 0 0) (Lib.byteCells []) 34 _ (BAt.new w) (by simp [Lib.byteCells]) (by simp)).mono ?_
  rintro e w1 ⟨rfl, v1, hb1, hk1⟩
  rw [byteCells_snoc] at hb1
  have HB1 := Aside0.mk hb1
  have hb2 : Below w.heap.size w w1 := ((Below.refl _ _).alloc (Nat.le_refl _) _).trans hk1.1
  have HBel := Aside0.mk hb2
  have hsz1 : w.heap.size + 1 ≤ w1.heap.size := by
    have := hk1.1.size
    simpa using this
  clear hb1 hk1 hb2
  go_wp2
  go_loopg [9] (l.length) (fun kq u9 w2 => ∃ (n : Nat) (v : Value), n + kq = l.length ∧ u9 = .int .i64 n ∧ w.heap.size + 1 ≤ w2.heap.size ∧ Aside0 (BAt (w.heap.size + 1) w.heap.size v (Lib.byteCells (34 :: (l.take n).flatMap quoteB)) w2) ∧ Aside0 (Below w.heap.size w w2))
  case atStart => exact ⟨0, v1, by omega, rfl, hsz1, HB1, HBel⟩
  case round =>
    obtain ⟨n, v, hn, rfl, hsz2, HB, HBel2⟩ := hrel
    cases gk with
    | zero =>
      have hge : ¬ ((n : Nat) : Int) < (l.length : Int) := by omega
      have hln : l.take n = l := List.take_of_length_le (by omega)
      rw [hln] at HB
      go_wp2_with fail
      refine (WriteByte_calls (w.heap.size + 1) w.heap.size v _ 34 _ HB.out (by have := quote_len l; unfold Lib.byteCells; rw [List.length_map, List.length_cons]; omega) hsz2).mono ?_
      rintro e w2 ⟨rfl, v2, hb2, hk2⟩
      rw [byteCells_snoc] at hb2
      have HB2 := Aside0.mk hb2
      have HBel3 := Aside0.mk (HBel2.out.trans hk2.1)
      have hsz3 := hk2.1.size
      clear hb2 hk2
      go_wp2_with fail
      refine (Tryz.Builder_String_any w.heap.size w.heap.size _ _ HB2.out.is (by omega)).mono ?_
      rintro e w3 ⟨rfl, hb3⟩
      have HBel4 := Aside0.mk (HBel3.out.trans hb3)
      clear hb3
      go_wp2
      go_ret
      exact ⟨rfl, HBel4.out⟩
    | succ k1 =>
      have hlt : n < l.length := by omega
      have hltz : ((n : Nat) : Int) < (l.length : Int) := by omega
      have HS := fun (v' : Value) (bs : List UInt8) (W : World) (hq : quoteB l[n] = bs) (h : BAt (w.heap.size + 1) w.heap.size v' (Lib.byteCells (34 :: (l.take n).flatMap quoteB) ++ Lib.byteCells bs) W) => Aside0.mk (show BAt (w.heap.size + 1) w.heap.size v' (Lib.byteCells (34 :: (l.take (n + 1)).flatMap quoteB)) W by
        rw [quote_take l n hlt, hq]
        simpa [Lib.byteCells] using h)
      have HL := Aside0.mk (show (Lib.byteCells (34 :: (l.take n).flatMap quoteB)).length ≤ 100000000000000 by
        have h1 := quote_len (l.take n)
        have h2 : (l.take n).length ≤ l.length := by rw [List.length_take]; omega
        simp [Lib.byteCells] at h1 h2 ⊢
        omega)
      by_cases q1 : l[n] = 34
      · have hq1 : ((l[n].toNat : Int) == 34) = true := by rw [q1]; rfl
        have Q := Aside0.mk (show quoteB l[n] = [92, l[n]] by unfold quoteB; rw [if_pos (Or.inl q1)])
        clear q1
        go_wp2_with fail
        refine (WriteByte_calls (w.heap.size + 1) w.heap.size _ _ 92 _ HB.out (by have := HL.out; (try simp only [List.length_append, List.length_cons, List.length_nil]); omega) hsz2).mono ?_
        rintro e w3 ⟨rfl, v3, hb3, hk3⟩
        have HB3 := Aside0.mk hb3
        have HBel3 := Aside0.mk (HBel2.out.trans hk3.1)
        have hsz3 : w.heap.size + 1 ≤ w3.heap.size := Nat.le_trans hsz2 hk3.1.size
        clear hb3 hk3
        go_wp2_with fail
        refine (WriteByte_calls (w.heap.size + 1) w.heap.size _ _ l[n] _ HB3.out (by have := HL.out; (try simp only [List.length_append, List.length_cons, List.length_nil]); omega) hsz3).mono ?_
        rintro e w4 ⟨rfl, v4, hb4, hk4⟩
        have HB4 := Aside0.mk hb4
        have HBel4 := Aside0.mk (HBel3.out.trans hk4.1)
        have hsz4 : w.heap.size + 1 ≤ w4.heap.size := Nat.le_trans hsz3 hk4.1.size
        clear hb4 hk4
        have HB5 := Aside0.mk (show BAt (w.heap.size + 1) w.heap.size v4 (Lib.byteCells (34 :: (l.take n).flatMap quoteB) ++ Lib.byteCells [92, l[n]]) w4 by simpa [Lib.byteCells] using HB4.out)
        go_wp2
        go_roundg k1
        case measure => omega
        case rel => exact ⟨n + 1, _, by omega, by go_num, hsz4, HS _ _ _ Q.out HB5.out, HBel4⟩
      · have hq1 : ((l[n].toNat : Int) == 34) = false := by
          have := u8_eq l[n] 34
          rw [show ((34 : UInt8).toNat : Int) = 34 from rfl] at this
          rw [this]
          exact beq_eq_false_iff_ne.2 q1
        by_cases q2 : l[n] = 92
        · have hq2 : ((l[n].toNat : Int) == 92) = true := by rw [q2]; rfl
          have Q := Aside0.mk (show quoteB l[n] = [92, l[n]] by unfold quoteB; rw [if_pos (Or.inr q2)])
          clear q1 q2
          go_wp2_with fail
          refine (WriteByte_calls (w.heap.size + 1) w.heap.size _ _ 92 _ HB.out (by have := HL.out; (try simp only [List.length_append, List.length_cons, List.length_nil]); omega) hsz2).mono ?_
          rintro e w3 ⟨rfl, v3, hb3, hk3⟩
          have HB3 := Aside0.mk hb3
          have HBel3 := Aside0.mk (HBel2.out.trans hk3.1)
          have hsz3 : w.heap.size + 1 ≤ w3.heap.size := Nat.le_trans hsz2 hk3.1.size
          clear hb3 hk3
          go_wp2_with fail
          refine (WriteByte_calls (w.heap.size + 1) w.heap.size _ _ l[n] _ HB3.out (by have := HL.out; (try simp only [List.length_append, List.length_cons, List.length_nil]); omega) hsz3).mono ?_
          rintro e w4 ⟨rfl, v4, hb4, hk4⟩
          have HB4 := Aside0.mk hb4
          have HBel4 := Aside0.mk (HBel3.out.trans hk4.1)
          have hsz4 : w.heap.size + 1 ≤ w4.heap.size := Nat.le_trans hsz3 hk4.1.size
          clear hb4 hk4
          have HB5 := Aside0.mk (show BAt (w.heap.size + 1) w.heap.size v4 (Lib.byteCells (34 :: (l.take n).flatMap quoteB) ++ Lib.byteCells [92, l[n]]) w4 by simpa [Lib.byteCells] using HB4.out)
          go_wp2
          go_roundg k1
          case measure => omega
          case rel => exact ⟨n + 1, _, by omega, by go_num, hsz4, HS _ _ _ Q.out HB5.out, HBel4⟩
        · have hq2 : ((l[n].toNat : Int) == 92) = false := by
            have := u8_eq l[n] 92
            rw [show ((92 : UInt8).toNat : Int) = 92 from rfl] at this
            rw [this]
            exact beq_eq_false_iff_ne.2 q2
          by_cases q3 : l[n] = 10
          · have hq3 : ((l[n].toNat : Int) == 10) = true := by rw [q3]; rfl
            have Q := Aside0.mk (show quoteB l[n] = [92, 110] by rw [q3]; rfl)
            clear q1 q2 q3
            go_wp2_with fail
            refine (Write_calls (w.heap.size + 1) w.heap.size _ _ ⟨([92, 110]).toArray⟩ _ HB.out (by have := HL.out; simp [ByteArray.size]; omega) hsz2).mono ?_
            rintro e w3 ⟨rfl, v3, hb3, hk3⟩
            rw [strCells_list] at hb3
            have HB3 := Aside0.mk hb3
            have HBel3 := Aside0.mk (HBel2.out.trans hk3.1)
            have hsz3 : w.heap.size + 1 ≤ w3.heap.size := Nat.le_trans hsz2 hk3.1.size
            clear hb3 hk3
            go_wp2
            go_roundg k1
            case measure => omega
            case rel => exact ⟨n + 1, _, by omega, by go_num, hsz3, HS _ _ _ Q.out HB3.out, HBel3⟩
          · have hq3 : ((l[n].toNat : Int) == 10) = false := by
              have := u8_eq l[n] 10
              rw [show ((10 : UInt8).toNat : Int) = 10 from rfl] at this
              rw [this]
              exact beq_eq_false_iff_ne.2 q3
            by_cases q4 : l[n] = 9
            · have hq4 : ((l[n].toNat : Int) == 9) = true := by rw [q4]; rfl
              have Q := Aside0.mk (show quoteB l[n] = [92, 116] by rw [q4]; rfl)
              clear q1 q2 q3 q4
              go_wp2_with fail
              refine (Write_calls (w.heap.size + 1) w.heap.size _ _ ⟨([92, 116]).toArray⟩ _ HB.out (by have := HL.out; simp [ByteArray.size]; omega) hsz2).mono ?_
              rintro e w3 ⟨rfl, v3, hb3, hk3⟩
              rw [strCells_list] at hb3
              have HB3 := Aside0.mk hb3
              have HBel3 := Aside0.mk (HBel2.out.trans hk3.1)
              have hsz3 : w.heap.size + 1 ≤ w3.heap.size := Nat.le_trans hsz2 hk3.1.size
              clear hb3 hk3
              go_wp2
              go_roundg k1
              case measure => omega
              case rel => exact ⟨n + 1, _, by omega, by go_num, hsz3, HS _ _ _ Q.out HB3.out, HBel3⟩
            · have hq4 : ((l[n].toNat : Int) == 9) = false := by
                have := u8_eq l[n] 9
                rw [show ((9 : UInt8).toNat : Int) = 9 from rfl] at this
                rw [this]
                exact beq_eq_false_iff_ne.2 q4
              by_cases q5 : l[n].toNat < 16
              · have hq5 : (l[n].toNat : Int) < 16 := by omega
                have Q := Aside0.mk (show quoteB l[n] = [92, 117, 48, 48, 48, hexC l[n].toNat] by
                  unfold quoteB
                  rw [if_neg (by simp [q1, q2]), if_neg q3, if_neg q4, if_pos (by omega), Nat.div_eq_of_lt q5, Nat.mod_eq_of_lt q5]
                  rfl)
                go_wp2_with fail
                refine (hex_one l[n].toNat q5 _ (HD.out _ HBel2.out)).mono ?_
                rintro e w5 ⟨rfl, hb5⟩
                have HB6 := Aside0.mk (HB.out.move fun k hk _ => hb5.block k hk)
                have HBel6 := Aside0.mk (HBel2.out.trans (hb5.mono (by omega)))
                have hsz6 : w.heap.size + 1 ≤ w5.heap.size := Nat.le_trans hsz2 hb5.size
                clear hb5 q1 q2 q3 q4 q5
                go_wp2_with fail
                have he6 : (ByteArray.mk #[92, 117, 48, 48, 48]) ++ (ByteArray.mk #[hexC l[n].toNat]) = ByteArray.mk #[92, 117, 48, 48, 48, hexC l[n].toNat] := by apply ByteArray.ext; simp
                rw [he6]
                refine (Write_calls (w.heap.size + 1) w.heap.size _ _ ⟨([92, 117, 48, 48, 48, hexC l[n].toNat]).toArray⟩ _ HB6.out (by have := HL.out; simp [ByteArray.size]; omega) hsz6).mono ?_
                rintro e w3 ⟨rfl, v3, hb3, hk3⟩
                rw [strCells_list] at hb3
                have HB3 := Aside0.mk hb3
                have HBel3 := Aside0.mk (HBel6.out.trans hk3.1)
                have hsz3 : w.heap.size + 1 ≤ w3.heap.size := Nat.le_trans hsz6 hk3.1.size
                clear hb3 hk3
                go_wp2
                go_roundg k1
                case measure => omega
                case rel => exact ⟨n + 1, _, by omega, by go_num, hsz3, HS _ _ _ Q.out HB3.out, HBel3⟩
              · have hq5 : ¬ (l[n].toNat : Int) < 16 := by omega
                by_cases q6 : l[n].toNat < 32
                · have hq6 : (l[n].toNat : Int) < 32 := by omega
                  have Q := Aside0.mk (show quoteB l[n] = [92, 117, 48, 48, 49, hexC (l[n].toNat - 16)] by
                    unfold quoteB
                    rw [if_neg (by simp [q1, q2]), if_neg q3, if_neg q4, if_pos q6, show l[n].toNat / 16 = 1 by omega, show l[n].toNat % 16 = l[n].toNat - 16 by omega]
                    rfl)
                  go_wp2_with fail
                  refine (hex_two' l[n].toNat (by omega) q6 _ (HD.out _ HBel2.out)).mono ?_
                  rintro e w5 ⟨rfl, hb5⟩
                  have HB6 := Aside0.mk (HB.out.move fun k hk _ => hb5.block k hk)
                  have HBel6 := Aside0.mk (HBel2.out.trans (hb5.mono (by omega)))
                  have hsz6 : w.heap.size + 1 ≤ w5.heap.size := Nat.le_trans hsz2 hb5.size
                  clear hb5 q1 q2 q3 q4 q5 q6
                  go_wp2_with fail
                  have he6 : (ByteArray.mk #[92, 117, 48, 48]) ++ (ByteArray.mk #[49, hexC (l[n].toNat - 16)]) = ByteArray.mk #[92, 117, 48, 48, 49, hexC (l[n].toNat - 16)] := by apply ByteArray.ext; simp
                  rw [he6]
                  refine (Write_calls (w.heap.size + 1) w.heap.size _ _ ⟨([92, 117, 48, 48, 49, hexC (l[n].toNat - 16)]).toArray⟩ _ HB6.out (by have := HL.out; simp [ByteArray.size]; omega) hsz6).mono ?_
                  rintro e w3 ⟨rfl, v3, hb3, hk3⟩
                  rw [strCells_list] at hb3
                  have HB3 := Aside0.mk hb3
                  have HBel3 := Aside0.mk (HBel6.out.trans hk3.1)
                  have hsz3 : w.heap.size + 1 ≤ w3.heap.size := Nat.le_trans hsz6 hk3.1.size
                  clear hb3 hk3
                  go_wp2
                  go_roundg k1
                  case measure => omega
                  case rel => exact ⟨n + 1, _, by omega, by go_num, hsz3, HS _ _ _ Q.out HB3.out, HBel3⟩
                · have hq6 : ¬ (l[n].toNat : Int) < 32 := by omega
                  have Q := Aside0.mk (show quoteB l[n] = [l[n]] by
                    unfold quoteB
                    rw [if_neg (by simp [q1, q2]), if_neg q3, if_neg q4, if_neg q6])
                  clear q1 q2 q3 q4 q5 q6
                  go_wp2_with fail
                  refine (WriteByte_calls (w.heap.size + 1) w.heap.size _ _ l[n] _ HB.out (by have := HL.out; (try simp only [List.length_append, List.length_cons, List.length_nil]); omega) hsz2).mono ?_
                  rintro e w3 ⟨rfl, v3, hb3, hk3⟩
                  have HB3 := Aside0.mk hb3
                  have HBel3 := Aside0.mk (HBel2.out.trans hk3.1)
                  have hsz3 : w.heap.size + 1 ≤ w3.heap.size := Nat.le_trans hsz2 hk3.1.size
                  clear hb3 hk3
                  have HB5 := Aside0.mk (show BAt (w.heap.size + 1) w.heap.size v3 (Lib.byteCells (34 :: (l.take n).flatMap quoteB) ++ Lib.byteCells [l[n]]) w3 by simpa [Lib.byteCells] using HB3.out)
                  go_wp2
                  go_roundg k1
                  case measure => omega
                  case rel => exact ⟨n + 1, _, by omega, by go_num, hsz3, HS _ _ _ Q.out HB5.out, HBel3⟩
end Go.Proofs.YtegppkngdkkdcaaGreatDoor.Lx
end
section
set_option linter.unusedVariables false
set_option linter.unusedSimpArgs false
namespace Go.Proofs.YtegppkngdkkdcaaGreatDoor.Tr
open Go Go.Proofs.YtegppkngdkkdcaaGreatDoor.Lx Go.Proofs.YtegppkngdkkdcaaGreatDoor.PS
abbrev V := S26
def toB (l : List UInt8) : ByteArray := ⟨l.toArray⟩
def tokAt (ts : List Tk) (len p : Nat) : Tk := ts.getD p ⟨0, [], 0, len⟩
def wNul : List UInt8 := [110, 117, 108, 108]
def wTru : List UInt8 := [116, 114, 117, 101]
def nulV : V := ⟨1, 0, ⟨#[]⟩, [], []⟩
def wordV (t : List UInt8) : V := if t = wNul then nulV else if t = wTru then ⟨2, 1, ⟨#[]⟩, [], []⟩ else ⟨2, 0, ⟨#[]⟩, [], []⟩
inductive PRes where
  | ok (v : V) (p : Nat)
  | bad (c a : Nat)
def hasN (t : List UInt8) (nm : List ByteArray) : Bool := nm.any fun x => x.data.toList == t
mutual
/-- The value that begins at a token, with so many open. -/
def valP (ts : List Tk) (len : Nat) : Nat → Nat → Nat → Option PRes
  | 0, _, _ => none
  | f + 1, o, p =>
    if (tokAt ts len p).kind = 8 then some (.ok ⟨3, (tokAt ts len p).num, ⟨#[]⟩, [], []⟩ (p + 1))
    else if (tokAt ts len p).kind = 7 then some (.ok ⟨4, 0, toB (tokAt ts len p).text, [], []⟩ (p + 1))
    else if (tokAt ts len p).kind = 9 then some (.ok (wordV (tokAt ts len p).text) (p + 1))
    else if (tokAt ts len p).kind = 3 then (if o = 8 then some (.bad 21 (tokAt ts len p).pos) else arrP ts len f (o + 1) (p + 1) [])
    else if (tokAt ts len p).kind = 1 then (if o = 8 then some (.bad 21 (tokAt ts len p).pos) else mapP ts len f (o + 1) (p + 1) [] [])
    else some (.bad 20 (tokAt ts len p).pos)
/-- An array from behind its first token, or behind a comma, on. -/
def arrP (ts : List Tk) (len : Nat) : Nat → Nat → Nat → List V → Option PRes
  | 0, _, _, _ => none
  | f + 1, o, p, acc =>
    if (tokAt ts len p).kind = 4 then some (.ok ⟨5, 0, ⟨#[]⟩, acc, []⟩ (p + 1)) else
    match valP ts len f o p with
    | none => none
    | some (.bad c a) => some (.bad c a)
    | some (.ok v p1) =>
      if (tokAt ts len p1).kind = 4 then some (.ok ⟨5, 0, ⟨#[]⟩, acc ++ [v], []⟩ (p1 + 1))
      else if (tokAt ts len p1).kind ≠ 6 then some (.bad 20 (tokAt ts len p1).pos)
      else if (tokAt ts len (p1 + 1)).kind = 4 then some (.bad 20 (tokAt ts len (p1 + 1)).pos)
      else arrP ts len f o (p1 + 1) (acc ++ [v])
/-- A map from behind its first token, or behind a comma, on. -/
def mapP (ts : List Tk) (len : Nat) : Nat → Nat → Nat → List V → List ByteArray → Option PRes
  | 0, _, _, _, _ => none
  | f + 1, o, p, acc, nm =>
    if (tokAt ts len p).kind = 2 then some (.ok ⟨6, 0, ⟨#[]⟩, acc, nm⟩ (p + 1))
    else if (tokAt ts len p).kind ≠ 7 then some (.bad 20 (tokAt ts len p).pos)
    else if hasN (tokAt ts len p).text nm = true then some (.bad 3 (tokAt ts len p).pos)
    else if (tokAt ts len (p + 1)).kind ≠ 5 then some (.bad 20 (tokAt ts len (p + 1)).pos) else
    match valP ts len f o (p + 2) with
    | none => none
    | some (.bad c a) => some (.bad c a)
    | some (.ok v p1) =>
      if (tokAt ts len p1).kind = 2 then some (.ok ⟨6, 0, ⟨#[]⟩, acc ++ [v], nm ++ [toB (tokAt ts len p).text]⟩ (p1 + 1))
      else if (tokAt ts len p1).kind ≠ 6 then some (.bad 20 (tokAt ts len p1).pos)
      else if (tokAt ts len (p1 + 1)).kind = 2 then some (.bad 20 (tokAt ts len (p1 + 1)).pos)
      else mapP ts len f o (p1 + 1) (acc ++ [v]) (nm ++ [toB (tokAt ts len p).text])
end
def zV : V := ⟨0, 0, ⟨#[]⟩, [], []⟩
def parseR (s : List UInt8) : V × Nat × Nat := match tokensR s with
  | (ts, 0, _) => (match valP ts s.length (2 * ts.length + 2) 0 0 with
    | none => (zV, 0, 0)
    | some (.bad c a) => (zV, c, a)
    | some (.ok v p) => if (tokAt ts s.length p).kind = 0 then (v, 0, 0) else (zV, 20, (tokAt ts s.length p).pos))
  | (_, c, a) => (zV, c, a)
end Go.Proofs.YtegppkngdkkdcaaGreatDoor.Tr
end
section
set_option linter.unusedVariables false
set_option linter.unusedSimpArgs false
namespace Go.Proofs.YtegppkngdkkdcaaGreatDoor.Lx
open Go.RowKit Go.Proofs.YtegppkngdkkdcaaGreatDoorW.PrintWords Go.Proofs.YtegppkngdkkdcaaGreatDoorW.PrintLast Go.Proofs.YtegppkngdkkdcaaGreatDoorW.PrintMore
attribute [local go_sem] idx_list
def tkV (t : Tk) : Value := .agg #[.int .i64 t.kind, .string ⟨t.text.toArray⟩, .int .i64 t.num, .int .i64 t.pos]
theorem KeepR.alloc {r : Nat} {w w1 : World} (h : KeepR r w w1) (hr : r < w.heap.size) (o : Obj) : KeepR r w (w1.alloc o) :=
  (show KB r w.heap.size w w1 from h).trans (KB.below ((Below.refl _ _).alloc h.2.1 _) hr)
theorem KeepR.setHi {r : Nat} {w w1 : World} (h : KeepR r w w1) (hr : r < w.heap.size) (k j : Nat) (v : Value) (hk : w.heap.size ≤ k) : KeepR r w (w1.setCell ⟨k, j, none⟩ v) :=
  (show KB r w.heap.size w w1 from h).trans (KB.below ((Below.refl _ _).setCell (p := ⟨k, j, none⟩) hk v) hr)
theorem RD.alloc {r : Nat} {l : List UInt8} {a : Nat} {w : World} (h : RD r l a w) (o : Obj) : RD r l a (w.alloc o) := h.below ((Below.refl _ _).alloc (Nat.le_refl _) _)
theorem RD.drewN {r : Nat} {l : List UInt8} {a : Nat} {w : World} (h : RD r l a w) (n : Nat) : RD r l a (w.drewN n) := h
theorem RD.setHi {r : Nat} {l : List UInt8} {a : Nat} {w : World} (h : RD r l a w) (k j : Nat) (v : Value) (hk : k ≠ r) : RD r l a (w.setCell ⟨k, j, none⟩ v) := (Below.heap_setCell _ _ _ _ (fun e => hk e.symm)).trans h
structure Mid (r : Nat) (l : List UInt8) (at' : Nat) (w W : World) : Prop where
  rd : RD r l at' W
  keep : KeepR r w W
  b0 : W.heap[w.heap.size]? = some (.cells #[.int .i64 0, .string ⟨#[]⟩, .int .i64 0, .int .i64 0] 51 (0, 0))
  b1 : W.heap[w.heap.size + 1]? = some (.cells #[.int .i64 0, .string ⟨#[]⟩, .int .i64 0, .int .i64 at'] 51 (0, 0))
theorem Mid.mk0 {r : Nat} {l : List UInt8} {at' : Nat} {w : World} (h : RD r l at' w) (n : Nat) :
    Mid r l at' w (((w.alloc (.cells #[.int .i64 0, .string ⟨#[]⟩, .int .i64 0, .int .i64 0] 51)).alloc (.cells #[.int .i64 0, .string ⟨#[]⟩, .int .i64 0, .int .i64 at'] 51)).drewN n) := by
  refine ⟨((h.alloc _).alloc _).drewN n, KeepR.drewN ((((KeepR.refl r w).alloc (blk_lt h) _).alloc (blk_lt h) _)) n, ?_, ?_⟩
  · simp only [World.alloc, World.drewN]
    rw [Array.getElem?_push_lt (by simp), Array.getElem_push_eq]
  · simp only [World.alloc, World.drewN]
    rw [show w.heap.size + 1 = (w.heap.push (.cells #[.int .i64 0, .string ⟨#[]⟩, .int .i64 0, .int .i64 0] 51 (0, 0))).size by simp, Array.getElem?_push_size]
theorem Mid.call {r : Nat} {l : List UInt8} {at' a2 : Nat} {w W w2 : World} (h : Mid r l at' w W) (hk : KeepR r W w2) (hr : RD r l a2 w2) : KeepR r w w2 ∧ w2.heap[w.heap.size]? = some (.cells #[.int .i64 0, .string ⟨#[]⟩, .int .i64 0, .int .i64 0] 51 (0, 0)) ∧
    w2.heap[w.heap.size + 1]? = some (.cells #[.int .i64 0, .string ⟨#[]⟩, .int .i64 0, .int .i64 at'] 51 (0, 0)) := by
  have h0 := blk_lt h.b0
  have h1 := blk_lt h.b1
  refine ⟨h.keep.trans hk, (hk.2.2 _ h0 fun e => ?_).trans h.b0, (hk.2.2 _ h1 fun e => ?_).trans h.b1⟩
  · have := h.rd
    unfold RD at this
    rw [← e, h.b0] at this
    cases this
  · have := h.rd
    unfold RD at this
    rw [← e, h.b1] at this
    cases this
theorem singles_lt (c : UInt8) (h : 0 ≤ Lib.indexByte singles c) : Lib.indexByte singles c < 6 := by
  have := indexByte_lt singles c h
  exact this
set_option maxRecDepth 100000 in
set_option maxHeartbeats 2000000 in
theorem next_calls (r : Nat) (l : List UInt8) (at' : Nat) (w : World) (hr : RD r l at' w) (hat : at' < l.length) (hl : l.length ≤ 1000000000000) (hte : ∀ w1, Below r w w1 → TE w1) :
    Calls Tryz.prog 37 #[.pointer (some ⟨r, 0, none⟩)] w fun e w' => KeepR r w w' ∧
      ((∀ t a2, nextR l at' = some (t, a2) → e = .returned (tkV t) ∧ RD r l a2 w') ∧
       (nextR l at' = none → e = .panicked [{ v := broken at', recovered := false }])) := by
  have HR := Aside0.mk hr
  have HTE := Aside0.mk hte
  have c0 : w.cell? ⟨r, 0, none⟩ = some (.string ⟨l.toArray⟩) := blk_cell hr 0
  have c1 : w.cell? ⟨r, 1, none⟩ = some (.int .i64 at') := blk_cell hr 1
  have f1 := blk_frozen hr 1
  have hrl := blk_lt hr
  have hsz : (ByteArray.mk l.toArray).size = l.length := by simp [ByteArray.size]
  have hltz : (at' : Int) < (l.length : Int) := by omega
  have hix : (((l[at'].toNat : Nat) : Int).toNat).toUInt8 = l[at'] := by simp
  have HIX := Aside0.mk hix
  have HX := Aside0.mk (show nextR l at' = if 0 ≤ Lib.indexByte singles l[at'] then some (⟨(Lib.indexByte singles l[at']).toNat + 1, [], 0, at'⟩, at' + 1)
    else if l[at'] = 10 then some (⟨10, [], 0, at'⟩, at' + 1)
    else if l[at'] = 34 then (textR l (l.length + 1) (at' + 1) []).map fun x => (⟨7, x.1, 0, at'⟩, x.2)
    else if l[at'] = 45 then (numR true ((l.drop (at' + 1)).takeWhile isDigit)).map fun v => (⟨8, [], v, at'⟩, at' + 1 + ((l.drop (at' + 1)).takeWhile isDigit).length)
    else if isDigit l[at'] = true then (numR false ((l.drop at').takeWhile isDigit)).map fun v => (⟨8, [], v, at'⟩, at' + ((l.drop at').takeWhile isDigit).length)
    else if isWord ((l.drop at').takeWhile isLow) = true then some (⟨9, (l.drop at').takeWhile isLow, 0, at'⟩, at' + ((l.drop at').takeWhile isLow).length) else none by rw [nextR, List.getElem?_eq_getElem hat])
  clear hr hte hix
  generalize hkk : Lib.indexByte singles l[at'] = kk at *
  have HKK := Aside0.mk hkk
  clear hkk
  by_cases q0 : 0 ≤ kk
  · have HE := HX
    rw [if_pos q0] at HE
    have hk6 : kk < 6 := by rw [← HKK.out]; exact singles_lt _ (by rw [HKK.out]; exact q0)
    go_enter Tryz.func37, Tryz.ntmps37
    go_wp2
    go_quiet (fail)
    go_wp2_with fail
    refine (Tryz.strings_IndexByte _ _ _).mono ?_
    rintro e w' ⟨he, hw'⟩
    rw [show Lib.indexByte _ _ = kk from (by rw [HIX.out]; exact HKK.out)] at he
    subst he hw'
    go_wp2
    refine bodyPost_ret (v := .agg #[.int .i64 (kk + 1), .string ⟨#[]⟩, .int .i64 0, .int .i64 at']) (by simp [results, Tryz.results37, go_sem]) rfl ?_
    refine ⟨?_, (fun t a h => ?_), (fun h => by rw [HE.out] at h; cases h)⟩
    · repeat (with_reducible (first | refine KeepR.set ?_ _ _ | refine KeepR.setHi ?_ hrl _ _ _ (by omega) | refine KeepR.drewN ?_ _ | refine KeepR.alloc ?_ hrl _ | exact KeepR.refl _ _))
    · rw [HE.out] at h
      cases h
      refine ⟨?_, ?_⟩
      · unfold tkV
        have : ((kk.toNat + 1 : Nat) : Int) = kk + 1 := by omega
        rw [this]
      · repeat (with_reducible (refine RD.setHi ?_ _ _ _ (by omega)))
        refine RD.set (a := at') ?_ (at' + 1)
        repeat (with_reducible (first | refine RD.drewN ?_ _ | refine RD.alloc ?_ _ | exact HR.out))
  · rw [if_neg q0] at HX
    by_cases q1 : l[at'] = 10
    · have HE := HX
      rw [if_pos q1] at HE
      have hq1 : ((l[at'].toNat : Int) == 10) = true := by rw [q1]; rfl
      clear q1 HX
      go_enter Tryz.func37, Tryz.ntmps37
      go_wp2
      go_quiet (fail)
      go_wp2_with fail
      refine (Tryz.strings_IndexByte _ _ _).mono ?_
      rintro e w' ⟨he, hw'⟩
      rw [show Lib.indexByte _ _ = kk from (by rw [HIX.out]; exact HKK.out)] at he
      subst he hw'
      go_wp2
      refine bodyPost_ret (v := .agg #[.int .i64 10, .string ⟨#[]⟩, .int .i64 0, .int .i64 at']) (by simp [results, Tryz.results37, go_sem]) rfl ?_
      refine ⟨?_, (fun t a h => ?_), (fun h => by rw [HE.out] at h; cases h)⟩
      · repeat (with_reducible (first | refine KeepR.set ?_ _ _ | refine KeepR.setHi ?_ hrl _ _ _ (by omega) | refine KeepR.drewN ?_ _ | refine KeepR.alloc ?_ hrl _ | exact KeepR.refl _ _))
      · rw [HE.out] at h
        cases h
        refine ⟨rfl, ?_⟩
        repeat (with_reducible (refine RD.setHi ?_ _ _ _ (by omega)))
        refine RD.set (a := at') ?_ (at' + 1)
        repeat (with_reducible (first | refine RD.drewN ?_ _ | refine RD.alloc ?_ _ | exact HR.out))
    · rw [if_neg q1] at HX
      have hq1 : ((l[at'].toNat : Int) == 10) = false := by
        have := u8_eq l[at'] 10
        rw [show ((10 : UInt8).toNat : Int) = 10 from rfl] at this
        rw [this]
        exact beq_eq_false_iff_ne.2 q1
      clear q1
      by_cases q2 : l[at'] = 34
      · have HE := HX
        rw [if_pos q2] at HE
        have hq2 : ((l[at'].toNat : Int) == 34) = true := by rw [q2]; rfl
        clear q2 HX
        go_enter Tryz.func37, Tryz.ntmps37
        go_wp2
        go_quiet (fail)
        go_wp2_with fail
        refine (Tryz.strings_IndexByte _ _ _).mono ?_
        rintro e w' ⟨he, hw'⟩
        rw [show Lib.indexByte _ _ = kk from (by rw [HIX.out]; exact HKK.out)] at he
        subst he hw'
        go_wp2_with fail
        have HM := fun n => Aside0.mk (Mid.mk0 HR.out n)
        refine (text_calls r l at' _ (HM _).out.rd hat hl (fun w1 h1 => HTE.out w1 ((HM _).out.keep.1.trans h1))).mono ?_
        rintro e w2 ⟨hk, hs, hn⟩
        cases hX : textR l (l.length + 1) (at' + 1) [] with
        | none =>
          have he := hn hX
          subst he
          rw [hX] at HE
          have HK := Aside0.mk hk
          clear hX hk hs hn
          go_wp2
          exact ⟨rfl, (HM _).out.keep.trans HK.out, (fun t a h => by rw [HE.out] at h; cases h), (fun _ => rfl)⟩
        | some p =>
          obtain ⟨o, a2⟩ := p
          obtain ⟨he, hr2⟩ := hs o a2 hX
          subst he
          rw [hX] at HE
          obtain ⟨hk2, hb0, hb1⟩ := (HM _).out.call hk hr2
          have HK := Aside0.mk hk2
          have HR2 := Aside0.mk hr2
          clear hX hk hs hn hr2 hk2 HM
          have d0 := blk_cell hb0 0
          have d1 := blk_cell hb0 1
          have d2 := blk_cell hb0 2
          have d3 := blk_cell hb0 3
          have e0 := blk_cell hb1 0
          have e1 := blk_cell hb1 1
          have e2 := blk_cell hb1 2
          have e3 := blk_cell hb1 3
          have f0 := fun j => blk_frozen hb0 j
          have f1 := fun j => blk_frozen hb1 j
          clear hb0 hb1
          go_wp2
          refine bodyPost_ret (v := .agg #[.int .i64 7, .string ⟨o.toArray⟩, .int .i64 0, .int .i64 at']) (by simp [results, Tryz.results37, go_sem, d0, d1, d2, d3]) rfl ?_
          refine ⟨?_, (fun t a h => ?_), (fun h => by rw [HE.out] at h; cases h)⟩
          · repeat (with_reducible (first | refine KeepR.setHi ?_ hrl _ _ _ (by omega) | exact HK.out))
          · rw [HE.out] at h
            cases h
            refine ⟨rfl, ?_⟩
            repeat (with_reducible (first | refine RD.setHi ?_ _ _ _ (by omega) | exact HR2.out))
      · rw [if_neg q2] at HX
        have hq2 : ((l[at'].toNat : Int) == 34) = false := by
          have := u8_eq l[at'] 34
          rw [show ((34 : UInt8).toNat : Int) = 34 from rfl] at this
          rw [this]
          exact beq_eq_false_iff_ne.2 q2
        clear q2
        by_cases q3 : l[at'] = 45
        · have HE := HX
          rw [if_pos q3] at HE
          have hq3 : ((l[at'].toNat : Int) == 45) = true := by rw [q3]; rfl
          have hq3n : ((l[at'].toNat : Int) != 45) = false := by rw [bne, hq3]; rfl
          have Q3 := Aside0.mk q3
          clear q3 HX
          generalize hds : (l.drop (at' + 1)).takeWhile isDigit = ds at *
          go_enter Tryz.func37, Tryz.ntmps37
          go_wp2
          go_quiet (fail)
          go_wp2_with fail
          refine (Tryz.strings_IndexByte _ _ _).mono ?_
          rintro e w' ⟨he, hw'⟩
          rw [show Lib.indexByte _ _ = kk from (by rw [HIX.out]; exact HKK.out)] at he
          subst he hw'
          go_wp2_with fail
          have HM := fun n => Aside0.mk (Mid.mk0 HR.out n)
          refine (number_neg r l at' ds _ (HM _).out.rd hat Q3.out hds.symm hl (fun w1 h1 => HTE.out w1 ((HM _).out.keep.1.trans h1.1))).mono ?_
          rintro e w2 ⟨hk, hs, hn⟩
          cases hX : numR true ds with
          | none =>
            have he := hn hX
            subst he
            rw [hX] at HE
            have HK := Aside0.mk hk
            clear hX hk hs hn
            go_wp2
            exact ⟨rfl, (HM _).out.keep.trans HK.out, (fun t a h => by rw [HE.out] at h; cases h), (fun _ => rfl)⟩
          | some v =>
            obtain ⟨he, hr2⟩ := hs v hX
            subst he
            rw [hX] at HE
            obtain ⟨hk2, hb0, hb1⟩ := (HM _).out.call hk hr2
            have HK := Aside0.mk hk2
            have HR2 := Aside0.mk hr2
            clear hX hk hs hn hr2 hk2 HM
            have d0 := blk_cell hb0 0
            have d1 := blk_cell hb0 1
            have d2 := blk_cell hb0 2
            have d3 := blk_cell hb0 3
            have e0 := blk_cell hb1 0
            have e1 := blk_cell hb1 1
            have e2 := blk_cell hb1 2
            have e3 := blk_cell hb1 3
            have f0 := fun j => blk_frozen hb0 j
            have f1 := fun j => blk_frozen hb1 j
            clear hb0 hb1
            go_wp2
            refine bodyPost_ret (v := .agg #[.int .i64 8, .string ⟨#[]⟩, .int .i64 v, .int .i64 at']) (by simp [results, Tryz.results37, go_sem, d0, d1, d2, d3]) rfl ?_
            refine ⟨?_, (fun t a h => ?_), (fun h => by rw [HE.out] at h; cases h)⟩
            · repeat (with_reducible (first | refine KeepR.setHi ?_ hrl _ _ _ (by omega) | exact HK.out))
            · rw [HE.out] at h
              cases h
              refine ⟨rfl, ?_⟩
              repeat (with_reducible (first | refine RD.setHi ?_ _ _ _ (by omega) | exact HR2.out))
        · rw [if_neg q3] at HX
          have hq3 : ((l[at'].toNat : Int) == 45) = false := by
            have := u8_eq l[at'] 45
            rw [show ((45 : UInt8).toNat : Int) = 45 from rfl] at this
            rw [this]
            exact beq_eq_false_iff_ne.2 q3
          have Q3 := Aside0.mk q3
          clear q3
          cases hdg : isDigit l[at'] with
          | true =>
            have HE := HX
            rw [if_pos hdg] at HE
            clear HX
            generalize hds : (l.drop at').takeWhile isDigit = ds at *
            go_enter Tryz.func37, Tryz.ntmps37
            go_wp2
            go_quiet (fail)
            go_wp2_with fail
            refine (Tryz.strings_IndexByte _ _ _).mono ?_
            rintro e w' ⟨he, hw'⟩
            rw [show Lib.indexByte _ _ = kk from (by rw [HIX.out]; exact HKK.out)] at he
            subst he hw'
            go_wp2_with fail
            have HM := fun n => Aside0.mk (Mid.mk0 HR.out n)
            refine (digit_calls l[at'] _).mono ?_
            rintro e w' ⟨he, rfl⟩
            rw [hdg] at he
            subst he
            go_wp2_with fail
            refine (number_pos r l at' ds _ (HM _).out.rd hat Q3.out hds.symm hl (fun w1 h1 => HTE.out w1 ((HM _).out.keep.1.trans h1.1))).mono ?_
            rintro e w2 ⟨hk, hs, hn⟩
            cases hX : numR false ds with
            | none =>
              have he := hn hX
              subst he
              rw [hX] at HE
              have HK := Aside0.mk hk
              clear hX hk hs hn
              go_wp2
              exact ⟨rfl, (HM _).out.keep.trans HK.out, (fun t a h => by rw [HE.out] at h; cases h), (fun _ => rfl)⟩
            | some v =>
              obtain ⟨he, hr2⟩ := hs v hX
              subst he
              rw [hX] at HE
              obtain ⟨hk2, hb0, hb1⟩ := (HM _).out.call hk hr2
              have HK := Aside0.mk hk2
              have HR2 := Aside0.mk hr2
              clear hX hk hs hn hr2 hk2 HM
              have d0 := blk_cell hb0 0
              have d1 := blk_cell hb0 1
              have d2 := blk_cell hb0 2
              have d3 := blk_cell hb0 3
              have e0 := blk_cell hb1 0
              have e1 := blk_cell hb1 1
              have e2 := blk_cell hb1 2
              have e3 := blk_cell hb1 3
              have f0 := fun j => blk_frozen hb0 j
              have f1 := fun j => blk_frozen hb1 j
              clear hb0 hb1
              go_wp2
              refine bodyPost_ret (v := .agg #[.int .i64 8, .string ⟨#[]⟩, .int .i64 v, .int .i64 at']) (by simp [results, Tryz.results37, go_sem, d0, d1, d2, d3]) rfl ?_
              refine ⟨?_, (fun t a h => ?_), (fun h => by rw [HE.out] at h; cases h)⟩
              · repeat (with_reducible (first | refine KeepR.setHi ?_ hrl _ _ _ (by omega) | exact HK.out))
              · rw [HE.out] at h
                cases h
                refine ⟨rfl, ?_⟩
                repeat (with_reducible (first | refine RD.setHi ?_ _ _ _ (by omega) | exact HR2.out))
          | false =>
            rw [if_neg (by rw [hdg]; decide)] at HX
            have HE := HX
            clear HX
            generalize htk : (l.drop at').takeWhile isLow = tk at *
            have HTK := Aside0.mk htk
            clear htk
            go_enter Tryz.func37, Tryz.ntmps37
            go_wp2
            go_quiet (fail)
            go_wp2_with fail
            refine (Tryz.strings_IndexByte _ _ _).mono ?_
            rintro e w' ⟨he, hw'⟩
            rw [show Lib.indexByte _ _ = kk from (by rw [HIX.out]; exact HKK.out)] at he
            subst he hw'
            go_wp2_with fail
            have HM := fun n => Aside0.mk (Mid.mk0 HR.out n)
            refine (digit_calls l[at'] _).mono ?_
            rintro e w' ⟨he, rfl⟩
            rw [hdg] at he
            subst he
            go_wp2_with fail
            refine (word_calls r l at' _ (HM _).out.rd (by omega) hl).mono ?_
            rw [HTK.out]
            rintro e w2 ⟨hk, hs, hn⟩
            cases hX : isWord tk with
            | false =>
              have he := hn hX
              subst he
              rw [if_neg (by rw [hX]; decide)] at HE
              have HK := Aside0.mk hk
              clear hX hk hs hn
              go_wp2
              exact ⟨rfl, (HM _).out.keep.trans HK.out, (fun t a h => by rw [HE.out] at h; cases h), (fun _ => rfl)⟩
            | true =>
              obtain ⟨he, hr2⟩ := hs hX
              subst he
              rw [if_pos hX] at HE
              obtain ⟨hk2, hb0, hb1⟩ := (HM _).out.call hk hr2
              have HK := Aside0.mk hk2
              have HR2 := Aside0.mk hr2
              clear hX hk hs hn hr2 hk2 HM
              have d0 := blk_cell hb0 0
              have d1 := blk_cell hb0 1
              have d2 := blk_cell hb0 2
              have d3 := blk_cell hb0 3
              have e0 := blk_cell hb1 0
              have e1 := blk_cell hb1 1
              have e2 := blk_cell hb1 2
              have e3 := blk_cell hb1 3
              have f0 := fun j => blk_frozen hb0 j
              have f1 := fun j => blk_frozen hb1 j
              clear hb0 hb1
              go_wp2
              refine bodyPost_ret (v := .agg #[.int .i64 9, .string ⟨tk.toArray⟩, .int .i64 0, .int .i64 at']) (by simp [results, Tryz.results37, go_sem, d0, d1, d2, d3]) rfl ?_
              refine ⟨?_, (fun t a h => ?_), (fun h => by rw [HE.out] at h; cases h)⟩
              · repeat (with_reducible (first | refine KeepR.setHi ?_ hrl _ _ _ (by omega) | exact HK.out))
              · rw [HE.out] at h
                cases h
                refine ⟨rfl, ?_⟩
                repeat (with_reducible (first | refine RD.setHi ?_ _ _ _ (by omega) | exact HR2.out))
end Go.Proofs.YtegppkngdkkdcaaGreatDoor.Lx
namespace Go.Proofs.YtegppkngdkkdcaaGreatDoor.Lx
open Go.RowKit Go.Proofs.YtegppkngdkkdcaaGreatDoorW.PrintWords Go.Proofs.YtegppkngdkkdcaaGreatDoorW.PrintLast Go.Proofs.YtegppkngdkkdcaaGreatDoorW.PrintMore
theorem catch_idle (p q : Addr) (w : World) :
    CallsD Tryz.prog 34 #[.pointer (some p), .pointer (some q)] .returning w fun e u' w' => e = .returned (.tuple #[]) ∧ u' = .returning ∧ w' = w := by
  refine callsD_of_wpS Tryz.func34 rfl fun c₀ cs hu => ?_
  apply wpS_seq
  apply wpS_region
  simp [wpOpsS, go_sem, recoverD, hu, Tryz.ntmps34, Exit.thenS]
  apply wpS_seq
  apply wpS_region
  simp [wpOpsS, go_sem, Exit.thenS]
  refine wpS_cond (t := false) (by simp [Act.eval, Array.replicate]) ?_
  simp only [Bool.false_eq_true, if_false]
  refine wpS_of_wp (wp_skip ?_)
  cases c₀
  simp_all [bodyPostS, results, Tryz.results34]
def EndQ (R : World → Prop) (e : Exit) (a : Act) (w : World) : Prop := e = .normal ∧ a.defers = [] ∧ R w
set_option maxRecDepth 100000 in
set_option maxHeartbeats 2000000 in
theorem catch_panicking (p q : Nat) (x y z : Value) (a : Nat) (older : List PanicEntry) (w : World) (hpq : p ≠ q) (hp : w.heap[p]? = some (.cells #[x] 43 (0, 0))) (hq : w.heap[q]? = some (.cells #[y, z] 29 (0, 0))) :
    CallsD Tryz.prog 34 #[.pointer (some ⟨p, 0, none⟩), .pointer (some ⟨q, 0, none⟩)] (.panicking ({ v := broken a, recovered := false } :: older)) w fun e u' w' => e = .returned (.tuple #[]) ∧ u' = .panicking ({ v := broken a, recovered := true } :: older) ∧
      w'.heap[p]? = some (.cells #[.slice none 0 0] 43 (0, 0)) ∧ w'.heap[q]? = some (.cells #[.int .i64 10, .int .i64 a] 29 (0, 0)) ∧ (∀ B, B ≤ p → B ≤ q → B ≤ w.heap.size → Below B w w') := by
  have hpl := blk_lt hp
  have hql := blk_lt hq
  have hpq' : q ≠ p := fun e => hpq e.symm
  have hpn : p ≠ w.heap.size := by omega
  have hqn : q ≠ w.heap.size := by omega
  have hpn' : w.heap.size ≠ p := by omega
  have hqn' : w.heap.size ≠ q := by omega
  have c0 := blk_cell hp 0
  have c1 := blk_cell hq 0
  have c2 := blk_cell hq 1
  have f0 := fun j => blk_frozen hp j
  have f1 := fun j => blk_frozen hq j
  have HP := Aside0.mk hp
  have HQ := Aside0.mk hq
  clear hp hq
  refine callsD_of_wpS Tryz.func34 rfl fun c₀ cs hu => ?_
  apply wpS_seq
  apply wpS_region
  simp [wpOpsS, go_sem, recoverD, hu, Tryz.ntmps34, Exit.thenS]
  refine wpS_of_wp (Code.wp_mono (Q := EndQ fun w' => w'.heap[p]? = some (.cells #[.slice none 0 0] 43 (0, 0)) ∧ w'.heap[q]? = some (.cells #[.int .i64 10, .int .i64 a] 29 (0, 0)) ∧ (∀ B, B ≤ p → B ≤ q → B ≤ w.heap.size → Below B w w')) ?_ ?_)
  · rintro e a' w' ⟨rfl, hd, h⟩
    cases c₀
    simp_all [bodyPostS, results, Tryz.results34]
  show Code.wp _ _ _ { tmps := #[.pointer (some ⟨p, 0, none⟩), .pointer (some ⟨q, 0, none⟩), broken a, undef, undef, broken a, undef, undef, undef, undef, undef, undef, undef, undef, undef, undef, undef, undef, undef], defers := [] } _
  unfold broken
  have hta : ∀ W, (Instr.typeAssert (.iface 71 (.agg #[.int .i64 (a : Int)])) 20 71 true).run Tryz.prog W = .ok (.tuple #[.agg #[.int .i64 (a : Int)], .bool true]) W := fun _ => by kernel_rfl
  go_wp2
  go_region
  have h1 := blk_put HP.out 0 (.slice none 0 0) rfl
  have h2 : (w.setCell ⟨p, 0, none⟩ (.slice none 0 0)).heap[q]? = _ := (Below.heap_setCell _ _ _ _ hpq').trans HQ.out
  have h3 := blk_put (blk_put h2 0 (.int .i64 10) rfl) 1 (.int .i64 a) rfl
  have h4 := (Below.heap_setCell ((w.setCell ⟨p, 0, none⟩ (.slice none 0 0)).setCell ⟨q, 0, none⟩ (.int .i64 10)) ⟨q, 1, none⟩ (.int .i64 a) _ hpq).trans ((Below.heap_setCell (w.setCell ⟨p, 0, none⟩ (.slice none 0 0)) ⟨q, 0, none⟩ (.int .i64 10) _ hpq).trans h1)
  refine ⟨rfl, rfl, ?_, ?_, fun B hB1 hB2 hB3 => ?_⟩
  · exact (((Below.refl _ _).alloc (Nat.le_refl _) _).block p (by simpa [World.setCell] using hpl)).trans h4
  · exact (((Below.refl _ _).alloc (Nat.le_refl _) _).block q (by simpa [World.setCell] using hql)).trans h3
  · exact pw_below_drewN (((((Below.refl B w).setCell (p := ⟨p, 0, none⟩) hB1 _).setCell (p := ⟨q, 0, none⟩) hB2 _).setCell (p := ⟨q, 1, none⟩) hB2 _).alloc (by simpa [World.setCell] using hB3) _) _
end Go.Proofs.YtegppkngdkkdcaaGreatDoor.Lx
end
section
set_option linter.unusedVariables false
set_option linter.unusedSimpArgs false
namespace Go.Proofs.YtegppkngdkkdcaaGreatDoor.Lx
open Go.RowKit Go.Proofs.YtegppkngdkkdcaaGreatDoorW.PrintWords Go.Proofs.YtegppkngdkkdcaaGreatDoorW.PrintLast Go.Proofs.YtegppkngdkkdcaaGreatDoorW.PrintMore
theorem textR_step {l : List UInt8} : ∀ {f a : Nat} {acc o : List UInt8} {a2 : Nat}, textR l f a acc = some (o, a2) → a < a2 ∧ a2 ≤ l.length
  | 0, _, _, _, _, h => by cases h
  | f + 1, a, acc, o, a2, h => by
    unfold textR at h
    split at h
    · cases h
    · rename_i c hc
      have hlt := (List.getElem?_eq_some_iff.1 hc).1
      split at h
      · cases h
        exact ⟨by omega, by omega⟩
      · split at h
        · cases h
        · split at h
          · split at h
            · cases h
            · rename_i o' a' he
              have h1 := escR_step he
              have h2 := textR_step h
              exact ⟨by omega, h2.2⟩
          · have h2 := textR_step h
            exact ⟨by omega, h2.2⟩
theorem takeWhile_len (p : UInt8 → Bool) (l : List UInt8) (a : Nat) (ha : a ≤ l.length) : a + ((l.drop a).takeWhile p).length ≤ l.length := by
  have := (List.takeWhile_prefix p (l := l.drop a)).length_le
  rw [List.length_drop] at this
  omega
theorem nextR_step {l : List UInt8} {a : Nat} {t : Tk} {a2 : Nat} (h : nextR l a = some (t, a2)) : a < a2 ∧ a2 ≤ l.length := by
  unfold nextR at h
  split at h
  · cases h
  · rename_i c hc
    obtain ⟨hlt, hcc⟩ := List.getElem?_eq_some_iff.1 hc
    split at h
    · cases h
      omega
    · split at h
      · cases h
        omega
      · split at h
        · obtain ⟨⟨o, a'⟩, h1, h2⟩ := Option.map_eq_some_iff.1 h
          cases h2
          have := textR_step h1
          exact ⟨by omega, this.2⟩
        · split at h
          · obtain ⟨v, h1, h2⟩ := Option.map_eq_some_iff.1 h
            cases h2
            have := takeWhile_len isDigit l (a + 1) (by omega)
            exact ⟨by omega, by omega⟩
          · split at h
            · rename_i hd
              obtain ⟨v, h1, h2⟩ := Option.map_eq_some_iff.1 h
              cases h2
              have := takeWhile_len isDigit l a (by omega)
              have hpos : 0 < ((l.drop a).takeWhile isDigit).length := by
                rw [List.drop_eq_getElem_cons hlt, hcc, List.takeWhile_cons, if_pos hd]
                simp
              exact ⟨by omega, by omega⟩
            · split at h
              · rename_i hw
                cases h
                have := takeWhile_len isLow l a (by omega)
                have hpos : 0 < ((l.drop a).takeWhile isLow).length := by
                  cases hh : (l.drop a).takeWhile isLow with
                  | nil => rw [hh] at hw; cases hw
                  | cons _ _ => simp
                exact ⟨by omega, by omega⟩
              · cases h
theorem blank_enters (args : Array Value) (w : World) : (callFunc 36 args).run Tryz.prog w = .ok (.enter 36 args) w := enters_ Tryz.func36 (by kernel_rfl) (by kernel_rfl) args w
section
variable {P : Program} {ops : Array Oper} {Q : Exit → Act → World → Prop}
theorem call_dies_ {oi : Oper} {N : Option Tmp} {a : Act} {w : World} {K : Act → World → Prop} (f : FuncId) (args : Array Value) (hw : Region.wanted oi (yielded ops a.tmps) = true) (hN : oi.dst = N) (hrun : (execOp a.eval oi).run P w = .ok (.enter f args) w)
    (h : Calls P f args w fun e w' => ∃ c, e = .panicked c ∧ Q (.panic c) a w') : if Region.wanted oi (yielded ops a.tmps) = true then Oper.wp P oi a w K Q else K (a.put N undef) w := by
  rw [if_pos hw]
  subst hN
  unfold Oper.wp
  rw [hrun, Oper.upon_enter]
  refine h.mono fun e w'' hh => ?_
  obtain ⟨c, rfl, hk⟩ := hh
  exact hk
end
theorem infoTok : (Tryz.prog.info? 51).map (fun i => (i.zero, i.size, i.bytes)) = some (some (.agg #[.int .i64 0, .string ⟨#[]⟩, .int .i64 0, .int .i64 0]), 4, 40) := by kernel_rfl
theorem far_set (w : World) (b j : Nat) (v : Value) (k : Nat) (h : k ≠ b) : (w.setCell ⟨b, j, none⟩ v).heap[k]? = w.heap[k]? := Below.heap_setCell _ _ _ _ h
theorem results_put (tmps : Array Value) (i : Nat) (v : Value) (h : 4 ≤ i) : results Tryz.f19 (tmps.setIfInBounds i v) = results Tryz.f19 tmps := by
  simp [results, Tryz.results19, Array.getElem?_setIfInBounds_ne (show i ≠ 2 by omega), Array.getElem?_setIfInBounds_ne (show i ≠ 3 by omega)]
theorem leaves_put (R : Ending → World → Prop) (tmps : Array Value) (i : Nat) (v : Value) (h : 4 ≤ i) : ∀ (ds : List Deferred) (u : FrameMode) (w : World),
    Leaves Tryz.prog Tryz.f19 (tmps.setIfInBounds i v) R ds u w → Leaves Tryz.prog Tryz.f19 tmps R ds u w
  | [], u, w, hl => by
    cases u with
    | run => exact hl
    | returning =>
      obtain ⟨x, hx, hr⟩ := hl
      rw [results_put tmps i v h] at hx
      exact ⟨x, hx, hr⟩
    | panicking c => exact hl
  | d :: ds, u, w, hl => by
    obtain ⟨h1, fv, cap, f, args, h2, h3, h4⟩ := hl
    refine ⟨h1, fv, cap, f, args, h2, h3, h4.mono fun e u' w' hh => ?_⟩
    cases e with
    | returned x => exact leaves_put R tmps i v h ds _ _ hh
    | panicked c => exact leaves_put R tmps i v h ds _ _ hh
    | outgrown => exact hh
def tkCs (t : Tk) : List Value := [.int .i64 t.kind, .string ⟨t.text.toArray⟩, .int .i64 t.num, .int .i64 t.pos]
def tksCs (ts : List Tk) : List Value := ts.flatMap tkCs
theorem tksCs_snoc (ts : List Tk) (t : Tk) : tksCs ts ++ tkCs t = tksCs (ts ++ [t]) := by simp [tksCs]
set_option maxRecDepth 100000 in
set_option maxHeartbeats 2000000 in
theorem Tokens_long (l : List UInt8) (w : World) (hl : 65536 < l.length) :
    Calls Tryz.prog 19 #[.string ⟨l.toArray⟩] w fun e w' => e = .returned (.tuple #[.slice none 0 0, .agg #[.int .i64 2, .int .i64 0]]) ∧ Below w.heap.size w w' := by
  have hsz : (ByteArray.mk l.toArray).size = l.length := by simp [ByteArray.size]
  have hlz : (65536 : Int) < (l.length : Int) := by omega
  have hmf : ∀ (fn : Fn) (first cap : Array Value) (w : World), (Instr.makeFunc fn first cap).run Tryz.prog w = .ok (.func fn first cap) w := fun _ _ _ _ => rfl
  go_enter_defers Tryz.func19, Tryz.ntmps19
  go_wp2
  exact ⟨.tuple #[.slice none 0 0, .agg #[.int .i64 2, .int .i64 0]], by simp [results, Tryz.results19, go_sem], rfl, ((Below.refl _ _).alloc (Nat.le_refl _) _).alloc (by simp) _⟩
theorem results_Tokens (tmps : Array Value) (w : World) (p q : Nat) (x y z : Value) (h2 : tmps.getD 2 undef = .pointer (some ⟨p, 0, none⟩)) (h3 : tmps.getD 3 undef = .pointer (some ⟨q, 0, none⟩))
    (hp : w.heap[p]? = some (.cells #[x] 43 (0, 0))) (hq : w.heap[q]? = some (.cells #[y, z] 29 (0, 0))) : (results Tryz.f19 tmps).run Tryz.prog w = .ok (.tuple #[x, .agg #[y, z]]) w := by
  have c0 := blk_cell hp 0
  have c1 := blk_cell hq 0
  have c2 := blk_cell hq 1
  rw [Array.getD_eq_getD_getElem?] at h2 h3
  simp [results, Tryz.results19, h2, h3, c0, c1, c2, go_sem]
structure MT (ts : List Tk) (Av : Option Addr) (cv : Nat) (w w' : World) : Prop where
  cell : w'.cell? ⟨w.heap.size, 0, none⟩ = some (.slice Av ts.length cv)
  bel : Below w.heap.size w w'
  a : w'.heap[w.heap.size]? = some (.cells #[.slice Av ts.length cv] 43 (0, 0))
  b : w'.heap[w.heap.size + 1]? = some (.cells #[.int .i64 0, .int .i64 0] 29 (0, 0))
  sz : w.heap.size + 3 ≤ w'.heap.size
def TokQ (X : List Tk ⊕ Nat) (w : World) (e : Ending) (w' : World) : Prop := Below w.heap.size w w' ∧
  (∀ ts, X = .inl ts → ∃ v, e = .returned (.tuple #[v, .agg #[.int .i64 0, .int .i64 0]]) ∧ w'.ownsRow w.heap.size 51 4 v ts.length (tksCs ts)) ∧
  (∀ a, X = .inr a → e = .returned (.tuple #[.slice none 0 0, .agg #[.int .i64 10, .int .i64 a]]))
set_option maxRecDepth 100000 in
set_option maxHeartbeats 2000000 in
theorem Tokens_short (l : List UInt8) (w : World) (hl : l.length ≤ 65536) (hte : ∀ w1, Below w.heap.size w w1 → TE w1) :
    Calls Tryz.prog 19 #[.string ⟨l.toArray⟩] w (TokQ (toksR l (l.length + 1) 0 []) w) := by
  have hsz : (ByteArray.mk l.toArray).size = l.length := by simp [ByteArray.size]
  have hlz : ¬ (65536 : Int) < (l.length : Int) := by omega
  have hmf : ∀ (fn : Fn) (first cap : Array Value) (w : World), (Instr.makeFunc fn first cap).run Tryz.prog w = .ok (.func fn first cap) w := fun _ _ _ _ => rfl
  have HTE := Aside0.mk hte
  generalize hX : toksR l (l.length + 1) 0 [] = X
  have HX := Aside0.mk hX
  clear hX hte
  go_enter_defers Tryz.func19, Tryz.ntmps19
  go_wp2
  go_loopg [] (l.length) (fun kq w2 => ∃ (n f : Nat) (ts : List Tk) (v : Value), n + kq = l.length ∧ l.length < n + f ∧ ts.length ≤ n ∧ w.heap.size + 3 ≤ w2.heap.size ∧ Aside0 (toksR l f n ts = X) ∧ Aside0 (RD (w.heap.size + 1 + 1) l n w2) ∧
    Aside0 (w2.heap[w.heap.size]? = some (.cells #[v] 43 (0, 0))) ∧ Aside0 (w2.heap[w.heap.size + 1]? = some (.cells #[.int .i64 0, .int .i64 0] 29 (0, 0))) ∧ Aside0 (w2.ownsRow (w.heap.size + 1 + 1 + 1) 51 4 v ts.length (tksCs ts)) ∧ Aside0 (Below w.heap.size w w2))
  case atStart =>
    refine ⟨0, l.length + 1, [], .slice none 0 0, by omega, by omega, by simp, by simp, HX, Aside0.mk ?_, Aside0.mk ?_, Aside0.mk ?_, Aside0.mk (World.ownsRow_nil _ _ _ _), Aside0.mk ?_⟩
    · simp only [RD, World.alloc]
      rw [show w.heap.size + 1 + 1 = ((w.heap.push (.cells #[.slice none 0 0] 43 (0, 0))).push (.cells #[.int .i64 0, .int .i64 0] 29 (0, 0))).size by simp, Array.getElem?_push_size]
      rfl
    · simp only [World.alloc]
      rw [Array.getElem?_push_lt (by simp; omega), Array.getElem_push_lt (by simp), Array.getElem_push_eq]
    · simp only [World.alloc]
      rw [Array.getElem?_push_lt (by simp), Array.getElem_push]
      simp
    · exact (((Below.refl _ _).alloc (Nat.le_refl _) _).alloc (by simp) _).alloc (by simp; omega) _
  case round =>
    obtain ⟨n, f, ts, v, hn, hnf, hts, hsz2, HT, HR2, HA, HB, HO, HBel⟩ := hrel
    obtain ⟨f, rfl⟩ : ∃ m, f = m + 1 := ⟨f - 1, by omega⟩
    go_wp2_with fail
    refine (while_calls (w.heap.size + 1 + 1) l n 36 isBlank _ blank_enters blank_calls HR2.out (by omega) (by omega)).mono ?_
    rintro e w3 ⟨rfl, hr3, hk3⟩
    have hla : n + ((l.drop n).takeWhile isBlank).length ≤ l.length := by
      have := (List.takeWhile_prefix isBlank (l := l.drop n)).length_le
      rw [List.length_drop] at this
      omega
    have hna : n ≤ n + ((l.drop n).takeWhile isBlank).length := Nat.le_add_right _ _
    rw [show toksR l (f + 1) n ts = if n + ((l.drop n).takeWhile isBlank).length = l.length then .inl ts else
      match nextR l (n + ((l.drop n).takeWhile isBlank).length) with
      | none => .inr (n + ((l.drop n).takeWhile isBlank).length)
      | some (t, a2) => toksR l f a2 (ts ++ [t]) from rfl] at HT
    generalize n + ((l.drop n).takeWhile isBlank).length = at' at *
    obtain ⟨Av, cv, rfl⟩ := own_slice HO.out
    have hA3 := (hk3.2.2 w.heap.size (by omega) (by omega)).trans HA.out
    have hB3 := (hk3.2.2 (w.heap.size + 1) (by omega) (by omega)).trans HB.out
    have HO3 := Aside0.mk (own_move HO.out fun k hk => hk3.2.2 k (own_lt HO.out k hk) (by have := own_base HO.out k hk; omega))
    have hsz3 : w.heap.size + 3 ≤ w3.heap.size := Nat.le_trans hsz2 hk3.2.1
    have HBel3 := Aside0.mk (HBel.out.trans (hk3.1.mono (by omega)))
    have c0 : w3.cell? ⟨w.heap.size + 1 + 1, 0, none⟩ = some (.string ⟨l.toArray⟩) := blk_cell hr3 0
    have c1 : w3.cell? ⟨w.heap.size + 1 + 1, 1, none⟩ = some (.int .i64 at') := blk_cell hr3 1
    have a0 := blk_cell hA3 0
    have b0 := blk_cell hB3 0
    have b1 := blk_cell hB3 1
    have fa := fun j => blk_frozen hA3 j
    have fb := fun j => blk_frozen hB3 j
    have HA3 := Aside0.mk hA3
    have HB3 := Aside0.mk hB3
    have HR3 := Aside0.mk hr3
    clear hA3 hB3 hr3 hk3 HR2 HA HB HO HBel
    by_cases hend : at' = l.length
    · rw [if_pos hend] at HT
      have hgb : ((at' : Int) == (l.length : Int)) = true := by simp; omega
      clear hend
      go_wp2
      go_region
      go_wp2
      refine leaves_cons (f := 34) (args := #[.pointer (some ⟨w.heap.size, 0, none⟩), .pointer (some ⟨w.heap.size + 1, 0, none⟩)]) (by simp) (by simp [go_sem]) ?_
      refine (catch_idle _ _ _).mono ?_
      rintro e u' w4 ⟨rfl, rfl, rfl⟩
      refine ⟨.tuple #[.slice Av ts.length cv, .agg #[.int .i64 0, .int .i64 0]], ?_, ?_⟩
      · refine results_Tokens _ _ w.heap.size (w.heap.size + 1) _ _ _ rfl rfl ?_ ?_
        · exact ((far_set _ _ _ _ _ (by omega)).trans (far_set _ _ _ _ _ (by omega))).trans (blk_put HA3.out 0 _ rfl)
        · exact blk_put (blk_put ((far_set _ _ _ _ _ (by omega)).trans HB3.out) 0 _ rfl) 1 _ rfl
      · refine ⟨?_, (fun ts' h => ?_), (fun a h => ?_)⟩
        · exact pw_below_drewN (((HBel3.out.setCell (p := ⟨w.heap.size, 0, none⟩) (Nat.le_refl _) _).setCell (p := ⟨w.heap.size + 1, 0, none⟩) (by simp) _).setCell (p := ⟨w.heap.size + 1, 1, none⟩) (by simp) _) 1
        · rw [← HT.out] at h
          cases h
          refine ⟨_, rfl, own_weaken (own_move HO3.out fun k hk => ?_) (by omega)⟩
          have hk3 := own_base HO3.out k hk
          exact ((far_set _ _ _ _ _ (by omega)).trans (far_set _ _ _ _ _ (by omega))).trans (far_set _ _ _ _ _ (by omega))
        · rw [← HT.out] at h
          cases h
    · rw [if_neg hend] at HT
      have hgb : ((at' : Int) == (l.length : Int)) = false := by simp; omega
      have hN := next_calls (w.heap.size + 1 + 1) l at'
      have HN := Aside0.mk hN
      clear hN
      cases hx : nextR l at' with
      | none =>
        rw [hx] at HT
        have HX := Aside0.mk hx
        clear hx
        go_wp2
        refine start_ (n := 6) (S := MT ts Av cv w) (ds := [5]) #[fF, fF, fF, fF, fF, fF] (by kernel_rfl) rfl rfl ⟨a0, pw_below_drewN HBel3.out 1, HA3.out, HB3.out, hsz3⟩ (fun hHeld => ?_)
        refine take_ (i := 0) (N := some 24) (v := ?_) (a' := ?_) #[tT, fF, fF, fF, fF, fF] rfl rfl (by kernel_rfl) (fun _ _ _ h => leaves_put _ _ 24 _ (by omega) _ _ _ h) (Or.inl ⟨by rfl, ?_⟩) hHeld ?_ ?_
        rotate_left
        · rintro w' ⟨s0, _⟩
          go_simp
          with_reducible rfl
        rotate_left
        · simp only [Act.put, sA, sZ, sS, i64_w, i32_w]
          rfl
        refine pure_ (i := 1) (N := some 25) (v := ?_) (a' := ?_) #[tT, tT, fF, fF, fF, fF] rfl rfl (by kernel_rfl) (fun _ _ _ h => leaves_put _ _ 25 _ (by omega) _ _ _ h) (Or.inl ⟨by rfl, ?_⟩) ?_ ?_
        rotate_left
        · intro w'
          go_simp
          with_reducible rfl
        rotate_left
        · simp only [Act.put, sA, sZ, sS, i64_w, i32_w]
          rfl
        refine one_ (i := 2) (N := some 26) #[tT, tT, tT, fF, fF, fF] rfl rfl (by kernel_rfl) (by decide) (fun K hK => ?_)
        refine call_dies_ 37 #[.pointer (some ⟨w.heap.size + 1 + 1, 0, none⟩)] (by rfl) rfl (by
          have he := enters_ Tryz.func37 (by kernel_rfl) (by kernel_rfl) #[.pointer (some ⟨w.heap.size + 1 + 1, 0, none⟩)] w3.drew
          unfold execOp
          simp [resolve, Deferred.ofValue, invoke, Act.eval, he]) ?_
        refine (HN.out w3.drew HR3.out (by omega) (by omega) (fun w1 h1 => HTE.out w1 (hHeld.bel.trans (h1.mono (by omega))))).mono ?_
        rintro e w4 ⟨hk4, _, hn4⟩
        have he := hn4 HX.out
        refine ⟨_, he, ?_⟩
        have hA4 := (hk4.2.2 w.heap.size (by have := hHeld.sz; omega) (by omega)).trans hHeld.a
        have hB4 := (hk4.2.2 (w.heap.size + 1) (by have := hHeld.sz; omega) (by omega)).trans hHeld.b
        have hs4 := hk4.2.1
        have hb4 := hHeld.bel.trans (hk4.1.mono (by omega))
        have hz3 := hHeld.sz
        show Leaves _ _ _ _ [_] _ _
        refine leaves_cons (f := 34) (args := #[.pointer (some ⟨w.heap.size, 0, none⟩), .pointer (some ⟨w.heap.size + 1, 0, none⟩)]) (by simp) (by simp [go_sem]) ?_
        refine (catch_panicking w.heap.size (w.heap.size + 1) _ _ _ at' [] w4 (by omega) hA4 hB4).mono ?_
        rintro e u' w5 ⟨rfl, rfl, h1, h2, h3⟩
        refine ⟨.tuple #[.slice none 0 0, .agg #[.int .i64 10, .int .i64 at']], ?_, ?_⟩
        · exact results_Tokens _ _ w.heap.size (w.heap.size + 1) _ _ _ rfl rfl h1 h2
        · refine ⟨hb4.trans (h3 _ (Nat.le_refl _) (by omega) (by omega)), (fun ts' h => ?_), (fun a h => ?_)⟩
          · rw [← HT.out] at h
            cases h
          · rw [← HT.out] at h
            cases h
            rfl
      | some p =>
        obtain ⟨t, a2⟩ := p
        rw [hx] at HT
        have HX := Aside0.mk hx
        clear hx
        go_wp2
        refine start_ (n := 6) (S := MT ts Av cv w) (ds := [5]) #[fF, fF, fF, fF, fF, fF] (by kernel_rfl) rfl rfl ⟨a0, pw_below_drewN HBel3.out 1, HA3.out, HB3.out, hsz3⟩ (fun hHeld => ?_)
        refine take_ (i := 0) (N := some 24) (v := ?_) (a' := ?_) #[tT, fF, fF, fF, fF, fF] rfl rfl (by kernel_rfl) (fun _ _ _ h => leaves_put _ _ 24 _ (by omega) _ _ _ h) (Or.inl ⟨by rfl, ?_⟩) hHeld ?_ ?_
        rotate_left
        · rintro w' ⟨s0, _⟩
          go_simp
          with_reducible rfl
        rotate_left
        · simp only [Act.put, sA, sZ, sS, i64_w, i32_w]
          rfl
        refine pure_ (i := 1) (N := some 25) (v := ?_) (a' := ?_) #[tT, tT, fF, fF, fF, fF] rfl rfl (by kernel_rfl) (fun _ _ _ h => leaves_put _ _ 25 _ (by omega) _ _ _ h) (Or.inl ⟨by rfl, ?_⟩) ?_ ?_
        rotate_left
        · intro w'
          go_simp
          with_reducible rfl
        rotate_left
        · simp only [Act.put, sA, sZ, sS, i64_w, i32_w]
          rfl
        refine one_ (i := 2) (N := some 26) #[tT, tT, tT, fF, fF, fF] rfl rfl (by kernel_rfl) (by decide) (fun K hK => ?_)
        refine call_ 37 #[.pointer (some ⟨w.heap.size + 1 + 1, 0, none⟩)] (by rfl) rfl (by
          have he := enters_ Tryz.func37 (by kernel_rfl) (by kernel_rfl) #[.pointer (some ⟨w.heap.size + 1 + 1, 0, none⟩)] w3.drew
          unfold execOp
          simp [resolve, Deferred.ofValue, invoke, Act.eval, he]) ?_
        refine (HN.out w3.drew HR3.out (by omega) (by omega) (fun w1 h1 => HTE.out w1 (hHeld.bel.trans (h1.mono (by omega))))).mono ?_
        rintro e w4 ⟨hk4, hs4, _⟩
        obtain ⟨he, hr4⟩ := hs4 t a2 HX.out
        have hA4 := (hk4.2.2 w.heap.size (by have := hHeld.sz; omega) (by omega)).trans hHeld.a
        have hB4 := (hk4.2.2 (w.heap.size + 1) (by have := hHeld.sz; omega) (by omega)).trans hHeld.b
        have hs4 := hk4.2.1
        have hb4 := hHeld.bel.trans (hk4.1.mono (by omega))
        have hz3 := hHeld.sz
        have ho4 := own_move HO3.out fun k hk => hk4.2.2 k (own_lt HO3.out k hk) (by have := own_base HO3.out k hk; omega)
        refine ⟨_, he, hK.out _ _ ⟨blk_cell hA4 0, hb4, hA4, hB4, by omega⟩ fun hHeld => ?_⟩
        refine norm_ (a' := ?_) ?_ ?_
        rotate_left
        · simp only [Act.put, sA, sZ, sS]
          rfl
        clear hK K
        refine one_ (i := 3) (N := some 27) #[tT, tT, tT, tT, fF, fF] rfl rfl (by kernel_rfl) (by decide) (fun K hK => ?_)
        rw [if_pos (by rfl)]
        unfold Oper.wp tkV
        go_simp
        have hb5 := (Below.refl w4.heap.size w4).alloc (Nat.le_refl _) (.cells (tkCs t).toArray 51)
        refine hK.out _ _ ⟨blk_cell ((hb5.block _ (by omega)).trans hA4) 0, hb4.trans (hb5.mono (by omega)), (hb5.block _ (by omega)).trans hA4, (hb5.block _ (by omega)).trans hB4, Nat.le_trans (by omega) hb5.size⟩ fun hHeld => ?_
        clear hK K
        refine one_ (i := 4) (N := some 28) #[tT, tT, tT, tT, tT, fF] rfl rfl (by kernel_rfl) (by decide) (fun K hK => ?_)
        refine step_append_cells (w0 := w4) (W := w4) (w.heap.size + 1 + 1 + 1) (by rfl) (.tmp 24) (.tmp 27) 43 51 (.agg #[.int .i64 0, .string ⟨#[]⟩, .int .i64 0, .int .i64 0]) 4 40 rfl Tryz.underlying43 infoTok rfl (by decide) (by decide) _ ts.length (tksCs ts) (tkCs t) rfl rfl rfl (by simp [tkCs, Value.oneCell']) ho4 (Below.refl _ _) (by omega) (by omega) ?_
        intro v1 w5 ho5 hb5 hg5 hat5
        have hsz4 : w.heap.size + 3 ≤ w4.heap.size := by omega
        have hg5b : ∀ k, k < w4.heap.size → (Value.slice Av ts.length cv).ownBlock ≠ some k → w5.heap[k]? = w4.heap[k]? := fun k h1 h2 => hg5.block k h1 fun e => h2 e.symm
        have hne : ∀ k, k < w.heap.size + 3 → (Value.slice Av ts.length cv).ownBlock ≠ some k := fun k hk e => by
          have := own_base ho4 k e
          omega
        have hA5 := (hg5b w.heap.size (by omega) (hne _ (by omega))).trans hA4
        have hB5 := (hg5b (w.heap.size + 1) (by omega) (hne _ (by omega))).trans hB4
        have hR5 : RD (w.heap.size + 1 + 1) l a2 w5 := (hg5b (w.heap.size + 1 + 1) (by omega) (hne _ (by omega))).trans hr4
        have hz5 := hg5.size
        have hb5' : Below w.heap.size w w5 := hb4.trans (hb5.mono (by omega))
        obtain ⟨A1, c1', rfl⟩ := own_slice ho5
        have HA5 := Aside0.mk hA5
        have HB5 := Aside0.mk hB5
        have HR5 := Aside0.mk hR5
        have HBel5 := Aside0.mk hb5'
        have HO5 := Aside0.mk ho5
        have e0 := blk_cell hA5 0
        have fe := fun j => blk_frozen hA5 j
        refine hK.out _ _ ⟨e0, hb5', hA5, hB5, by omega⟩ fun hHeld => ?_
        clear hK K hA5 hB5 hR5 hb5' ho5 hg5 hg5b hb5 hat5 hA4 hB4 ho4 hr4 hk4 hs4
        refine norm_ (a' := ?_) ?_ ?_
        rotate_left
        · simp only [Act.put, sA, sZ, sS]
          rfl
        refine last_ (i := 5) (N := none) #[tT, tT, tT, tT, tT, tT] rfl rfl (by kernel_rfl) (by decide) (fun K hK => ?_)
        rw [if_pos (by rfl)]
        unfold Oper.wp
        go_simp
        refine hK.out _ _ ?_
        clear hK K
        refine done_ (by kernel_rfl) ?_
        go_wp2
        have hst := nextR_step HX.out
        go_roundg (l.length - a2)
        case measure => omega
        case rel =>
          refine ⟨a2, f, ts ++ [t], .slice A1 (ts.length + 1) c1', by omega, by omega, by rw [List.length_append]; simp; omega, by simp [World.setCell]; omega, HT, Aside0.mk (RD.setHi HR5.out _ _ _ (by omega)), Aside0.mk (blk_put HA5.out 0 _ rfl), Aside0.mk ((far_set _ _ _ _ _ (by omega)).trans HB5.out), Aside0.mk ?_, Aside0.mk (HBel5.out.setCell (p := ⟨w.heap.size, 0, none⟩) (Nat.le_refl _) _)⟩
          rw [← tksCs_snoc, List.length_append]
          exact own_move HO5.out fun k hk => far_set _ _ _ _ _ (by have := own_base HO5.out k hk; omega)
end Go.Proofs.YtegppkngdkkdcaaGreatDoor.Lx
end
section
set_option linter.unusedVariables false
set_option linter.unusedSimpArgs false
namespace Go.Proofs.YtegppkngdkkdcaaGreatDoor.Tr
open Go.RowKit Go.Proofs.YtegppkngdkkdcaaGreatDoorW.PrintWords Go.Proofs.YtegppkngdkkdcaaGreatDoorW.PrintLast Go.Proofs.YtegppkngdkkdcaaGreatDoorW.PrintMore
open Go.Proofs.YtegppkngdkkdcaaGreatDoor.Lx Go.Proofs.YtegppkngdkkdcaaGreatDoor.PS
def vArg (x : V) (A3 : Option Addr) (c3 : Nat) (A4 : Option Addr) (c4 : Nat) : Value := .agg #[.int .i64 x.f0, .int .i64 x.f1, .string x.f2, .slice A3 x.f3.length c3, .slice A4 x.f4.length c4]
def TellC (xs : List V) (pr : V → Bool) (fid : FuncId) (caps : Array Value) (w : World) : Prop :=
  ∀ x ∈ xs, ∀ (A3 : Option Addr) (c3 : Nat) (A4 : Option Addr) (c4 : Nat) (w1 : World), Below w.heap.size w w1 → x.f3.length ≤ c3 → k26.C w1 A3 x.f3.length x.f3 → x.f4.length ≤ c4 → Kd.string.C w1 A4 x.f4.length x.f4 →
    Calls Tryz.prog fid (#[vArg x A3 c3 A4 c4] ++ caps) w1 fun e w' => e = .returned (.bool (pr x)) ∧ Below w1.heap.size w1 w'
theorem infoVal' : (Tryz.prog.info? 26).map (fun i => (i.zero, i.size, i.bytes)) = some (some (.agg #[.int .i64 0, .int .i64 0, .string ⟨#[]⟩, .slice none 0 0, .slice none 0 0]), 5, 80) := by kernel_rfl
set_option maxRecDepth 100000 in
set_option maxHeartbeats 1000000 in
theorem IndexFunc_calls (xs : List V) (pr : V → Bool) (fid : FuncId) (caps : Array Value) (A : Option Addr) (cc : Nat) (w : World) (hl : xs.length ≤ 1000000000000) (hen : ∀ (args : Array Value) (w : World), (callFunc fid args).run Tryz.prog w = .ok (.enter fid args) w)
    (hC : k26.C w A xs.length xs) (hT : TellC xs pr fid caps w) :
    Calls Tryz.prog 78 #[.slice A xs.length cc, .func (.func fid) #[] caps] w fun e w' => ∃ r : Int, e = .returned (.int .i64 r) ∧ (r ≥ 0 ↔ xs.any pr = true) ∧ Below w.heap.size w w' := by
  obtain ⟨bb, hbb⟩ : ∃ bb, bb = xs.any pr := ⟨_, rfl⟩
  rw [← hbb]
  have HBB := Aside0.mk hbb
  have HC := Aside0.mk hC
  have HT := Aside0.mk hT
  have HE := Aside0.mk hen
  clear hC hT hen hbb
  go_enter Tryz.func78, Tryz.ntmps78
  go_wp2
  go_loopg [5, 8] xs.length (fun kq v5 v8 w' => ∃ (k : Nat), k + kq = xs.length ∧ v8 = .int .i64 k ∧ Aside0 (∀ y ∈ xs.take k, pr y = false) ∧ Aside0 (Below w.heap.size w w'))
  case atStart => exact ⟨0, by simp, rfl, Aside0.mk (by simp), Aside0.mk (Below.refl _ _)⟩
  case round =>
    obtain ⟨k, hk, rfl, HI, HB⟩ := hrel
    cases gk with
    | zero =>
      have hge : ¬ ((k : Int) < (xs.length : Int)) := by omega
      have he : xs.any pr = false := by
        have h := HI.out
        rw [List.take_of_length_le (by omega)] at h
        rw [List.any_eq_false]
        exact fun y hy => by rw [h y hy]; exact Bool.false_ne_true
      have he2 := HBB.out
      rw [he] at he2
      subst he2
      clear he
      go_wp2
      go_ret
      exact ⟨-1, rfl, by simp, HB.out⟩
    | succ k1 =>
      have hlt : (k : Int) < (xs.length : Int) := by omega
      have hlt' : k < xs.length := by omega
      obtain ⟨ad, A3, c3, A4, c4, e, x0, x1, x2, x3, x4, l3, g3, l4, g4⟩ := at_T26 (Kd.C_below HC.out HB.out) k (by omega) hlt
      cases e
      have hrd : rd_T26 xs k = xs[k] := by simp [rd_T26, List.getD, List.getElem?_eq_getElem hlt']
      rw [hrd] at x0 x1 x2 x3 x4 l3 g3 l4 g4
      rw [Int.toNat_natCast] at x0 x1 x2 x3 x4
      have HCL := Aside0.mk (HT.out xs[k] (List.getElem_mem _) A3 c3 A4 c4 _ HB.out l3 g3 l4 g4)
      have HK := Aside0.mk hk
      have hpk := Aside0.mk (show xs.take (k + 1) = xs.take k ++ [xs[k]] from List.take_succ_eq_append_getElem hlt')
      have hmem := Aside0.mk (show xs[k] ∈ xs from List.getElem_mem _)
      clear hk hrd g3 g4
      generalize xs[k] = x at *
      unfold vArg at HCL
      have he := HE.out
      go_wp2_with fail
      refine HCL.out.mono ?_
      clear he
      rintro e w3 ⟨rfl, hb3⟩
      have HB3 := Aside0.mk (HB.out.trans (hb3.mono HB.out.size))
      clear hb3
      cases hpx : pr x with
      | true =>
        have hb : bb = true := by
          rw [HBB.out, List.any_eq_true]
          exact ⟨x, hmem.out, hpx⟩
        subst hb
        go_wp2
        go_ret
        exact ⟨k, rfl, by simp, HB3.out⟩
      | false =>
        have HI2 := Aside0.mk (show ∀ y ∈ xs.take (k + 1), pr y = false by
          intro y hy
          rw [hpk.out, List.mem_append] at hy
          rcases hy with hy | hy
          · exact HI.out y hy
          · rw [List.mem_singleton.1 hy]
            exact hpx)
        clear hpx
        go_wp2
        go_roundg k1
        case measure => omega
        case rel => exact ⟨k + 1, by have := HK.out; omega, by go_num, HI2, HB3⟩
theorem ContainsFunc_calls (xs : List V) (pr : V → Bool) (fid : FuncId) (caps : Array Value) (A : Option Addr) (cc : Nat) (w : World) (hl : xs.length ≤ 1000000000000) (hen : ∀ (args : Array Value) (w : World), (callFunc fid args).run Tryz.prog w = .ok (.enter fid args) w)
    (hC : k26.C w A xs.length xs) (hT : TellC xs pr fid caps w) :
    Calls Tryz.prog 50 #[.slice A xs.length cc, .func (.func fid) #[] caps] w fun e w' => e = .returned (.bool (xs.any pr)) ∧ Below w.heap.size w w' := by
  obtain ⟨bb, hbb⟩ : ∃ bb, bb = xs.any pr := ⟨_, rfl⟩
  rw [← hbb]
  have H := Aside0.mk (IndexFunc_calls xs pr fid caps A cc w hl hen hC hT)
  rw [← hbb] at H
  clear hC hT hen hbb
  go_enter Tryz.func50, Tryz.ntmps50
  go_wp2_with fail
  refine H.out.mono ?_
  rintro e w' ⟨r, rfl, hr, hb⟩
  have HB := Aside0.mk hb
  have HR := Aside0.mk (show bb = decide (r ≥ 0) by cases bb <;> simp_all)
  clear hb hr
  go_wp2
  all_goals go_ret
  all_goals exact ⟨by rw [HR.out]; rfl, HB.out⟩
end Go.Proofs.YtegppkngdkkdcaaGreatDoor.Tr
end
section
set_option linter.unusedVariables false
set_option linter.unusedSimpArgs false
set_option linter.unusedSectionVars false
namespace Go.Proofs.YtegppkngdkkdcaaGreatDoor.MapL
open Go.MapKept Go.RowKit
structure Keyed {κ : Type} [DecidableEq κ] (d : TypeDesc) (enc : κ → Value) : Prop where
  key : ∀ k, IsKey d (enc k)
  same : ∀ a b, Instr.sameNow d (enc a) (enc b) = some (decide (a = b))
  bits : ∀ a, Instr.sameBits 10000 (enc a) (enc a) = true
theorem keyed_string : Keyed .string Value.string :=
  ⟨fun k => by simp [IsKey], fun a b => by
    simp only [Instr.sameNow]
    congr 1
    rw [Bool.eq_iff_iff, decide_eq_true_eq]
    exact (MapKept.bytes_beq a b), fun a => by simp [Instr.sameBits, MapKept.bytes_beq]⟩
section
variable {κ : Type} [DecidableEq κ] {d : TypeDesc} {enc : κ → Value}
def look (k : κ) : List (κ × Value) → Option Value
  | [] => none
  | p :: r => if k = p.1 then some p.2 else look k r
def put (k : κ) (v : Value) : List (κ × Value) → List (κ × Value)
  | [] => [(k, v)]
  | p :: r => if k = p.1 then (k, v) :: r else p :: put k v r
theorem look_put (k : κ) (v : Value) : ∀ l : List (κ × Value), look k (put k v l) = some v
  | [] => by simp [put, look]
  | p :: r => by
    unfold put
    split
    · simp [look]
    · rename_i h; simp [look, h, look_put k v r]
theorem look_put_ne {k k' : κ} (h : k' ≠ k) (v : Value) : ∀ l : List (κ × Value), look k' (put k v l) = look k' l
  | [] => by simp [put, look, h]
  | p :: r => by
    unfold put
    split
    · rename_i hk; subst hk; simp [look, h]
    · simp [look, look_put_ne h v r]
def Is (enc : κ → Value) (w : World) (b : Nat) (l : List (κ × Value)) : Prop :=
  ∃ es clock, w.heap[b]? = some (.map es clock) ∧ es.toList.map (fun e => (e.key, e.val)) = l.map (fun p => (enc p.1, p.2))
theorem Is.lt {w : World} {b : Nat} {l : List (κ × Value)} (h : Is enc w b l) : b < w.heap.size := by
  obtain ⟨es, clock, hb, _⟩ := h
  exact (Array.getElem?_eq_some_iff.1 hb).1
theorem Is.same {w w' : World} {b : Nat} {l : List (κ × Value)} (h : Is enc w b l) (hs : w'.heap[b]? = w.heap[b]?) : Is enc w' b l := by
  obtain ⟨es, clock, hb, h⟩ := h
  exact ⟨es, clock, hs.trans hb, h⟩
theorem Is.drewN {w : World} {b : Nat} {l : List (κ × Value)} (h : Is enc w b l) (n : Nat) : Is enc (w.drewN n) b l := h.same rfl
theorem Is.alloc {w : World} {b : Nat} {l : List (κ × Value)} (h : Is enc w b l) (o : Obj) : Is enc (w.alloc o) b l :=
  h.same (by have := h.lt; show (w.heap.push o)[b]? = _; rw [Array.getElem?_push]; simp; omega)
theorem Is.made (enc : κ → Value) (w : World) : Is enc (w.alloc (.map #[] 0)) w.heap.size [] :=
  ⟨#[], 0, by show (w.heap.push _)[_]? = _; simp, by simp⟩
theorem findNow_look (K : Keyed d enc) (k : κ) : ∀ (es : List MapEntry) (l : List (κ × Value)) (i : Nat), es.map (fun e => (e.key, e.val)) = l.map (fun p => (enc p.1, p.2)) →
    (Instr.findNow d (enc k) es i = some none ∧ look k l = none ∧ (∀ v n, (es ++ [({ key := enc k, val := v, born := n } : MapEntry)]).map (fun e => (e.key, e.val)) = (put k v l).map (fun p => (enc p.1, p.2)))) ∨
    ∃ j v, Instr.findNow d (enc k) es i = some (some (i + j, v)) ∧ look k l = some v ∧ (∃ e, es[j]? = some e ∧ e.key = enc k) ∧
      ∀ v', (es.modify j fun e => { e with key := enc k, val := v' }).map (fun e => (e.key, e.val)) = (put k v' l).map (fun p => (enc p.1, p.2))
  | [], [], i, _ => .inl ⟨rfl, rfl, fun v n => rfl⟩
  | [], _ :: _, _, h => by simp at h
  | _ :: _, [], _, h => by simp at h
  | e :: es, p :: l, i, h => by
    simp only [List.map_cons, List.cons.injEq, Prod.mk.injEq] at h
    obtain ⟨⟨hk, hv⟩, ht⟩ := h
    by_cases hp : k = p.1
    · refine .inr ⟨0, e.val, by simp [Instr.findNow, hk, K.same, hp], by simp [look, hp, hv], ⟨e, rfl, by rw [hk, hp]⟩, fun v' => ?_⟩
      simp [put, hp, ht]
    · have hs : Instr.sameNow d (enc k) e.key = some false := by rw [hk, K.same]; simp [hp]
      rcases findNow_look K k es l (i + 1) ht with ⟨h1, h2, h3⟩ | ⟨j, v, h1, h2, ⟨e', h3, h4⟩, h5⟩
      · refine .inl ⟨by simp [Instr.findNow, hs, h1], by simp [look, hp, h2], fun v n => ?_⟩
        simp only [put, if_neg hp, List.cons_append, List.map_cons, List.cons.injEq]
        exact ⟨by rw [hk, hv], h3 v n⟩
      · refine .inr ⟨j + 1, v, by simp [Instr.findNow, hs, h1]; omega, by simp [look, hp, h2], ⟨e', by simpa using h3, h4⟩, fun v' => ?_⟩
        simp only [put, if_neg hp, List.modify_succ_cons, List.map_cons, List.cons.injEq]
        exact ⟨by rw [hk, hv], h5 v'⟩
theorem run_lookup {P : Program} {w : World} {b : Nat} {l : List (κ × Value)} {t kt et : TypeId} {z : Value} (h : Is enc w b l) (K : Keyed d enc) (ht : P.underlying t = some (.map kt et)) (hd : P.underlying kt = some d)
    (hz : (zeroValue et).run P w = .ok z w) (k : κ) : (Instr.lookup t (.map (some b)) (enc k) false).run P w = .ok ((look k l).getD z) w := by
  obtain ⟨es, clock, hb, hl⟩ := h
  rcases findNow_look K k es.toList l 0 hl with ⟨h1, h2, _⟩ | ⟨j, v, h1, h2, _⟩
  · simp [Instr.lookup, run_underlying ht, MapKept.run_getObj_map hb, MapKept.run_checkKey hd (K.key k), MapKept.run_findKey hd h1, hz, h2, Result.andThen]
  · simp [Instr.lookup, run_underlying ht, MapKept.run_getObj_map hb, MapKept.run_checkKey hd (K.key k), MapKept.run_findKey hd h1, h2, Result.andThen]
theorem run_update {P : Program} {w : World} {b : Nat} {l : List (κ × Value)} {t kt et : TypeId} (h : Is enc w b l) (K : Keyed d enc) (ht : P.underlying t = some (.map kt et)) (hd : P.underlying kt = some d)
    (k : κ) (v : Value) : ∃ w', (Instr.mapUpdate t (.map (some b)) (enc k) v).run P w = .ok () w' ∧ Is enc w' b (put k v l) ∧ w.grownBy w' (some b) := by
  obtain ⟨es, clock, hb, hl⟩ := h
  have hlt : b < w.heap.size := (Array.getElem?_eq_some_iff.1 hb).1
  have hg : ∀ o, w.grownBy { w with heap := w.heap.setIfInBounds b o } (some b) := fun o => ⟨rfl, rfl, rfl, by simp, fun i _ hi => by
    have : b ≠ i := fun e => hi (by rw [e])
    simp [this]⟩
  rcases findNow_look K k es.toList l 0 hl with ⟨h1, h2, h3⟩ | ⟨j, v0, h1, h2, ⟨e, h3, h4⟩, h5⟩
  · refine ⟨{ w with heap := w.heap.setIfInBounds b (.map (es.push { key := enc k, val := v, born := clock }) (clock + 1)) }, ?_, ⟨es.push { key := enc k, val := v, born := clock }, clock + 1, by simp [hlt], ?_⟩, hg _⟩
    · simp [Instr.mapUpdate, run_underlying ht, MapKept.run_getObj_map hb, MapKept.run_checkKey hd (K.key k), MapKept.run_findKey hd h1, MapKept.run_setObj_map _ hb, Result.andThen]
    · have := h3 v clock
      simpa using this
  · refine ⟨{ w with heap := w.heap.setIfInBounds b (.map (es.modify j fun e => { e with key := enc k, val := v }) clock) }, ?_, ⟨es.modify j fun e => { e with key := enc k, val := v }, clock, by simp [hlt], ?_⟩, hg _⟩
    · have h3' : es[j]? = some e := by simpa using h3
      simp [Instr.mapUpdate, run_underlying ht, MapKept.run_getObj_map hb, MapKept.run_checkKey hd (K.key k), MapKept.run_findKey hd h1, MapKept.run_setObj_map _ hb, Result.andThen, h3', h4, Instr.keyThatStays, K.bits]
    · have := h5 v
      simpa using this
theorem length_put (k : κ) (v : Value) : ∀ l : List (κ × Value), (put k v l).length = if look k l = none then l.length + 1 else l.length
  | [] => by simp [put, look]
  | p :: r => by
    unfold put look
    split
    · simp
    · rename_i h
      simp only [List.length_cons, length_put k v r]
      split <;> rfl
theorem run_len {P : Program} {w : World} {b : Nat} {l : List (κ × Value)} {t kt et : TypeId} (h : Is enc w b l) (ht : P.underlying t = some (.map kt et)) (ty : TypeId) : (Builtin.len_ #[t] ty #[.map (some b)]).run P w = .ok (.int .i64 l.length) w := by
  obtain ⟨es, clock, hb, hl⟩ := h
  have e : es.size = l.length := by
    have := congrArg List.length hl
    simpa using this
  simp [Builtin.len_, run_underlying ht, MapKept.run_getObj_map hb, goInt, Result.andThen, e]
variable {P : Program} {ops : Array Oper} {rest : List Oper} {o : Oper} {a : Act} {Q : Exit → Act → World → Prop}
theorem wp_update (w : World) (hg : o.guard = none) (m x v : Operand) (t : TypeId) (hop : o.op = Op.mapUpdate t m x v) (kt et : TypeId) (K : Keyed d enc) (ht : P.underlying t = some (.map kt et)) (hd : P.underlying kt = some d)
    (b : Nat) (l : List (κ × Value)) (hm : a.eval m = .map (some b)) (h : Is enc w b l) (k : κ) (val : Value) (hx : a.eval x = enc k) (hv : a.eval v = val)
    (hK : ∀ w', Is enc w' b (put k val l) → w.grownBy w' (some b) → wpList P ops Q rest (a.put o.dst undef) w') : wpList P ops Q (o :: rest) a w := by
  refine wpList_plain hg fun K' hK' => ?_
  obtain ⟨w', hrun, r1, r2⟩ := run_update h K ht hd k val
  unfold Oper.wp
  simp [execOp, hop, hm, hx, hv, hrun, Result.andThen]
  exact hK' _ _ (hK w' r1 r2)
theorem wp_len (w : World) (hg : o.guard = none) (m : Operand) (t : TypeId) (hop : o.op = Op.call { callee := Callee.builtin Builtin.len, args := #[m], argTypes := #[t] }) (kt et : TypeId) (ht : P.underlying t = some (.map kt et))
    (b : Nat) (l : List (κ × Value)) (hm : a.eval m = .map (some b)) (h : Is enc w b l) (hK : wpList P ops Q rest (a.put o.dst (.int .i64 l.length)) w) : wpList P ops Q (o :: rest) a w := by
  refine wpList_plain hg fun K' hK' => ?_
  unfold Oper.wp
  simp [execOp, hop, resolve, invoke, builtin, hm, run_len h ht o.type, Result.andThen]
  exact hK' _ _ hK
end
end Go.Proofs.YtegppkngdkkdcaaGreatDoor.MapL
end
section
set_option linter.unusedVariables false
set_option linter.unusedSimpArgs false
namespace Go.Proofs.YtegppkngdkkdcaaGreatDoor.Tr
open Go.RowKit Go.Proofs.YtegppkngdkkdcaaGreatDoorW.PrintWords Go.Proofs.YtegppkngdkkdcaaGreatDoorW.PrintLast Go.Proofs.YtegppkngdkkdcaaGreatDoorW.PrintMore
open Go.Proofs.YtegppkngdkkdcaaGreatDoor.Lx Go.Proofs.YtegppkngdkkdcaaGreatDoor.PS
def bareR (k n : Int) (t : List UInt8) (n3 n4 : Nat) : Bool :=
  if k = 1 then n == 0 && t.isEmpty && decide (n3 + n4 = 0)
  else if k = 2 then (n == 0 || n == 1) && t.isEmpty && decide (n3 + n4 = 0)
  else if k = 3 then t.isEmpty && decide (n3 + n4 = 0)
  else if k = 4 then n == 0 && decide (n3 + n4 = 0)
  else if k = 5 then n == 0 && t.isEmpty && decide (n4 = 0)
  else if k = 6 then n == 0 && t.isEmpty && decide (n4 = n3)
  else false
set_option maxRecDepth 100000 in
set_option maxHeartbeats 1000000 in
theorem bare_calls (k n : Int) (t : List UInt8) (A3 : Option Addr) (n3 c3 : Nat) (A4 : Option Addr) (n4 c4 : Nat) (w : World) (h3 : n3 ≤ 1000000000000) (h4 : n4 ≤ 1000000000000) :
    Calls Tryz.prog 49 #[.agg #[.int .i64 k, .int .i64 n, .string ⟨t.toArray⟩, .slice A3 n3 c3, .slice A4 n4 c4]] w fun e w' => e = .returned (.bool (bareR k n t n3 n4)) ∧ Below w.heap.size w w' := by
  obtain ⟨r, hr⟩ : ∃ r, r = bareR k n t n3 n4 := ⟨_, rfl⟩
  rw [← hr]
  have HR := Aside0.mk hr
  clear hr
  by_cases k1 : k = 1
  · subst k1
    by_cases hn : n = 0
    · subst hn
      cases t with
      | nil =>
        by_cases hz : n3 + n4 = 0
        · obtain ⟨rfl, rfl⟩ : n3 = 0 ∧ n4 = 0 := by omega
          clear hz
          go_enter Tryz.func49, Tryz.ntmps49
          go_wp2
          all_goals go_ret
          all_goals exact ⟨by rw [HR.out]; simp [bareR, *] <;> omega, ((Below.refl _ _).alloc (Nat.le_refl _) _).alloc (by simp) _⟩
        · have hzb : (((n3 : Int) + (n4 : Int)) == 0) = false := by simp; omega
          go_enter Tryz.func49, Tryz.ntmps49
          go_wp2
          all_goals go_ret
          all_goals exact ⟨by rw [HR.out]; simp [bareR, *] <;> omega, ((Below.refl _ _).alloc (Nat.le_refl _) _).alloc (by simp) _⟩
      | cons a t =>
        have hta : ((a :: t) == []) = false := rfl
        go_enter Tryz.func49, Tryz.ntmps49
        go_wp2
        all_goals go_ret
        all_goals exact ⟨by rw [HR.out]; simp [bareR, *] <;> omega, ((Below.refl _ _).alloc (Nat.le_refl _) _).alloc (by simp) _⟩
    · have hnb : (n == 0) = false := by simpa using hn
      go_enter Tryz.func49, Tryz.ntmps49
      go_wp2
      all_goals go_ret
      all_goals exact ⟨by rw [HR.out]; simp [bareR, *] <;> omega, ((Below.refl _ _).alloc (Nat.le_refl _) _).alloc (by simp) _⟩
  · by_cases k2 : k = 2
    · subst k2
      by_cases hn : n = 0
      · subst hn
        cases t with
        | nil =>
          by_cases hz : n3 + n4 = 0
          · obtain ⟨rfl, rfl⟩ : n3 = 0 ∧ n4 = 0 := by omega
            clear hz
            go_enter Tryz.func49, Tryz.ntmps49
            go_wp2
            all_goals go_ret
            all_goals exact ⟨by rw [HR.out]; simp [bareR, *] <;> omega, ((Below.refl _ _).alloc (Nat.le_refl _) _).alloc (by simp) _⟩
          · have hzb : (((n3 : Int) + (n4 : Int)) == 0) = false := by simp; omega
            go_enter Tryz.func49, Tryz.ntmps49
            go_wp2
            all_goals go_ret
            all_goals exact ⟨by rw [HR.out]; simp [bareR, *] <;> omega, ((Below.refl _ _).alloc (Nat.le_refl _) _).alloc (by simp) _⟩
        | cons a t =>
          have hta : ((a :: t) == []) = false := rfl
          go_enter Tryz.func49, Tryz.ntmps49
          go_wp2
          all_goals go_ret
          all_goals exact ⟨by rw [HR.out]; simp [bareR, *] <;> omega, ((Below.refl _ _).alloc (Nat.le_refl _) _).alloc (by simp) _⟩
      · have hnb : (n == 0) = false := by simpa using hn
        by_cases hn1 : n = 1
        · subst hn1
          cases t with
          | nil =>
            by_cases hz : n3 + n4 = 0
            · obtain ⟨rfl, rfl⟩ : n3 = 0 ∧ n4 = 0 := by omega
              clear hz
              go_enter Tryz.func49, Tryz.ntmps49
              go_wp2
              all_goals go_ret
              all_goals exact ⟨by rw [HR.out]; simp [bareR, *] <;> omega, ((Below.refl _ _).alloc (Nat.le_refl _) _).alloc (by simp) _⟩
            · have hzb : (((n3 : Int) + (n4 : Int)) == 0) = false := by simp; omega
              go_enter Tryz.func49, Tryz.ntmps49
              go_wp2
              all_goals go_ret
              all_goals exact ⟨by rw [HR.out]; simp [bareR, *] <;> omega, ((Below.refl _ _).alloc (Nat.le_refl _) _).alloc (by simp) _⟩
          | cons a t =>
            have hta : ((a :: t) == []) = false := rfl
            go_enter Tryz.func49, Tryz.ntmps49
            go_wp2
            all_goals go_ret
            all_goals exact ⟨by rw [HR.out]; simp [bareR, *] <;> omega, ((Below.refl _ _).alloc (Nat.le_refl _) _).alloc (by simp) _⟩
        · have hnb1 : (n == 1) = false := by simpa using hn1
          have hnb2 : (n != 1) = true := by simpa using hn1
          have hnb3 : (n != 0) = true := by simpa using hn
          have hnb4 : decide (n = 1) = false := by simpa using hn1
          have hnb5 : decide (n = 0) = false := by simpa using hn
          go_enter Tryz.func49, Tryz.ntmps49
          go_wp2
          all_goals go_ret
          all_goals exact ⟨by rw [HR.out]; simp [bareR, *] <;> omega, ((Below.refl _ _).alloc (Nat.le_refl _) _).alloc (by simp) _⟩
    · by_cases k3 : k = 3
      · subst k3
        cases t with
        | nil =>
          by_cases hz : n3 + n4 = 0
          · obtain ⟨rfl, rfl⟩ : n3 = 0 ∧ n4 = 0 := by omega
            clear hz
            go_enter Tryz.func49, Tryz.ntmps49
            go_wp2
            all_goals go_ret
            all_goals exact ⟨by rw [HR.out]; simp [bareR, *] <;> omega, ((Below.refl _ _).alloc (Nat.le_refl _) _).alloc (by simp) _⟩
          · have hzb : (((n3 : Int) + (n4 : Int)) == 0) = false := by simp; omega
            go_enter Tryz.func49, Tryz.ntmps49
            go_wp2
            all_goals go_ret
            all_goals exact ⟨by rw [HR.out]; simp [bareR, *] <;> omega, ((Below.refl _ _).alloc (Nat.le_refl _) _).alloc (by simp) _⟩
        | cons a t =>
          have hta : ((a :: t) == []) = false := rfl
          go_enter Tryz.func49, Tryz.ntmps49
          go_wp2
          all_goals go_ret
          all_goals exact ⟨by rw [HR.out]; simp [bareR, *] <;> omega, ((Below.refl _ _).alloc (Nat.le_refl _) _).alloc (by simp) _⟩
      · by_cases k4 : k = 4
        · subst k4
          by_cases hn : n = 0
          · subst hn
            by_cases hz : n3 + n4 = 0
            · obtain ⟨rfl, rfl⟩ : n3 = 0 ∧ n4 = 0 := by omega
              clear hz
              go_enter Tryz.func49, Tryz.ntmps49
              go_wp2
              all_goals go_ret
              all_goals exact ⟨by rw [HR.out]; simp [bareR, *] <;> omega, ((Below.refl _ _).alloc (Nat.le_refl _) _).alloc (by simp) _⟩
            · have hzb : (((n3 : Int) + (n4 : Int)) == 0) = false := by simp; omega
              go_enter Tryz.func49, Tryz.ntmps49
              go_wp2
              all_goals go_ret
              all_goals exact ⟨by rw [HR.out]; simp [bareR, *] <;> omega, ((Below.refl _ _).alloc (Nat.le_refl _) _).alloc (by simp) _⟩
          · have hnb : (n == 0) = false := by simpa using hn
            go_enter Tryz.func49, Tryz.ntmps49
            go_wp2
            all_goals go_ret
            all_goals exact ⟨by rw [HR.out]; simp [bareR, *] <;> omega, ((Below.refl _ _).alloc (Nat.le_refl _) _).alloc (by simp) _⟩
        · by_cases k5 : k = 5
          · subst k5
            by_cases hn : n = 0
            · subst hn
              cases t with
              | nil =>
                by_cases hz : n4 = 0
                · subst hz
                  go_enter Tryz.func49, Tryz.ntmps49
                  go_wp2
                  all_goals go_ret
                  all_goals exact ⟨by rw [HR.out]; simp [bareR, *] <;> omega, ((Below.refl _ _).alloc (Nat.le_refl _) _).alloc (by simp) _⟩
                · have hzb : ((n4 : Int) == 0) = false := by simp; omega
                  go_enter Tryz.func49, Tryz.ntmps49
                  go_wp2
                  all_goals go_ret
                  all_goals exact ⟨by rw [HR.out]; simp [bareR, *] <;> omega, ((Below.refl _ _).alloc (Nat.le_refl _) _).alloc (by simp) _⟩
              | cons a t =>
                have hta : ((a :: t) == []) = false := rfl
                go_enter Tryz.func49, Tryz.ntmps49
                go_wp2
                all_goals go_ret
                all_goals exact ⟨by rw [HR.out]; simp [bareR, *] <;> omega, ((Below.refl _ _).alloc (Nat.le_refl _) _).alloc (by simp) _⟩
            · have hnb : (n == 0) = false := by simpa using hn
              go_enter Tryz.func49, Tryz.ntmps49
              go_wp2
              all_goals go_ret
              all_goals exact ⟨by rw [HR.out]; simp [bareR, *] <;> omega, ((Below.refl _ _).alloc (Nat.le_refl _) _).alloc (by simp) _⟩
          · by_cases k6 : k = 6
            · subst k6
              by_cases hn : n = 0
              · subst hn
                cases t with
                | nil =>
                  by_cases hz : n4 = n3
                  · subst hz
                    go_enter Tryz.func49, Tryz.ntmps49
                    go_wp2
                    all_goals go_ret
                    all_goals exact ⟨by rw [HR.out]; simp [bareR, *] <;> omega, ((Below.refl _ _).alloc (Nat.le_refl _) _).alloc (by simp) _⟩
                  · have hzb : ((n4 : Int) == (n3 : Int)) = false := by simp; omega
                    go_enter Tryz.func49, Tryz.ntmps49
                    go_wp2
                    all_goals go_ret
                    all_goals exact ⟨by rw [HR.out]; simp [bareR, *] <;> omega, ((Below.refl _ _).alloc (Nat.le_refl _) _).alloc (by simp) _⟩
                | cons a t =>
                  have hta : ((a :: t) == []) = false := rfl
                  go_enter Tryz.func49, Tryz.ntmps49
                  go_wp2
                  all_goals go_ret
                  all_goals exact ⟨by rw [HR.out]; simp [bareR, *] <;> omega, ((Below.refl _ _).alloc (Nat.le_refl _) _).alloc (by simp) _⟩
              · have hnb : (n == 0) = false := by simpa using hn
                go_enter Tryz.func49, Tryz.ntmps49
                go_wp2
                all_goals go_ret
                all_goals exact ⟨by rw [HR.out]; simp [bareR, *] <;> omega, ((Below.refl _ _).alloc (Nat.le_refl _) _).alloc (by simp) _⟩
            · have kb1 : (k == 1) = false := by simpa using k1
              have kb2 : (k == 2) = false := by simpa using k2
              have kb3 : (k == 3) = false := by simpa using k3
              have kb4 : (k == 4) = false := by simpa using k4
              have kb5 : (k == 5) = false := by simpa using k5
              have kb6 : (k == 6) = false := by simpa using k6
              go_enter Tryz.func49, Tryz.ntmps49
              go_wp2
              all_goals go_ret
              all_goals exact ⟨by rw [HR.out]; simp [bareR, *] <;> omega, ((Below.refl _ _).alloc (Nat.le_refl _) _).alloc (by simp) _⟩
end Go.Proofs.YtegppkngdkkdcaaGreatDoor.Tr
end
section
set_option linter.unusedVariables false
set_option linter.unusedSimpArgs false
namespace Go.Proofs.YtegppkngdkkdcaaGreatDoor.Tr
open Go.RowKit Go.Proofs.YtegppkngdkkdcaaGreatDoorW.PrintWords Go.Proofs.YtegppkngdkkdcaaGreatDoorW.PrintLast Go.Proofs.YtegppkngdkkdcaaGreatDoorW.PrintMore
open Go.Proofs.YtegppkngdkkdcaaGreatDoor.Lx Go.Proofs.YtegppkngdkkdcaaGreatDoor.PS
theorem fld0 (a b c d : Value) (W : World) : (Instr.field 51 (.agg #[a, b, c, d]) 0).run Tryz.prog W = .ok a W := by kernel_rfl
theorem fld1 (a b c d : Value) (W : World) : (Instr.field 51 (.agg #[a, b, c, d]) 1).run Tryz.prog W = .ok b W := by kernel_rfl
theorem fld2 (a b c d : Value) (W : World) : (Instr.field 51 (.agg #[a, b, c, d]) 2).run Tryz.prog W = .ok c W := by kernel_rfl
theorem fld3 (a b c d : Value) (W : World) : (Instr.field 51 (.agg #[a, b, c, d]) 3).run Tryz.prog W = .ok d W := by kernel_rfl
attribute [local go_sem high] fld0 fld1 fld2 fld3
theorem blk_set4 {w : World} {b : Nat} {t : TypeId} {a0 a1 a2 a3 : Value} (h : w.heap[b]? = some (.cells #[a0, a1, a2, a3] t (0, 0))) (v0 v1 v2 v3 : Value) :
    ((((w.setCell ⟨b, 0, none⟩ v0).setCell ⟨b, 1, none⟩ v1).setCell ⟨b, 2, none⟩ v2).setCell ⟨b, 3, none⟩ v3).heap[b]? = some (.cells #[v0, v1, v2, v3] t (0, 0)) :=
  blk_put (blk_put (blk_put (blk_put h 0 v0 rfl) 1 v1 rfl) 2 v2 rfl) 3 v3 rfl
theorem far1 {w : World} {g b j : Nat} {x : Obj} (h : w.heap[g]? = some x) (hne : g ≠ b) (v : Value) : (w.setCell ⟨b, j, none⟩ v).heap[g]? = some x := (Below.heap_setCell w ⟨b, j, none⟩ v g hne).trans h
theorem far4 {w : World} {g b : Nat} {x : Obj} (h : w.heap[g]? = some x) (hne : g ≠ b) (v0 v1 v2 v3 : Value) :
    ((((w.setCell ⟨b, 0, none⟩ v0).setCell ⟨b, 1, none⟩ v1).setCell ⟨b, 2, none⟩ v2).setCell ⟨b, 3, none⟩ v3).heap[g]? = some x := far1 (far1 (far1 (far1 h hne _) hne _) hne _) hne _
theorem keep4 {r b : Nat} {w w1 : World} (h : KeepR r w w1) (hr : r < w.heap.size) (hb : w.heap.size ≤ b) (v0 v1 v2 v3 : Value) : KeepR r w ((((w1.setCell ⟨b, 0, none⟩ v0).setCell ⟨b, 1, none⟩ v1).setCell ⟨b, 2, none⟩ v2).setCell ⟨b, 3, none⟩ v3) :=
  (((h.setHi hr b 0 v0 hb).setHi hr b 1 v1 hb).setHi hr b 2 v2 hb).setHi hr b 3 v3 hb
theorem cellA {w : World} {a : Addr} {v : Value} (h : w.cell? a = some v) (o : Obj) : (w.alloc o).cell? a = some v := (((Below.refl w.heap.size w).alloc (Nat.le_refl _) o).cell (World.block_lt_of_cell? w _ h)).trans h
theorem blkA {w : World} {b : Nat} {x : Obj} (h : w.heap[b]? = some x) (o : Obj) : (w.alloc o).heap[b]? = some x := blk_alloc h o
def RowG (ts : List Tk) (len : Nat) (G : Obj) : Prop := ∃ cur, G = .cells cur 51 (0, 0) ∧ ∀ i, i ≤ ts.length → cur[4 * i]? = some (.int .i64 (tokAt ts len i).kind) ∧ cur[4 * i + 1]? = some (.string ⟨(tokAt ts len i).text.toArray⟩) ∧
  cur[4 * i + 2]? = some (.int .i64 (tokAt ts len i).num) ∧ cur[4 * i + 3]? = some (.int .i64 (tokAt ts len i).pos)
structure Pz (ts : List Tk) (len : Nat) (G : Obj) (g b p o : Nat) (w : World) : Prop where
  blk : ∃ c, w.heap[b]? = some (.cells #[.slice (some ⟨g, 4 * p, none⟩) (ts.length + 1 - p) c, .int .i64 o] 53 (0, 0)) ∧ ts.length + 1 - p ≤ c
  row : w.heap[g]? = some G
  le : p ≤ ts.length
  ne : g ≠ b
theorem Pz.cells {ts : List Tk} {len : Nat} {G : Obj} {g b p o : Nat} {w : World} (h : Pz ts len G g b p o w) (hG : RowG ts len G) : w.cell? ⟨g, 4 * p, none⟩ = some (.int .i64 (tokAt ts len p).kind) ∧ w.cell? ⟨g, 4 * p + 1, none⟩ = some (.string ⟨(tokAt ts len p).text.toArray⟩) ∧
    w.cell? ⟨g, 4 * p + 2, none⟩ = some (.int .i64 (tokAt ts len p).num) ∧ w.cell? ⟨g, 4 * p + 3, none⟩ = some (.int .i64 (tokAt ts len p).pos) := by
  obtain ⟨cur, rfl, hc⟩ := hG
  obtain ⟨h0, h1, h2, h3⟩ := hc p h.le
  have hr := h.row
  exact ⟨(blk_cell hr _).trans h0, (blk_cell hr _).trans h1, (blk_cell hr _).trans h2, (blk_cell hr _).trans h3⟩
theorem Pz.keep {ts : List Tk} {len : Nat} {G : Obj} {g b p o : Nat} {w w' : World} (h : Pz ts len G g b p o w) (hb : Below w.heap.size w w') : Pz ts len G g b p o w' := by
  obtain ⟨⟨c, h1, h2⟩, h3, h4, h5⟩ := h
  exact ⟨⟨c, blk_below h1 hb, h2⟩, blk_below h3 hb, h4, h5⟩
set_option maxRecDepth 100000 in
theorem peek_calls (ts : List Tk) (len : Nat) (G : Obj) (hG : RowG ts len G) (g b p o : Nat) (w : World) (h : Pz ts len G g b p o w) :
    Calls Tryz.prog 38 #[.pointer (some ⟨b, 0, none⟩)] w fun e w' => e = .returned (tkV (tokAt ts len p)) ∧ Below w.heap.size w w' := by
  obtain ⟨t0, t1, t2, t3⟩ := h.cells hG
  obtain ⟨⟨c, hb, hc⟩, hrow, hle, hne⟩ := h
  have c0 : w.cell? ⟨b, 0, none⟩ = some (.slice (some ⟨g, 4 * p, none⟩) (ts.length + 1 - p) c) := blk_cell hb 0
  have hgl := blk_lt hrow
  have hbl := blk_lt hb
  have hn1 : g ≠ w.heap.size := by omega
  have hn2 : b ≠ w.heap.size := by omega
  have hpos : 0 < ts.length + 1 - p := by omega
  unfold tkV
  generalize tokAt ts len p = t at *
  clear hb hrow
  go_enter Tryz.func38, Tryz.ntmps38
  go_wp2
  exact bodyPost_ret (by simp [results, Tryz.results38, go_sem]) rfl ⟨rfl, (Below.refl _ _).alloc (Nat.le_refl _) _⟩
def wrongV (c a : Nat) : Value := .iface 47 (.agg #[.int .i64 c, .int .i64 a])
set_option maxRecDepth 100000 in
theorem refuse_calls (ts : List Tk) (len : Nat) (G : Obj) (hG : RowG ts len G) (g b p o : Nat) (code : Nat) (w : World) (h : Pz ts len G g b p o w) :
    Calls Tryz.prog 45 #[.pointer (some ⟨b, 0, none⟩), .int .i64 code] w fun e w' => e = .panicked [{ v := wrongV code (tokAt ts len p).pos, recovered := false }] ∧ Below w.heap.size w w' := by
  have H := Aside0.mk (peek_calls ts len G hG g b p o w h)
  unfold tkV at H
  clear h
  go_enter Tryz.func45, Tryz.ntmps45
  go_wp2_with fail
  refine H.out.mono ?_
  rintro e w1 ⟨rfl, hb⟩
  have HB := Aside0.mk hb
  clear hb
  go_wp2
  exact ⟨rfl, rfl, HB.out⟩
set_option maxRecDepth 100000 in
theorem res_next (tmps : Array Value) (w : World) (b : Nat) (v0 v1 v2 v3 : Value) (h4 : tmps.getD 4 undef = .pointer (some ⟨b, 0, none⟩)) (hb : w.heap[b]? = some (.cells #[v0, v1, v2, v3] 51 (0, 0))) :
    (results Tryz.f22 tmps).run Tryz.prog w = .ok (.agg #[v0, v1, v2, v3]) w := by
  have c0 := blk_cell hb 0
  have c1 := blk_cell hb 1
  have c2 := blk_cell hb 2
  have c3 := blk_cell hb 3
  rw [Array.getD_eq_getD_getElem?] at h4
  simp [results, Tryz.results22, h4, c0, c1, c2, c3, go_sem]
set_option maxRecDepth 100000 in
theorem next_ok (ts : List Tk) (len : Nat) (G : Obj) (hG : RowG ts len G) (g b p o : Nat) (w : World) (h : Pz ts len G g b p o w) (hp : p < ts.length) (hl : ts.length ≤ 1000000) :
    Calls Tryz.prog 22 #[.pointer (some ⟨b, 0, none⟩), .int .i64 (tokAt ts len p).kind] w fun e w' => e = .returned (tkV (tokAt ts len p)) ∧ Pz ts len G g b (p + 1) o w' ∧ KeepR b w w' := by
  have HG := Aside0.mk hG
  have H := Aside0.mk h
  clear h hG
  go_enter Tryz.func22, Tryz.ntmps22
  go_wp2_with fail
  have hb0 : Below w.heap.size w (w.alloc (.cells #[.int .i64 0, .string ⟨#[]⟩, .int .i64 0, .int .i64 0] 51)) := (Below.refl _ _).alloc (Nat.le_refl _) _
  refine (peek_calls ts len G HG.out g b p o _ (H.out.keep hb0)).mono ?_
  rintro e w1 ⟨rfl, hb1⟩
  have HB1 := Aside0.mk (hb0.trans (hb1.mono (by simp)))
  have hx1 := blk_below (blk_new w (.cells #[.int .i64 0, .string ⟨#[]⟩, .int .i64 0, .int .i64 0] 51)) hb1
  have HX1 := Aside0.mk hx1
  have hsz1 : w.heap.size < w1.heap.size := blk_lt hx1
  obtain ⟨⟨c, hbk, hc⟩, hrow, hle, hne⟩ := H.out.keep HB1.out
  have HBK := Aside0.mk hbk
  have HROW := Aside0.mk hrow
  have c0 : w1.cell? ⟨b, 0, none⟩ = some (.slice (some ⟨g, 4 * p, none⟩) (ts.length + 1 - p) c) := blk_cell hbk 0
  have fb := fun j => blk_frozen hbk j
  have hbl : b < w.heap.size := by
    obtain ⟨⟨c, hbk, _⟩, _⟩ := H.out
    exact blk_lt hbk
  have d0 : w1.cell? ⟨w.heap.size, 0, none⟩ = some (.int .i64 0) := blk_cell hx1 0
  have d1 : w1.cell? ⟨w.heap.size, 1, none⟩ = some (.string ⟨#[]⟩) := blk_cell hx1 1
  have d2 : w1.cell? ⟨w.heap.size, 2, none⟩ = some (.int .i64 0) := blk_cell hx1 2
  have d3 : w1.cell? ⟨w.heap.size, 3, none⟩ = some (.int .i64 0) := blk_cell hx1 3
  have c0' := cellA c0
  have fb' : ∀ o j, (w1.alloc o).frozen? ⟨b, j, none⟩ = false := fun o j => blk_frozen (blkA hbk o) j
  have d0' := cellA d0
  have d1' := cellA d1
  have d2' := cellA d2
  have d3' := cellA d3
  have fd' : ∀ o j, (w1.alloc o).frozen? ⟨w.heap.size, j, none⟩ = false := fun o j => blk_frozen (blkA hx1 o) j
  have hn5 : 1 ≤ ts.length + 1 - p := by omega
  have hn6 : 1 < c := by omega
  have fd := fun j => blk_frozen hx1 j
  have hn1 : b ≠ w.heap.size := by omega
  have hn2 : b ≠ w1.heap.size := by omega
  have hn3 : w.heap.size ≠ w1.heap.size := by omega
  have hn2' : w1.heap.size ≠ b := by omega
  have hn1' : w.heap.size ≠ b := by omega
  have hn3' : w1.heap.size ≠ w.heap.size := by omega
  clear hb0 hb1 hx1 hbk hrow
  unfold tkV
  generalize ht : tokAt ts len p = t at *
  have HT := Aside0.mk ht
  clear ht
  go_wp2
  have hp1 : ts.length + 1 - p - 1 = ts.length + 1 - (p + 1) := by omega
  have hp2 : 4 * p + 4 = 4 * (p + 1) := by omega
  have hgl : g < w1.heap.size := blk_lt HROW.out
  have hgs : g ≠ w.heap.size := by
    have := blk_lt H.out.row
    omega
  refine bodyPost_ret (v := .agg #[.int .i64 t.kind, .string ⟨t.text.toArray⟩, .int .i64 t.num, .int .i64 t.pos]) (res_next _ _ w.heap.size _ _ _ _ rfl (blk_set4 (far1 (blkA HX1.out _) hn1' _) _ _ _ _)) rfl ⟨by rw [HT.out]; rfl, ⟨⟨c - 1, ?_, by omega⟩, far4 (far1 (blkA HROW.out _) hne _) hgs _ _ _ _, by omega, hne⟩, ?_⟩
  · rw [← hp1, ← hp2]
    exact far4 (blk_put (blkA HBK.out _) 0 _ rfl) hn1 _ _ _ _
  · exact keep4 ((KeepR.of_below (HB1.out.alloc (by omega) _) hbl).set 0 _) hbl (Nat.le_refl _) _ _ _ _
set_option maxRecDepth 100000 in
theorem next_bad (ts : List Tk) (len : Nat) (G : Obj) (hG : RowG ts len G) (g b p o k : Nat) (w : World) (h : Pz ts len G g b p o w) (hk : (tokAt ts len p).kind ≠ k) :
    Calls Tryz.prog 22 #[.pointer (some ⟨b, 0, none⟩), .int .i64 k] w fun e w' => e = .panicked [{ v := wrongV 20 (tokAt ts len p).pos, recovered := false }] ∧ Below w.heap.size w w' := by
  have HG := Aside0.mk hG
  have H := Aside0.mk h
  clear h hG
  have hq : (((tokAt ts len p).kind : Int) == (k : Int)) = false := by simp; omega
  clear hk
  go_enter Tryz.func22, Tryz.ntmps22
  go_wp2_with fail
  have hb0 : Below w.heap.size w (w.alloc (.cells #[.int .i64 0, .string ⟨#[]⟩, .int .i64 0, .int .i64 0] 51)) := (Below.refl _ _).alloc (Nat.le_refl _) _
  refine (peek_calls ts len G HG.out g b p o _ (H.out.keep hb0)).mono ?_
  rintro e w1 ⟨rfl, hb1⟩
  have HB1 := Aside0.mk (hb0.trans (hb1.mono (by simp)))
  have hsz1 : w.heap.size ≤ w1.heap.size := HB1.out.size
  clear hb0 hb1
  have HB2 := Aside0.mk (HB1.out.alloc hsz1 (.cells #[.int .i64 (tokAt ts len p).kind, .string ⟨(tokAt ts len p).text.toArray⟩, .int .i64 (tokAt ts len p).num, .int .i64 (tokAt ts len p).pos] 51))
  unfold tkV
  generalize ht : tokAt ts len p = t at *
  have HT := Aside0.mk ht
  clear ht
  go_wp2_with fail
  refine (refuse_calls ts len G HG.out g b p o 20 _ (H.out.keep HB2.out)).mono ?_
  rintro e w2 ⟨rfl, hb2⟩
  exact ⟨rfl, rfl, HB2.out.trans (hb2.mono (by simp; omega))⟩
def leafV (v : V) : Value := .agg #[.int .i64 v.f0, .int .i64 v.f1, .string v.f2, .slice none 0 0, .slice none 0 0]
theorem blk_set5 {w : World} {b : Nat} {t : TypeId} {a0 a1 a2 a3 a4 : Value} (h : w.heap[b]? = some (.cells #[a0, a1, a2, a3, a4] t (0, 0))) (v0 v1 v2 v3 v4 : Value) :
    (((((w.setCell ⟨b, 0, none⟩ v0).setCell ⟨b, 1, none⟩ v1).setCell ⟨b, 2, none⟩ v2).setCell ⟨b, 3, none⟩ v3).setCell ⟨b, 4, none⟩ v4).heap[b]? = some (.cells #[v0, v1, v2, v3, v4] t (0, 0)) :=
  blk_put (blk_put (blk_put (blk_put (blk_put h 0 v0 rfl) 1 v1 rfl) 2 v2 rfl) 3 v3 rfl) 4 v4 rfl
theorem far5 {w : World} {g b : Nat} {x : Obj} (h : w.heap[g]? = some x) (hne : g ≠ b) (v0 v1 v2 v3 v4 : Value) :
    (((((w.setCell ⟨b, 0, none⟩ v0).setCell ⟨b, 1, none⟩ v1).setCell ⟨b, 2, none⟩ v2).setCell ⟨b, 3, none⟩ v3).setCell ⟨b, 4, none⟩ v4).heap[g]? = some x := far1 (far1 (far1 (far1 (far1 h hne _) hne _) hne _) hne _) hne _
theorem below5 {B b : Nat} {w w' : World} (h : Below B w w') (hb : B ≤ b) (v0 v1 v2 v3 v4 : Value) : Below B w (((((w'.setCell ⟨b, 0, none⟩ v0).setCell ⟨b, 1, none⟩ v1).setCell ⟨b, 2, none⟩ v2).setCell ⟨b, 3, none⟩ v3).setCell ⟨b, 4, none⟩ v4) :=
  ((((h.setCell (p := ⟨b, 0, none⟩) hb _).setCell (p := ⟨b, 1, none⟩) hb _).setCell (p := ⟨b, 2, none⟩) hb _).setCell (p := ⟨b, 3, none⟩) hb _).setCell (p := ⟨b, 4, none⟩) hb _
theorem keep5 {r b : Nat} {w w1 : World} (h : KeepR r w w1) (hr : r < w.heap.size) (hb : w.heap.size ≤ b) (v0 v1 v2 v3 v4 : Value) : KeepR r w (((((w1.setCell ⟨b, 0, none⟩ v0).setCell ⟨b, 1, none⟩ v1).setCell ⟨b, 2, none⟩ v2).setCell ⟨b, 3, none⟩ v3).setCell ⟨b, 4, none⟩ v4) :=
  ((((h.setHi hr b 0 v0 hb).setHi hr b 1 v1 hb).setHi hr b 2 v2 hb).setHi hr b 3 v3 hb).setHi hr b 4 v4 hb
theorem res_word (tmps : Array Value) (w : World) (b : Nat) (v0 v1 v2 v3 v4 : Value) (h4 : tmps.getD 2 undef = .pointer (some ⟨b, 0, none⟩)) (hb : w.heap[b]? = some (.cells #[v0, v1, v2, v3, v4] 26 (0, 0))) :
    (results Tryz.f39 tmps).run Tryz.prog w = .ok (.agg #[v0, v1, v2, v3, v4]) w := by
  have c0 := blk_cell hb 0
  have c1 := blk_cell hb 1
  have c2 := blk_cell hb 2
  have c3 := blk_cell hb 3
  have c4 := blk_cell hb 4
  rw [Array.getD_eq_getD_getElem?] at h4
  simp [results, Tryz.results39, h4, c0, c1, c2, c3, c4, go_sem]
set_option maxRecDepth 100000 in
theorem word_calls (t : List UInt8) (w : World) : Calls Tryz.prog 39 #[.string ⟨t.toArray⟩] w fun e w' => e = .returned (leafV (wordV t)) ∧ Below w.heap.size w w' := by
  unfold wordV leafV
  by_cases e1 : t = wNul
  · subst e1
    rw [if_pos rfl]
    unfold wNul
    go_enter Tryz.func39, Tryz.ntmps39
    go_wp2
    exact bodyPost_ret (res_word _ _ w.heap.size _ _ _ _ _ rfl (blk_new _ _)) rfl ⟨rfl, (Below.refl _ _).alloc (Nat.le_refl _) _⟩
  · have b1 : (t == [110, 117, 108, 108]) = false := beq_eq_false_iff_ne.2 e1
    rw [if_neg e1]
    clear e1
    by_cases e2 : t = wTru
    · subst e2
      rw [if_pos rfl]
      unfold wTru at *
      go_enter Tryz.func39, Tryz.ntmps39
      go_wp2
      exact bodyPost_ret (res_word _ _ w.heap.size _ _ _ _ _ rfl (blk_new _ _)) rfl ⟨rfl, (Below.refl _ _).alloc (Nat.le_refl _) _⟩
    · have b2 : (t == [116, 114, 117, 101]) = false := beq_eq_false_iff_ne.2 e2
      rw [if_neg e2]
      clear e2
      go_enter Tryz.func39, Tryz.ntmps39
      go_wp2
      exact bodyPost_ret (res_word _ _ w.heap.size _ _ _ _ _ rfl (blk_new _ _)) rfl ⟨rfl, (Below.refl _ _).alloc (Nat.le_refl _) _⟩
end Go.Proofs.YtegppkngdkkdcaaGreatDoor.Tr
end
section
set_option linter.unusedVariables false
set_option linter.unusedSimpArgs false
namespace Go.Proofs.YtegppkngdkkdcaaGreatDoor.Tr
open Go.RowKit Go.Proofs.YtegppkngdkkdcaaGreatDoorW.PrintWords Go.Proofs.YtegppkngdkkdcaaGreatDoorW.PrintLast Go.Proofs.YtegppkngdkkdcaaGreatDoorW.PrintMore
open Go.Proofs.YtegppkngdkkdcaaGreatDoor.Lx Go.Proofs.YtegppkngdkkdcaaGreatDoor.PS
def setTo (l : List ByteArray) : Nat → List (ByteArray × Value)
  | 0 => []
  | k + 1 => MapL.put (l.getD k ByteArray.empty) (.agg #[]) (setTo l k)
theorem take_snoc (l : List (ByteArray)) (k : Nat) (h : k < l.length) : l.take (k + 1) = l.take k ++ [l.getD k ByteArray.empty] := by
  rw [List.take_succ_eq_append_getElem h, List.getD_eq_getElem?_getD, List.getElem?_eq_getElem h]
  rfl
theorem look_put_if (k k' : ByteArray) (v : Value) (l : List (ByteArray × Value)) : MapL.look k' (MapL.put k v l) = if k' = k then some v else MapL.look k' l := by
  by_cases h : k' = k
  · rw [if_pos h, h, MapL.look_put]
  · rw [if_neg h, MapL.look_put_ne h]
open Classical in
theorem setTo_has (l : List (ByteArray)) : ∀ k, k ≤ l.length → ∀ n, (MapL.look n (setTo l k)).isSome = decide (n ∈ l.take k)
  | 0, _, n => by simp [setTo, MapL.look]
  | k + 1, h, n => by
    rw [setTo, look_put_if, take_snoc l k (by omega), apply_ite Option.isSome, setTo_has l k (by omega)]
    by_cases hn : n = l.getD k ByteArray.empty
    · rw [if_pos hn]
      simp [hn]
    · rw [if_neg hn]
      have : (n ∈ l.take k ++ [l.getD k ByteArray.empty]) ↔ n ∈ l.take k := by rw [List.mem_append, List.mem_singleton]; exact or_iff_left hn
      rw [decide_eq_decide.2 this]
open Classical in
theorem setTo_len (l : List (ByteArray)) : ∀ k, k ≤ l.length → (setTo l k).length ≤ k ∧ ((setTo l k).length = k ↔ (l.take k).Nodup)
  | 0, _ => by simp [setTo]
  | k + 1, h => by
    obtain ⟨h1, h2⟩ := setTo_len l k (by omega)
    have hs := setTo_has l k (by omega) (l.getD k ByteArray.empty)
    rw [setTo, MapL.length_put, take_snoc l k (by omega), List.nodup_append]
    by_cases hn : l.getD k ByteArray.empty ∈ l.take k
    · have : MapL.look (l.getD k ByteArray.empty) (setTo l k) ≠ none := by
        rw [decide_eq_true hn] at hs
        intro e
        rw [e] at hs
        cases hs
      rw [if_neg this]
      refine ⟨by omega, ⟨fun e => by omega, fun e => absurd rfl (e.2.2 _ hn (l.getD k ByteArray.empty) (by simp))⟩⟩
    · have : MapL.look (l.getD k ByteArray.empty) (setTo l k) = none := by
        rw [decide_eq_false hn] at hs
        simpa using hs
      rw [if_pos this]
      refine ⟨by omega, ⟨fun e => ⟨h2.1 (by omega), by simp, fun a ha b hb => by
        have : b = l.getD k ByteArray.empty := by simpa using hb
        rintro rfl
        exact hn (this ▸ ha)⟩, fun e => by rw [h2.2 e.1]⟩⟩
def bareV (x : V) : Bool := bareR x.f0 x.f1 x.f2.data.toList x.f3.length x.f4.length
def soundR : Nat → V → Bool
  | 0, x => !(x.f0 == 5 || x.f0 == 6) && bareV x && decide x.f4.Nodup
  | d + 1, x => bareV x && decide x.f4.Nodup && x.f3.all (soundR d)
def fitsR : Nat → V → Prop
  | 0, x => x.f3.length ≤ 1000000000000 ∧ x.f4.length ≤ 1000000000000
  | d + 1, x => x.f3.length ≤ 1000000000000 ∧ x.f4.length ≤ 1000000000000 ∧ ∀ y ∈ x.f3, fitsR d y
theorem fitsR_len {d : Nat} {x : V} (h : fitsR d x) : x.f3.length ≤ 1000000000000 ∧ x.f4.length ≤ 1000000000000 := by
  cases d with
  | zero => exact h
  | succ d => exact ⟨h.1, h.2.1⟩
def SoundC (d : Nat) : Prop := ∀ (x : V) (A3 : Option Addr) (c3 : Nat) (A4 : Option Addr) (c4 : Nat) (w : World), fitsR d x → x.f3.length ≤ c3 → k26.C w A3 x.f3.length x.f3 → x.f4.length ≤ c4 → Kd.string.C w A4 x.f4.length x.f4 →
  Calls Tryz.prog 26 #[vArg x A3 c3 A4 c4, .int .i64 d] w fun e w' => e = .returned (.bool (soundR d x)) ∧ Below w.heap.size w w'
set_option maxRecDepth 100000 in
set_option maxHeartbeats 1000000 in
theorem sound1_calls (d : Nat) (hd : d ≤ 8) (IH : SoundC d) (x : V) (A3 : Option Addr) (c3 : Nat) (A4 : Option Addr) (c4 : Nat) (b : Nat) (w : World) (hf : fitsR d x) (l3 : x.f3.length ≤ c3) (g3 : k26.C w A3 x.f3.length x.f3) (l4 : x.f4.length ≤ c4) (g4 : Kd.string.C w A4 x.f4.length x.f4)
    (hb : w.cell? ⟨b, 0, none⟩ = some (.int .i64 (d + 1 : Nat))) :
    Calls Tryz.prog 51 #[vArg x A3 c3 A4 c4, .pointer (some ⟨b, 0, none⟩)] w fun e w' => e = .returned (.bool (!(soundR d x))) ∧ Below w.heap.size w w' := by
  have hba := (Below.refl w.heap.size w).alloc (Nat.le_refl _) (.cells #[.int .i64 x.f0, .int .i64 x.f1, .string x.f2, .slice A3 x.f3.length c3, .slice A4 x.f4.length c4] 26 (0, 0))
  have H := Aside0.mk (IH x A3 c3 A4 c4 _ hf l3 (Kd.C_below g3 hba) l4 (Kd.C_below g4 hba))
  have HB := Aside0.mk hba
  have hc : ((d + 1 : Nat) : Int) = (d : Int) + 1 := by omega
  rw [hc] at hb
  have cb := cellA hb
  have hs1 : (d : Int) + 1 - 1 = d := by omega
  have hlt := World.block_lt_of_cell? w _ hb
  have hne : b ≠ w.heap.size := Nat.ne_of_lt hlt
  unfold vArg at *
  clear hba IH g3 g4 hb
  generalize soundR d x = r at *
  go_enter Tryz.func51, Tryz.ntmps51
  go_wp2_with fail
  refine H.out.mono ?_
  rintro e w' ⟨rfl, hb'⟩
  have HB2 := Aside0.mk (HB.out.trans (hb'.mono HB.out.size))
  clear hb'
  go_wp2
  go_ret
  exact ⟨rfl, HB2.out⟩
theorem bareR_rows {k n : Int} {t : List UInt8} {n3 n4 : Nat} (h : bareR k n t n3 n4 = true) (h5 : k ≠ 5) (h6 : k ≠ 6) : n3 = 0 := by
  unfold bareR at h
  simp only [if_neg h5, if_neg h6] at h
  repeat' split at h
  all_goals simp at h
  all_goals omega
theorem sound1_enters (args : Array Value) (w : World) : (callFunc 51 args).run Tryz.prog w = .ok (.enter 51 args) w := enters_ Tryz.func51 (by kernel_rfl) (by kernel_rfl) args w
set_option maxRecDepth 100000 in
set_option maxHeartbeats 1000000 in
theorem sound_succ (d : Nat) (hd : d ≤ 7) (IH : SoundC d) : SoundC (d + 1) := by
  intro x A3 c3 A4 c4 w hf l3 g3 l4 g4
  have hc : ((d + 1 : Nat) : Int) = (d : Int) + 1 := by omega
  rw [hc]
  obtain ⟨h3, h4⟩ := fitsR_len hf
  have HF := Aside0.mk hf
  have HG := Aside0.mk (And.intro g3 g4)
  have HIH := Aside0.mk IH
  have s1 : (w.alloc (.cells #[.int .i64 x.f0, .int .i64 x.f1, .string x.f2, .slice A3 x.f3.length c3, .slice A4 x.f4.length c4] 26 (0, 0))).heap.size = w.heap.size + 1 := by simp
  have nv := blkA (blk_new w (.cells #[.int .i64 x.f0, .int .i64 x.f1, .string x.f2, .slice A3 x.f3.length c3, .slice A4 x.f4.length c4] 26 (0, 0))) (.cells #[.int .i64 ((d : Int) + 1)] 3 (0, 0))
  have nd := blk_new (w.alloc (.cells #[.int .i64 x.f0, .int .i64 x.f1, .string x.f2, .slice A3 x.f3.length c3, .slice A4 x.f4.length c4] 26 (0, 0))) (.cells #[.int .i64 ((d : Int) + 1)] 3 (0, 0))
  rw [s1] at nd
  have hs2 : ((w.alloc (.cells #[.int .i64 x.f0, .int .i64 x.f1, .string x.f2, .slice A3 x.f3.length c3, .slice A4 x.f4.length c4] 26 (0, 0))).alloc (.cells #[.int .i64 ((d : Int) + 1)] 3 (0, 0))).heap.size = w.heap.size + 2 := by simp
  have hB2 : Below w.heap.size w ((w.alloc (.cells #[.int .i64 x.f0, .int .i64 x.f1, .string x.f2, .slice A3 x.f3.length c3, .slice A4 x.f4.length c4] 26 (0, 0))).alloc (.cells #[.int .i64 ((d : Int) + 1)] 3 (0, 0))) := ((Below.refl _ _).alloc (Nat.le_refl _) _).alloc (by simp) _
  have hz : (((d : Int) + 1) == 0) = false := by simp; omega
  obtain ⟨r, hr⟩ : ∃ r, r = soundR (d + 1) x := ⟨_, rfl⟩
  rw [← hr]
  have HR := Aside0.mk hr
  unfold vArg
  have hx2 : x.f2 = ⟨x.f2.data.toList.toArray⟩ := by cases x.f2; rfl
  have HBA := Aside0.mk (fun w1 => bare_calls x.f0 x.f1 x.f2.data.toList A3 x.f3.length c3 A4 x.f4.length c4 w1 h3 h4)
  rw [← hx2] at HBA
  clear hx2 hf g3 g4 IH hr hc
  go_enter Tryz.func26, Tryz.ntmps26
  go_wp2_with fail
  generalize (w.alloc (.cells #[.int .i64 x.f0, .int .i64 x.f1, .string x.f2, .slice A3 x.f3.length c3, .slice A4 x.f4.length c4] 26 (0, 0))).alloc (.cells #[.int .i64 ((d : Int) + 1)] 3 (0, 0)) = W2 at *
  refine (HBA.out W2).mono ?_
  rintro e w3 ⟨rfl, hb3⟩
  have HV3 := Aside0.mk (blk_below nv hb3)
  have HD3 := Aside0.mk (blk_below nd hb3)
  have HB3 := Aside0.mk (hB2.trans (hb3.mono hB2.size))
  have hs3 := hb3.size
  have x3 : w3.cell? ⟨w.heap.size, 3, none⟩ = some (.slice A3 x.f3.length c3) := blk_cell HV3.out 3
  have x4 : w3.cell? ⟨w.heap.size, 4, none⟩ = some (.slice A4 x.f4.length c4) := blk_cell HV3.out 4
  clear nv nd hB2 hb3
  cases hbv : bareR x.f0 x.f1 x.f2.data.toList x.f3.length x.f4.length with
  | false =>
    have HQ := Aside0.mk (show r = false by rw [HR.out]; simp [soundR, bareV, hbv])
    clear hbv
    go_wp2
    go_ret
    exact ⟨by rw [HQ.out]; rfl, HB3.out⟩
  | true =>
    have HQ := Aside0.mk hbv
    clear hbv
    have hmm := @run_makeMap Tryz.prog
    have x3' := cellA x3
    have x4' := cellA x4
    have HG3 := Aside0.mk (Kd.C_below HG.out.2 HB3.out)
    have HG3' := Aside0.mk (Kd.C_below HG.out.1 HB3.out)
    have hb4 := (Below.refl w3.heap.size w3).alloc (Nat.le_refl _) (.map #[] 0)
    have HIS := Aside0.mk (MapL.Is.made Value.string w3)
    have HB4 := Aside0.mk hb4
    clear hb4
    go_wp2_with fail
    clear hmm
    go_loopg [7, 29] x.f4.length (fun kq v7 v29 w2 => ∃ k : Nat, k + kq = x.f4.length ∧ v29 = .int .i64 k ∧ Aside0 (MapL.Is Value.string w2 w3.heap.size (setTo x.f4 k)) ∧ Aside0 (Below w3.heap.size w3 w2))
    case atStart => exact ⟨0, by omega, rfl, HIS, HB4⟩
    case round =>
      obtain ⟨k, hk, rfl, HI, HBR⟩ := hrel
      clear HIS HB4 x3' x4'
      have y3 : wr.cell? ⟨w.heap.size, 3, none⟩ = some (.slice A3 x.f3.length c3) := blk_cell (blk_below HV3.out HBR.out) 3
      have y4 : wr.cell? ⟨w.heap.size, 4, none⟩ = some (.slice A4 x.f4.length c4) := blk_cell (blk_below HV3.out HBR.out) 4
      cases gk with
      | zero =>
        have hge : ¬ ((k : Nat) : Int) < (x.f4.length : Int) := by omega
        obtain rfl : k = x.f4.length := by omega
        have HSL := Aside0.mk (setTo_len x.f4 x.f4.length (Nat.le_refl _)).2
        by_cases q : (setTo x.f4 x.f4.length).length = x.f4.length
        · have hb : (((setTo x.f4 x.f4.length).length : Int) != (x.f4.length : Int)) = false := by simp [q]
          have HQ2 := Aside0.mk q
          clear q
          have hmf : ∀ (fn : Fn) (first cap : Array Value) (w : World), (Instr.makeFunc fn first cap).run Tryz.prog w = .ok (.func fn first cap) w := fun _ _ _ _ => rfl
          go_wp2_with (refine MapL.wp_len _ rfl (.tmp 37) _ rfl _ _ Tryz.underlying85 w3.heap.size _ rfl HI.out ?_)
          refine (ContainsFunc_calls x.f3 (fun y => !(soundR d y)) 51 #[.pointer (some ⟨w.heap.size + 1, 0, none⟩)] A3 c3 wr h3 sound1_enters (Kd.C_below HG3'.out HBR.out) ?_).mono ?_
          · intro y hy B3 e3 B4 e4 w1 hb1 m3 k3 m4 k4
            exact sound1_calls d (by omega) HIH.out y B3 e3 B4 e4 (w.heap.size + 1) w1 (HF.out.2.2 y hy) m3 k3 m4 k4 (by rw [show ((d + 1 : Nat) : Int) = (d : Int) + 1 by omega]; exact blk_cell (blk_below (blk_below HD3.out HBR.out) hb1) 0)
          · rintro e w5 ⟨rfl, hb5⟩
            have HB5 := Aside0.mk ((HB3.out.trans (HBR.out.mono HB3.out.size)).trans (hb5.mono (Nat.le_trans HB3.out.size HBR.out.size)))
            clear hb5
            have hnd : decide x.f4.Nodup = true := by
              rw [decide_eq_true_iff]
              have := HSL.out.1 HQ2.out
              rwa [List.take_length] at this
            have HE := Aside0.mk (show r = !(x.f3.any fun y => !(soundR d y)) by
              rw [HR.out]
              simp only [soundR, bareV, HQ.out, hnd, Bool.true_and]
              rw [List.all_eq_not_any_not])
            clear hnd
            generalize (x.f3.any fun y => !(soundR d y)) = q2 at *
            go_wp2
            go_ret
            exact ⟨by rw [HE.out]; rfl, HB5.out⟩
        · have hb : (((setTo x.f4 x.f4.length).length : Int) != (x.f4.length : Int)) = true := by simp; omega
          have HQ2 := Aside0.mk q
          clear q
          go_wp2_with (refine MapL.wp_len _ rfl (.tmp 37) _ rfl _ _ Tryz.underlying85 w3.heap.size _ rfl HI.out ?_)
          go_ret
          refine ⟨?_, HB3.out.trans (HBR.out.mono HB3.out.size)⟩
          have hnd : decide x.f4.Nodup = false := by
            rw [decide_eq_false_iff_not]
            intro e
            exact HQ2.out (HSL.out.2 (by rw [List.take_length]; exact e))
          rw [HR.out]
          simp [soundR, hnd]
      | succ k1 =>
        have hlt : k < x.f4.length := by omega
        have hltz : ((k : Nat) : Int) < (x.f4.length : Int) := by omega
        obtain ⟨ad, cs, e, _, hK, hc0⟩ := Kd.C_get (Kd.C_below HG3.out HBR.out) ByteArray.empty (k : Int) (by omega) hltz
        cases e
        have hK' : cs = [.string (x.f4.getD k ByteArray.empty)] := by simpa [Kd.string, Kd.scalar] using hK
        subst hK'
        have r0 : wr.cell? (ad.add k) = some (.string (x.f4.getD k ByteArray.empty)) := by
          have := hc0 0 _ rfl
          simpa [Kd.string, Kd.scalar] using this
        have HI2 := HI
        clear hK hc0
        generalize hnm : x.f4.getD k ByteArray.empty = nme at *
        have HNM := Aside0.mk hnm
        clear hnm
        go_wp2_with (refine MapL.wp_update _ rfl (.tmp 33) (.tmp 34) (.tmp 35) _ rfl _ _ MapL.keyed_string Tryz.underlying85 Tryz.underlying9 w3.heap.size _ rfl HI2.out nme (.agg #[]) (by rfl) (by rfl) ?_; intro w4 hm4 hg4; replace hm4 := Aside0.mk hm4; replace hg4 := Aside0.mk hg4)
        go_roundg k1
        case measure => omega
        case rel => exact ⟨k + 1, by omega, by go_num, Aside0.mk (by rw [setTo, HNM.out]; exact hm4.out), Aside0.mk (HBR.out.grown hg4.out HBR.out.size (fun b e => by cases e; exact Nat.le_refl _))⟩
set_option maxRecDepth 100000 in
set_option maxHeartbeats 1000000 in
theorem sound_zero : SoundC 0 := by
  intro x A3 c3 A4 c4 w hf l3 g3 l4 g4
  rw [show ((0 : Nat) : Int) = 0 from rfl]
  obtain ⟨h3, h4⟩ := fitsR_len hf
  have HF := Aside0.mk hf
  have HG := Aside0.mk (And.intro g3 g4)
  have s1 : (w.alloc (.cells #[.int .i64 x.f0, .int .i64 x.f1, .string x.f2, .slice A3 x.f3.length c3, .slice A4 x.f4.length c4] 26 (0, 0))).heap.size = w.heap.size + 1 := by simp
  have nv := blkA (blk_new w (.cells #[.int .i64 x.f0, .int .i64 x.f1, .string x.f2, .slice A3 x.f3.length c3, .slice A4 x.f4.length c4] 26 (0, 0))) (.cells #[.int .i64 0] 3 (0, 0))
  have nd := blk_new (w.alloc (.cells #[.int .i64 x.f0, .int .i64 x.f1, .string x.f2, .slice A3 x.f3.length c3, .slice A4 x.f4.length c4] 26 (0, 0))) (.cells #[.int .i64 0] 3 (0, 0))
  rw [s1] at nd
  have hs2 : ((w.alloc (.cells #[.int .i64 x.f0, .int .i64 x.f1, .string x.f2, .slice A3 x.f3.length c3, .slice A4 x.f4.length c4] 26 (0, 0))).alloc (.cells #[.int .i64 0] 3 (0, 0))).heap.size = w.heap.size + 2 := by simp
  have hB2 : Below w.heap.size w ((w.alloc (.cells #[.int .i64 x.f0, .int .i64 x.f1, .string x.f2, .slice A3 x.f3.length c3, .slice A4 x.f4.length c4] 26 (0, 0))).alloc (.cells #[.int .i64 0] 3 (0, 0))) := ((Below.refl _ _).alloc (Nat.le_refl _) _).alloc (by simp) _
  obtain ⟨r, hr⟩ : ∃ r, r = soundR 0 x := ⟨_, rfl⟩
  rw [← hr]
  have HR := Aside0.mk hr
  unfold vArg
  have hx2 : x.f2 = ⟨x.f2.data.toList.toArray⟩ := by cases x.f2; rfl
  have HBA := Aside0.mk (fun w1 => bare_calls x.f0 x.f1 x.f2.data.toList A3 x.f3.length c3 A4 x.f4.length c4 w1 h3 h4)
  rw [← hx2] at HBA
  clear hx2 hf g3 g4 hr
  by_cases h5 : x.f0 = 5
  · have HQ := Aside0.mk (show r = false by rw [HR.out]; simp [soundR, h5])
    have k5 : (x.f0 == 5) = true := by simp [h5]
    clear h5
    go_enter Tryz.func26, Tryz.ntmps26
    go_wp2
    go_ret
    exact ⟨by rw [HQ.out]; rfl, hB2⟩

  · by_cases h6 : x.f0 = 6
    · have HQ := Aside0.mk (show r = false by rw [HR.out]; simp [soundR, h6])
      have k6 : (x.f0 == 6) = true := by simp [h6]
      have k5 : (x.f0 == 5) = false := by simp [h6]
      clear h6
      go_enter Tryz.func26, Tryz.ntmps26
      go_wp2
      go_ret
      exact ⟨by rw [HQ.out]; rfl, hB2⟩

    · have k5 : (x.f0 == 5) = false := by simpa using h5
      have k6 : (x.f0 == 6) = false := by simpa using h6
      have HN := Aside0.mk (And.intro h5 h6)
      clear h5 h6
      go_enter Tryz.func26, Tryz.ntmps26
      go_wp2_with fail
      generalize (w.alloc (.cells #[.int .i64 x.f0, .int .i64 x.f1, .string x.f2, .slice A3 x.f3.length c3, .slice A4 x.f4.length c4] 26 (0, 0))).alloc (.cells #[.int .i64 0] 3 (0, 0)) = W2 at *
      refine (HBA.out W2).mono ?_
      rintro e w3 ⟨rfl, hb3⟩
      have HV3 := Aside0.mk (blk_below nv hb3)
      have HD3 := Aside0.mk (blk_below nd hb3)
      have HB3 := Aside0.mk (hB2.trans (hb3.mono hB2.size))
      have hs3 := hb3.size
      have x3 : w3.cell? ⟨w.heap.size, 3, none⟩ = some (.slice A3 x.f3.length c3) := blk_cell HV3.out 3
      have x4 : w3.cell? ⟨w.heap.size, 4, none⟩ = some (.slice A4 x.f4.length c4) := blk_cell HV3.out 4
      clear nv nd hB2 hb3
      cases hbv : bareR x.f0 x.f1 x.f2.data.toList x.f3.length x.f4.length with
      | false =>
        have HQ := Aside0.mk (show r = false by rw [HR.out]; simp [soundR, bareV, hbv])
        clear hbv
        go_wp2
        go_ret
        exact ⟨by rw [HQ.out]; rfl, HB3.out⟩
      | true =>
        have HQ := Aside0.mk hbv
        clear hbv
        have hmm := @run_makeMap Tryz.prog
        have x3' := cellA x3
        have x4' := cellA x4
        have HG3 := Aside0.mk (Kd.C_below HG.out.2 HB3.out)
        have HG3' := Aside0.mk (Kd.C_below HG.out.1 HB3.out)
        have hb4 := (Below.refl w3.heap.size w3).alloc (Nat.le_refl _) (.map #[] 0)
        have HIS := Aside0.mk (MapL.Is.made Value.string w3)
        have HB4 := Aside0.mk hb4
        clear hb4
        go_wp2_with fail
        clear hmm
        go_loopg [7, 29] x.f4.length (fun kq v7 v29 w2 => ∃ k : Nat, k + kq = x.f4.length ∧ v29 = .int .i64 k ∧ Aside0 (MapL.Is Value.string w2 w3.heap.size (setTo x.f4 k)) ∧ Aside0 (Below w3.heap.size w3 w2))
        case atStart => exact ⟨0, by omega, rfl, HIS, HB4⟩
        case round =>
          obtain ⟨k, hk, rfl, HI, HBR⟩ := hrel
          clear HIS HB4 x3' x4'
          have y3 : wr.cell? ⟨w.heap.size, 3, none⟩ = some (.slice A3 x.f3.length c3) := blk_cell (blk_below HV3.out HBR.out) 3
          have y4 : wr.cell? ⟨w.heap.size, 4, none⟩ = some (.slice A4 x.f4.length c4) := blk_cell (blk_below HV3.out HBR.out) 4
          cases gk with
          | zero =>
            have hge : ¬ ((k : Nat) : Int) < (x.f4.length : Int) := by omega
            obtain rfl : k = x.f4.length := by omega
            have HSL := Aside0.mk (setTo_len x.f4 x.f4.length (Nat.le_refl _)).2
            by_cases q : (setTo x.f4 x.f4.length).length = x.f4.length
            · have hb : (((setTo x.f4 x.f4.length).length : Int) != (x.f4.length : Int)) = false := by simp [q]
              have HQ2 := Aside0.mk q
              clear q
              have hmf : ∀ (fn : Fn) (first cap : Array Value) (w : World), (Instr.makeFunc fn first cap).run Tryz.prog w = .ok (.func fn first cap) w := fun _ _ _ _ => rfl
              go_wp2_with (refine MapL.wp_len _ rfl (.tmp 37) _ rfl _ _ Tryz.underlying85 w3.heap.size _ rfl HI.out ?_)
              have hx3 : x.f3 = [] := List.length_eq_zero_iff.1 (bareR_rows HQ.out HN.out.1 HN.out.2)
              have HX3 := Aside0.mk hx3
              clear hx3
              refine (ContainsFunc_calls x.f3 (fun _ => false) 51 #[.pointer (some ⟨w.heap.size + 1, 0, none⟩)] A3 c3 wr h3 sound1_enters (Kd.C_below HG3'.out HBR.out) ?_).mono ?_
              · intro y hy
                rw [HX3.out] at hy
                cases hy
              · rintro e w5 ⟨rfl, hb5⟩
                have HB5 := Aside0.mk ((HB3.out.trans (HBR.out.mono HB3.out.size)).trans (hb5.mono (Nat.le_trans HB3.out.size HBR.out.size)))
                clear hb5
                have hnd : decide x.f4.Nodup = true := by
                  rw [decide_eq_true_iff]
                  have := HSL.out.1 HQ2.out
                  rwa [List.take_length] at this
                have HE := Aside0.mk (show r = !(x.f3.any fun _ => false) by
                  rw [HR.out]
                  simp only [soundR, bareV, HQ.out, hnd, Bool.true_and]
                  rw [k5, k6, HX3.out]
                  rfl)
                clear hnd
                generalize (x.f3.any fun _ => false) = q2 at *
                go_wp2
                go_ret
                exact ⟨by rw [HE.out]; rfl, HB5.out⟩
            · have hb : (((setTo x.f4 x.f4.length).length : Int) != (x.f4.length : Int)) = true := by simp; omega
              have HQ2 := Aside0.mk q
              clear q
              go_wp2_with (refine MapL.wp_len _ rfl (.tmp 37) _ rfl _ _ Tryz.underlying85 w3.heap.size _ rfl HI.out ?_)
              go_ret
              refine ⟨?_, HB3.out.trans (HBR.out.mono HB3.out.size)⟩
              have hnd : decide x.f4.Nodup = false := by
                rw [decide_eq_false_iff_not]
                intro e
                exact HQ2.out (HSL.out.2 (by rw [List.take_length]; exact e))
              rw [HR.out]
              simp [soundR, hnd]
          | succ k1 =>
            have hlt : k < x.f4.length := by omega
            have hltz : ((k : Nat) : Int) < (x.f4.length : Int) := by omega
            obtain ⟨ad, cs, e, _, hK, hc0⟩ := Kd.C_get (Kd.C_below HG3.out HBR.out) ByteArray.empty (k : Int) (by omega) hltz
            cases e
            have hK' : cs = [.string (x.f4.getD k ByteArray.empty)] := by simpa [Kd.string, Kd.scalar] using hK
            subst hK'
            have r0 : wr.cell? (ad.add k) = some (.string (x.f4.getD k ByteArray.empty)) := by
              have := hc0 0 _ rfl
              simpa [Kd.string, Kd.scalar] using this
            have HI2 := HI
            clear hK hc0
            generalize hnm : x.f4.getD k ByteArray.empty = nme at *
            have HNM := Aside0.mk hnm
            clear hnm
            go_wp2_with (refine MapL.wp_update _ rfl (.tmp 33) (.tmp 34) (.tmp 35) _ rfl _ _ MapL.keyed_string Tryz.underlying85 Tryz.underlying9 w3.heap.size _ rfl HI2.out nme (.agg #[]) (by rfl) (by rfl) ?_; intro w4 hm4 hg4; replace hm4 := Aside0.mk hm4; replace hg4 := Aside0.mk hg4)
            go_roundg k1
            case measure => omega
            case rel => exact ⟨k + 1, by omega, by go_num, Aside0.mk (by rw [setTo, HNM.out]; exact hm4.out), Aside0.mk (HBR.out.grown hg4.out HBR.out.size (fun b e => by cases e; exact Nat.le_refl _))⟩
theorem sound_calls : ∀ d, d ≤ 8 → SoundC d
  | 0, _ => sound_zero
  | d + 1, h => sound_succ d (by omega) (sound_calls d (by omega))
end Go.Proofs.YtegppkngdkkdcaaGreatDoor.Tr
end
section
set_option linter.unusedVariables false
set_option linter.unusedSimpArgs false
namespace Go.Proofs.YtegppkngdkkdcaaGreatDoor.Tr
open Go Go.Proofs.YtegppkngdkkdcaaGreatDoor.Lx Go.Proofs.YtegppkngdkkdcaaGreatDoor.PS
def leafW (x : V) : List UInt8 := if x.f0 = 1 then wNul else if x.f0 = 2 then Lib.formatBool (x.f1 == 1) else if x.f0 = 3 then Lib.itoa x.f1 else if x.f0 = 4 then quoteR x.f2.data.toList else []
def elemsW (f : V → List UInt8) (m : Bool) : Nat → List V → List ByteArray → List UInt8
  | _, [], _ => []
  | i, y :: ys, ns => (if i = 0 then [] else [44]) ++ (if m = true then quoteR (ns.headD ByteArray.empty).data.toList ++ [58] else []) ++ f y ++ elemsW f m (i + 1) ys ns.tail
def writeD : Nat → V → List UInt8
  | 0, x => leafW x
  | d + 1, x => if x.f0 = 5 then [91] ++ elemsW (writeD d) false 0 x.f3 x.f4 ++ [93] else if x.f0 = 6 then [123] ++ elemsW (writeD d) true 0 x.f3 x.f4 ++ [125] else leafW x
def printR (x : V) : List UInt8 × Nat := if soundR 8 x = true then (writeD 8 x, 0) else ([], 1)
end Go.Proofs.YtegppkngdkkdcaaGreatDoor.Tr
end
