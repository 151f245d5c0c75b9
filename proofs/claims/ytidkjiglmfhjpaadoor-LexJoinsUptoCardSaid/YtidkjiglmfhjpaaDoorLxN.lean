/- assizeref01: number: the walk. -/
import Derived.Test.YtidkjiglmfhjpaaDoorLxG
import Derived.Test.YtidkjiglmfhjpaaDoorLxD
set_option linter.unusedVariables false
set_option linter.unusedSimpArgs false
namespace Go.Proofs.YtidkjiglmfhjpaaDoor.Lx
open Go.RowKit Go.Proofs.YtidkjiglmfhjpaaDoorW.PrintWords Go.Proofs.YtidkjiglmfhjpaaDoorW.PrintLast Go.Proofs.YtidkjiglmfhjpaaDoorW.PrintMore

attribute [local go_sem] idx_list
theorem refdigit_calls (c : UInt8) (w : World) : Calls Tryd.prog 36 #[.int .u8 c.toNat] w fun e w' => e = .returned (.bool (isDigit c)) ∧ w' = w := by
  unfold isDigit
  by_cases h1 : 48 ≤ c.toNat
  · have h1' : (48 : Int) ≤ (c.toNat : Int) := by omega
    by_cases h2 : c.toNat ≤ 57
    · have h2' : (c.toNat : Int) ≤ 57 := by omega
      rw [decide_eq_true h1, decide_eq_true h2]
      go_enter Tryd.func36, Tryd.ntmps36
      go_wp2
      go_ret
      exact ⟨rfl, rfl⟩
    · have h2' : ¬ (c.toNat : Int) ≤ 57 := by omega
      rw [decide_eq_true h1, decide_eq_false h2]
      go_enter Tryd.func36, Tryd.ntmps36
      go_wp2
      go_ret
      exact ⟨rfl, rfl⟩
  · have h1' : ¬ (48 : Int) ≤ (c.toNat : Int) := by omega
    rw [decide_eq_false h1]
    go_enter Tryd.func36, Tryd.ntmps36
    go_wp2
    go_ret
    exact ⟨rfl, rfl⟩
/-- What number answers: the number and the place behind it. -/
def numA (neg : Bool) (ds : List UInt8) (k : Nat) : Int × Int := match numR neg ds with
  | some v => (v, k)
  | none => (0, -1)
theorem tw_digits (l : List UInt8) : ∀ c ∈ l.takeWhile isDigit, isDigit c = true := by
  intro c hc
  exact List.all_eq_true.1 (List.all_takeWhile) c hc
set_option maxRecDepth 100000 in
set_option maxHeartbeats 4000000 in
theorem refnum_neg (l : List UInt8) (i : Nat) (w : World) (hi : i < l.length) (hc : l[i] = 45) (hl : l.length ≤ 1000000000000) (hw : ∀ w1, Below w.heap.size w w1 → LW w1) :
    Calls Tryd.prog 37 #[.string ⟨l.toArray⟩, .int .i64 i] w fun e w' => Below w.heap.size w w' ∧
      e = .returned (.tuple #[.int .i64 (numA true ((l.drop (i + 1)).takeWhile isDigit) (i + 1 + ((l.drop (i + 1)).takeWhile isDigit).length)).1, .int .i64 (numA true ((l.drop (i + 1)).takeWhile isDigit) (i + 1 + ((l.drop (i + 1)).takeWhile isDigit).length)).2]) := by
  have hsz : (ByteArray.mk l.toArray).size = l.length := by simp [ByteArray.size]
  have HW := Aside0.mk hw
  have hq : ((l[i].toNat : Int) == 45) = true := by rw [hc]; rfl
  have hiz : (i : Int) < (l.length : Int) := by omega
  obtain ⟨ds, hds⟩ : ∃ ds, ds = (l.drop (i + 1)).takeWhile isDigit := ⟨_, rfl⟩
  rw [← hds]
  generalize hR : numA true ds (i + 1 + ds.length) = RES
  have HRES := Aside0.mk hR
  clear hR
  have HDG := Aside0.mk (show ∀ c ∈ ds, isDigit c = true by rw [hds]; exact tw_digits _)
  have HDS := Aside0.mk hds
  have HC := Aside0.mk hc
  clear hc hds hw
  go_enter Tryd.func37, Tryd.ntmps37
  go_wp2
  go_loopg [6] (l.length - (i + 1)) (fun kq u6 w2 => ∃ n : Nat, n + kq = l.length ∧ i + 1 ≤ n ∧ u6 = .int .i64 n ∧ Aside0 (ds = (l.drop (i + 1)).take (n - (i + 1)) ++ (l.drop n).takeWhile isDigit) ∧ w2 = w)
  case atStart => exact ⟨i + 1, by omega, Nat.le_refl _, by go_num, Aside0.mk (by rw [HDS.out]; simp), rfl⟩
  case round =>
    obtain ⟨n, hn, hna, rfl, HT, rfl⟩ := hrel
    by_cases hgo : ∃ h : n < l.length, isDigit l[n] = true
    · obtain ⟨hlt, hdg⟩ := hgo
      have hltz : (n : Int) < (l.length : Int) := by omega
      obtain ⟨k1, rfl⟩ : ∃ k1, gk = k1 + 1 := ⟨gk - 1, by omega⟩
      have HDG1 := Aside0.mk hdg
      clear hdg
      go_wp2_with fail
      refine (refdigit_calls l[n] _).mono ?_
      rintro e w' ⟨he, hww⟩
      rw [HDG1.out] at he
      subst he
      rw [hww]
      clear hww
      go_wp2
      go_roundg k1
      case measure => omega
      case rel =>
        refine ⟨n + 1, by omega, by omega, by go_num, Aside0.mk ?_, rfl⟩
        have hd2 : l.drop n = l[n] :: l.drop (n + 1) := List.drop_eq_getElem_cons hlt
        rw [HT.out, hd2, List.takeWhile_cons, if_pos HDG1.out]
        have hlt2 : n - (i + 1) < (l.drop (i + 1)).length := by rw [List.length_drop]; omega
        rw [show n + 1 - (i + 1) = n - (i + 1) + 1 by omega, List.take_succ_eq_append_getElem hlt2, List.append_assoc]
        have hg : (l.drop (i + 1))[n - (i + 1)] = l[n] := by
          rw [List.getElem_drop]
          congr 1
          omega
        rw [hg]
        rfl
    · have hz : (l.drop n).takeWhile isDigit = [] := by
        by_cases hlt : n < l.length
        · rw [List.drop_eq_getElem_cons hlt, List.takeWhile_cons, if_neg (fun h => hgo ⟨hlt, h⟩)]
        · rw [List.drop_eq_nil_of_le (by omega)]
          rfl
      have hds2 : ds = (l.drop (i + 1)).take (n - (i + 1)) := by rw [HT.out, hz, List.append_nil]
      have hdl : ds.length = n - (i + 1) := by rw [hds2, List.length_take, List.length_drop]; omega
      have hnk : i + 1 + ds.length = n := by omega
      have htx : (l.drop i).take (n - i) = (if true then [45] else []) ++ ds := by
        rw [show n - i = (n - (i + 1)) + 1 by omega, List.drop_eq_getElem_cons hi, List.take_succ_cons, HC.out, ← hds2]
        rfl
      have hns : n ≤ l.length := by omega
      have hsl : ∀ W, (Instr.slice 9 (.string ⟨l.toArray⟩) (some (.int .i64 (i : Int))) (some (.int .i64 (n : Int))) none).run Tryd.prog W = .ok (.string ⟨(45 :: ds).toArray⟩) W := fun W => by
        rw [run_slice_string W 9 _ _ _ _ _ Tryd.underlying9 (by omega) (by omega) (by rw [hsz]; omega), ext_seg, Int.toNat_natCast, Int.toNat_natCast, htx]
        rfl
      have HNB := Aside0.mk hgo
      have HRS := Aside0.mk (show numA true ds n = RES by rw [← HRES.out, hnk])
      clear hz htx hgo
      by_cases c1 : ds = []
      · have hA : numA true ds n = (0, -1) := by
          unfold numA
          rw [numR_eq _ _ HDG.out, if_pos (Or.inl c1)]
        have HA := Aside0.mk (show RES = (0, -1) by rw [← HRS.out, hA])
        have hnf : n = i + 1 := by rw [c1] at hdl; simp at hdl; omega
        have hb7 : ((n : Int) == ((i : Int) + 1)) = true := by simp; omega
        clear c1 hA hnf hds2 hdl hnk
        by_cases hlt : n < l.length
        · have hltz : (n : Int) < (l.length : Int) := by omega
          have hdf : isDigit l[n] = false := by cases h : isDigit l[n] with | false => rfl | true => exact absurd ⟨hlt, h⟩ HNB.out
          go_wp2_with fail
          refine (refdigit_calls l[n] _).mono ?_
          rintro e w' ⟨he, hww⟩
          rw [hdf] at he
          subst he
          rw [hww]
          clear hww
          clear hdf
          go_wp2
          go_ret2
          exact ⟨Below.refl _ _, by rw [HA.out]; rfl⟩
        · have hltz : ¬ (n : Int) < (l.length : Int) := by omega
          go_wp2
          go_ret2
          exact ⟨Below.refl _ _, by rw [HA.out]; rfl⟩
      · have hne := Aside0.mk c1
        have hgt : i + 1 < n := by
          have : 0 < ds.length := List.length_pos_iff.2 c1
          omega
        have hb7 : ((n : Int) == ((i : Int) + 1)) = false := by simp; omega
        have hfl : i + 1 < l.length := by omega
        have hflz : ((i : Int) + 1) < (l.length : Int) := by omega
        obtain ⟨d, r, hdr⟩ : ∃ d r, ds = d :: r := by cases hx : ds with | nil => exact absurd hx c1 | cons d r => exact ⟨d, r, rfl⟩
        have hd0 : l[i + 1] = d := by
          have h0 : (l.drop (i + 1))[0]? = some l[i + 1] := by rw [List.getElem?_drop]; simp [hfl]
          have h1 : ds[0]? = some l[i + 1] := by rw [hds2, List.getElem?_take, if_pos (by omega), h0]
          rw [hdr] at h1
          simpa using h1.symm
        clear c1
        cases hbn : badNum true ds with
        | true =>
          have hA : numA true ds n = (0, -1) := by
            unfold numA
            rw [numR_eq _ _ HDG.out, if_pos (Or.inr hbn)]
          have HA := Aside0.mk (show RES = (0, -1) by rw [← HRS.out, hA])
          rw [hdr] at hbn
          obtain ⟨h48, hor⟩ := (badNum_iff _ _ _).1 hbn
          have hb48 : ((l[i + 1].toNat : Int) == 48) = true := by rw [hd0, h48]; rfl
          have hcmp : ((i : Int) + 1 > (i : Int)) := by omega
          clear hA hbn hor hds2 hnk hd0 h48
          by_cases hlt : n < l.length
          · have hltz : (n : Int) < (l.length : Int) := by omega
            have hdf : isDigit l[n] = false := by cases h : isDigit l[n] with | false => rfl | true => exact absurd ⟨hlt, h⟩ HNB.out
            go_wp2_with fail
            refine (refdigit_calls l[n] _).mono ?_
            rintro e w' ⟨he, hww⟩
            rw [hdf] at he
            subst he
            rw [hww]
            clear hww
            clear hdf
            go_wp2
            all_goals go_ret2
            all_goals exact ⟨Below.refl _ _, by rw [HA.out]; rfl⟩
          · have hltz : ¬ (n : Int) < (l.length : Int) := by omega
            go_wp2
            all_goals go_ret2
            all_goals exact ⟨Below.refl _ _, by rw [HA.out]; rfl⟩
        | false =>
          have HBN := Aside0.mk hbn
          have hb48 : ((l[i + 1].toNat : Int) == 48) = false := by
            have h48 : d ≠ 48 := fun h => by
              have := (badNum_iff true d r).2 ⟨h, .inr rfl⟩
              rw [← hdr, hbn] at this
              cases this
            have := u8_eq l[i + 1] 48
            rw [show ((48 : UInt8).toNat : Int) = 48 from rfl] at this
            rw [this, hd0]
            exact beq_eq_false_iff_ne.2 h48
          have hsz2 : (ByteArray.mk ((if true then [45] else []) ++ ds).toArray).size ≤ 281474976710656 := by simp [ByteArray.size]; omega
          clear hbn hds2 hnk hdr hd0
          all_goals
            by_cases hlt : n < l.length
            · have hltz : (n : Int) < (l.length : Int) := by omega
              have hdf : isDigit l[n] = false := by cases h : isDigit l[n] with | false => rfl | true => exact absurd ⟨hlt, h⟩ HNB.out
              go_wp2_with fail
              refine (refdigit_calls l[n] _).mono ?_
              rintro e w' ⟨he, hww⟩
              rw [hdf] at he
              subst he
              rw [hww]
              clear hww
              clear hdf
              go_wp2_with fail
              cases hp : Lib.parseIntB 64 (45 :: ds) with
              | ok v =>
                obtain ⟨hc1, hc2, hv1, hv2⟩ := canon_ok true ds HDG.out hne.out HBN.out v hp
                have HC1 := Aside0.mk hc1
                have HA := Aside0.mk (show RES = (v, (n : Int)) by rw [← HRS.out, numA, hc2])
                refine (Tryd.strconv_ParseInt_10_at64_ok ⟨(45 :: ds).toArray⟩ (by simp [ByteArray.size]; omega) v hp _).mono ?_
                rintro e w5 ⟨rfl, hor⟩
                have hb5 : Below wr.heap.size wr w5 := by
                  rcases hor with rfl | ⟨t, rfl⟩
                  · exact Below.refl _ _
                  · exact bytes_new _ _ _
                have HB5 := Aside0.mk hb5
                clear hor hb5 hc1 hc2 hp
                go_wp2
                refine start_ (n := 7) (S := fun wx => Below wr.heap.size wr wx) (ds := []) #[false, false, false, false, false, false, false] (by kernel_rfl) rfl rfl (HB5.out.trans ⟨rfl, rfl, rfl, Nat.le_refl _, fun _ _ => rfl⟩) (fun hHeld => ?_)
                refine pure_ (i := 0) (N := some 58) (v := ?_) (a' := ?_) #[true, false, false, false, false, false, false] rfl rfl (by kernel_rfl) (fun _ _ _ h => h) (Or.inl ⟨by rfl, ?_⟩) ?_ ?_
                rotate_left
                · intro w'
                  go_simp
                  with_reducible rfl
                rotate_left
                · simp only [Act.put, List.setIfInBounds_toArray, List.set_cons_zero, List.set_cons_succ, i64_w, i32_w]
                  rfl
                refine pure_ (i := 2) (N := some 60) (v := ?_) (a' := ?_) #[true, false, true, false, false, false, false] rfl rfl (by kernel_rfl) (fun _ _ _ h => h) (Or.inl ⟨by rfl, ?_⟩) ?_ ?_
                rotate_left
                · intro w'
                  go_simp
                  with_reducible rfl
                rotate_left
                · simp only [Act.put, List.setIfInBounds_toArray, List.set_cons_zero, List.set_cons_succ, i64_w, i32_w]
                  rfl
                refine pure_ (i := 3) (N := some 61) (v := ?_) (a' := ?_) #[true, false, true, true, false, false, false] rfl rfl (by kernel_rfl) (fun _ _ _ h => h) (Or.inl ⟨by rfl, ?_⟩) ?_ ?_
                rotate_left
                · intro w'
                  go_simp
                  with_reducible rfl
                rotate_left
                · simp only [Act.put, List.setIfInBounds_toArray, List.set_cons_zero, List.set_cons_succ, i64_w, i32_w]
                  rfl
                refine pure_ (i := 4) (N := some 62) (v := ?_) (a' := ?_) #[true, false, true, true, true, false, false] rfl rfl (by kernel_rfl) (fun _ _ _ h => h) (Or.inl ⟨by rfl, ?_⟩) ?_ ?_
                rotate_left
                · intro w'
                  go_simp
                  with_reducible rfl
                rotate_left
                · simp only [Act.put, List.setIfInBounds_toArray, List.set_cons_zero, List.set_cons_succ, i64_w, i32_w]
                  rfl
                refine pure_ (i := 5) (N := some 63) (v := ?_) (a' := ?_) #[true, false, true, true, true, true, false] rfl rfl (by kernel_rfl) (fun _ _ _ h => h) (Or.inl ⟨by rfl, ?_⟩) ?_ ?_
                rotate_left
                · intro w'
                  go_simp
                  with_reducible rfl
                rotate_left
                · simp only [Act.put, List.setIfInBounds_toArray, List.set_cons_zero, List.set_cons_succ, i64_w, i32_w]
                  rfl
                refine one_ (i := 1) (N := some 59) #[true, true, true, true, true, true, false] rfl rfl (by kernel_rfl) (by decide) (fun K hK => ?_)
                refine call_ 25 #[.int .i64 v, .int .i64 10] (by rfl) rfl (by
                  have he := enters_ Tryd.func25 (by kernel_rfl) (by kernel_rfl) #[.int .i64 v, .int .i64 10] w5.drew
                  unfold execOp
                  simp [resolve, Deferred.ofValue, invoke, Act.eval, he]) ?_
                refine (Tryd.strconv_FormatInt_10 v hv1 hv2 _ (HW.out _ hHeld).p10).mono ?_
                rintro e w6 ⟨rfl, kk, os, hw6⟩
                have HB6 := Aside0.mk (show Below wr.heap.size wr w6 by rw [hw6]; exact hHeld.trans (Lib.below_grow _ _ hHeld.size _ _))
                refine ⟨_, rfl, hK.out _ _ HB6.out fun hHeld => ?_⟩
                clear hK K hw6
                rw [HC1.out]
                refine norm_ (a' := ?_) ?_ ?_
                rotate_left
                · simp only [Act.put, List.setIfInBounds_toArray, List.set_cons_zero, List.set_cons_succ]
                  rfl
                refine pure_ (i := 6) (N := some 64) (v := ?_) (a' := ?_) #[true, true, true, true, true, true, true] rfl rfl (by kernel_rfl) (fun _ _ _ h => h) (Or.inl ⟨by rfl, ?_⟩) ?_ ?_
                rotate_left
                · intro w'
                  go_simp
                  with_reducible rfl
                rotate_left
                · simp only [Act.put, List.setIfInBounds_toArray, List.set_cons_zero, List.set_cons_succ, i64_w, i32_w]
                  rfl
                refine done_ (by kernel_rfl) ?_
                go_wp2
                go_ret2
                exact ⟨HB6.out, by rw [HA.out]; rfl⟩
              | range =>
                obtain ⟨hc1, hc2, hv1, hv2⟩ := canon_range true ds HDG.out hne.out hp
                obtain ⟨ev, hcell, hev⟩ := (HW.out wr (Below.refl _ _)).te.2
                have HA := Aside0.mk (show RES = (0, -1) by rw [← HRS.out, numA, hc2])
                have hx := Tryd.strconv_ParseInt_10_at64_range ⟨(45 :: ds).toArray⟩ (by simp [ByteArray.size]; omega) hp ev wr hcell hev
                rw [show Lib.intSat 64 (ByteArray.mk (45 :: ds).toArray).data.toList = Lib.intSat 64 ((if true then [45] else []) ++ ds) from rfl] at hx
                generalize Lib.intSat 64 ((if true then [45] else []) ++ ds) = v at *
                refine hx.mono ?_
                rintro e w5 ⟨N, rfl, _, _, hb5⟩
                have hneq : (Lib.itoa v == (45 :: ds)) = false := beq_eq_false_iff_ne.2 hc1
                have hneq2 : (Lib.itoa v != (45 :: ds)) = true := bne_iff_ne.2 hc1
                have HB5 := Aside0.mk hb5
                clear hb5 hc1 hc2 hp hx hcell hev
                go_wp2
                refine start_ (n := 7) (S := fun wx => Below wr.heap.size wr wx) (ds := []) #[false, false, false, false, false, false, false] (by kernel_rfl) rfl rfl (HB5.out.trans ⟨rfl, rfl, rfl, Nat.le_refl _, fun _ _ => rfl⟩) (fun hHeld => ?_)
                refine pure_ (i := 0) (N := some 58) (v := ?_) (a' := ?_) #[true, false, false, false, false, false, false] rfl rfl (by kernel_rfl) (fun _ _ _ h => h) (Or.inl ⟨by rfl, ?_⟩) ?_ ?_
                rotate_left
                · intro w'
                  go_simp
                  with_reducible rfl
                rotate_left
                · simp only [Act.put, List.setIfInBounds_toArray, List.set_cons_zero, List.set_cons_succ, i64_w, i32_w]
                  rfl
                refine pure_ (i := 2) (N := some 60) (v := ?_) (a' := ?_) #[true, false, true, false, false, false, false] rfl rfl (by kernel_rfl) (fun _ _ _ h => h) (Or.inl ⟨by rfl, ?_⟩) ?_ ?_
                rotate_left
                · intro w'
                  go_simp
                  with_reducible rfl
                rotate_left
                · simp only [Act.put, List.setIfInBounds_toArray, List.set_cons_zero, List.set_cons_succ, i64_w, i32_w]
                  rfl
                refine pure_ (i := 3) (N := some 61) (v := ?_) (a' := ?_) #[true, false, true, true, false, false, false] rfl rfl (by kernel_rfl) (fun _ _ _ h => h) (Or.inl ⟨by rfl, ?_⟩) ?_ ?_
                rotate_left
                · intro w'
                  go_simp
                  with_reducible rfl
                rotate_left
                · simp only [Act.put, List.setIfInBounds_toArray, List.set_cons_zero, List.set_cons_succ, i64_w, i32_w]
                  rfl
                refine pure_ (i := 4) (N := some 62) (v := ?_) (a' := ?_) #[true, false, true, true, true, false, false] rfl rfl (by kernel_rfl) (fun _ _ _ h => h) (Or.inl ⟨by rfl, ?_⟩) ?_ ?_
                rotate_left
                · intro w'
                  go_simp
                  with_reducible rfl
                rotate_left
                · simp only [Act.put, List.setIfInBounds_toArray, List.set_cons_zero, List.set_cons_succ, i64_w, i32_w]
                  rfl
                refine pure_ (i := 5) (N := some 63) (v := ?_) (a' := ?_) #[true, false, true, true, true, true, false] rfl rfl (by kernel_rfl) (fun _ _ _ h => h) (Or.inl ⟨by rfl, ?_⟩) ?_ ?_
                rotate_left
                · intro w'
                  go_simp
                  with_reducible rfl
                rotate_left
                · simp only [Act.put, List.setIfInBounds_toArray, List.set_cons_zero, List.set_cons_succ, i64_w, i32_w]
                  rfl
                refine one_ (i := 1) (N := some 59) #[true, true, true, true, true, true, false] rfl rfl (by kernel_rfl) (by decide) (fun K hK => ?_)
                refine call_ 25 #[.int .i64 v, .int .i64 10] (by rfl) rfl (by
                  have he := enters_ Tryd.func25 (by kernel_rfl) (by kernel_rfl) #[.int .i64 v, .int .i64 10] w5.drew
                  unfold execOp
                  simp [resolve, Deferred.ofValue, invoke, Act.eval, he]) ?_
                refine (Tryd.strconv_FormatInt_10 v hv1 hv2 _ (HW.out _ hHeld).p10).mono ?_
                rintro e w6 ⟨rfl, kk, os, hw6⟩
                have HB6 := Aside0.mk (show Below wr.heap.size wr w6 by rw [hw6]; exact hHeld.trans (Lib.below_grow _ _ hHeld.size _ _))
                refine ⟨_, rfl, hK.out _ _ HB6.out fun hHeld => ?_⟩
                clear hK K hw6
                refine norm_ (a' := ?_) ?_ ?_
                rotate_left
                · simp only [Act.put, List.setIfInBounds_toArray, List.set_cons_zero, List.set_cons_succ]
                  rfl
                refine pure_ (i := 6) (N := some 64) (v := ?_) (a' := ?_) #[true, true, true, true, true, true, true] rfl rfl (by kernel_rfl) (fun _ _ _ h => h) (Or.inl ⟨by rfl, ?_⟩) ?_ ?_
                rotate_left
                · intro w'
                  go_simp
                  with_reducible rfl
                rotate_left
                · simp only [Act.put, List.setIfInBounds_toArray, List.set_cons_zero, List.set_cons_succ, i64_w, i32_w]
                  rfl
                refine done_ (by kernel_rfl) ?_
                go_wp2
                go_ret2
                exact ⟨HB6.out, by rw [HA.out]; rfl⟩
              | _ =>
                exact absurd hp (no_syn true ds HDG.out hne.out)
            · have hltz : ¬ (n : Int) < (l.length : Int) := by omega
              go_wp2_with fail
              cases hp : Lib.parseIntB 64 (45 :: ds) with
              | ok v =>
                obtain ⟨hc1, hc2, hv1, hv2⟩ := canon_ok true ds HDG.out hne.out HBN.out v hp
                have HC1 := Aside0.mk hc1
                have HA := Aside0.mk (show RES = (v, (n : Int)) by rw [← HRS.out, numA, hc2])
                refine (Tryd.strconv_ParseInt_10_at64_ok ⟨(45 :: ds).toArray⟩ (by simp [ByteArray.size]; omega) v hp _).mono ?_
                rintro e w5 ⟨rfl, hor⟩
                have hb5 : Below wr.heap.size wr w5 := by
                  rcases hor with rfl | ⟨t, rfl⟩
                  · exact Below.refl _ _
                  · exact bytes_new _ _ _
                have HB5 := Aside0.mk hb5
                clear hor hb5 hc1 hc2 hp
                go_wp2
                refine start_ (n := 7) (S := fun wx => Below wr.heap.size wr wx) (ds := []) #[false, false, false, false, false, false, false] (by kernel_rfl) rfl rfl (HB5.out.trans ⟨rfl, rfl, rfl, Nat.le_refl _, fun _ _ => rfl⟩) (fun hHeld => ?_)
                refine pure_ (i := 0) (N := some 58) (v := ?_) (a' := ?_) #[true, false, false, false, false, false, false] rfl rfl (by kernel_rfl) (fun _ _ _ h => h) (Or.inl ⟨by rfl, ?_⟩) ?_ ?_
                rotate_left
                · intro w'
                  go_simp
                  with_reducible rfl
                rotate_left
                · simp only [Act.put, List.setIfInBounds_toArray, List.set_cons_zero, List.set_cons_succ, i64_w, i32_w]
                  rfl
                refine pure_ (i := 2) (N := some 60) (v := ?_) (a' := ?_) #[true, false, true, false, false, false, false] rfl rfl (by kernel_rfl) (fun _ _ _ h => h) (Or.inl ⟨by rfl, ?_⟩) ?_ ?_
                rotate_left
                · intro w'
                  go_simp
                  with_reducible rfl
                rotate_left
                · simp only [Act.put, List.setIfInBounds_toArray, List.set_cons_zero, List.set_cons_succ, i64_w, i32_w]
                  rfl
                refine pure_ (i := 3) (N := some 61) (v := ?_) (a' := ?_) #[true, false, true, true, false, false, false] rfl rfl (by kernel_rfl) (fun _ _ _ h => h) (Or.inl ⟨by rfl, ?_⟩) ?_ ?_
                rotate_left
                · intro w'
                  go_simp
                  with_reducible rfl
                rotate_left
                · simp only [Act.put, List.setIfInBounds_toArray, List.set_cons_zero, List.set_cons_succ, i64_w, i32_w]
                  rfl
                refine pure_ (i := 4) (N := some 62) (v := ?_) (a' := ?_) #[true, false, true, true, true, false, false] rfl rfl (by kernel_rfl) (fun _ _ _ h => h) (Or.inl ⟨by rfl, ?_⟩) ?_ ?_
                rotate_left
                · intro w'
                  go_simp
                  with_reducible rfl
                rotate_left
                · simp only [Act.put, List.setIfInBounds_toArray, List.set_cons_zero, List.set_cons_succ, i64_w, i32_w]
                  rfl
                refine pure_ (i := 5) (N := some 63) (v := ?_) (a' := ?_) #[true, false, true, true, true, true, false] rfl rfl (by kernel_rfl) (fun _ _ _ h => h) (Or.inl ⟨by rfl, ?_⟩) ?_ ?_
                rotate_left
                · intro w'
                  go_simp
                  with_reducible rfl
                rotate_left
                · simp only [Act.put, List.setIfInBounds_toArray, List.set_cons_zero, List.set_cons_succ, i64_w, i32_w]
                  rfl
                refine one_ (i := 1) (N := some 59) #[true, true, true, true, true, true, false] rfl rfl (by kernel_rfl) (by decide) (fun K hK => ?_)
                refine call_ 25 #[.int .i64 v, .int .i64 10] (by rfl) rfl (by
                  have he := enters_ Tryd.func25 (by kernel_rfl) (by kernel_rfl) #[.int .i64 v, .int .i64 10] w5.drew
                  unfold execOp
                  simp [resolve, Deferred.ofValue, invoke, Act.eval, he]) ?_
                refine (Tryd.strconv_FormatInt_10 v hv1 hv2 _ (HW.out _ hHeld).p10).mono ?_
                rintro e w6 ⟨rfl, kk, os, hw6⟩
                have HB6 := Aside0.mk (show Below wr.heap.size wr w6 by rw [hw6]; exact hHeld.trans (Lib.below_grow _ _ hHeld.size _ _))
                refine ⟨_, rfl, hK.out _ _ HB6.out fun hHeld => ?_⟩
                clear hK K hw6
                rw [HC1.out]
                refine norm_ (a' := ?_) ?_ ?_
                rotate_left
                · simp only [Act.put, List.setIfInBounds_toArray, List.set_cons_zero, List.set_cons_succ]
                  rfl
                refine pure_ (i := 6) (N := some 64) (v := ?_) (a' := ?_) #[true, true, true, true, true, true, true] rfl rfl (by kernel_rfl) (fun _ _ _ h => h) (Or.inl ⟨by rfl, ?_⟩) ?_ ?_
                rotate_left
                · intro w'
                  go_simp
                  with_reducible rfl
                rotate_left
                · simp only [Act.put, List.setIfInBounds_toArray, List.set_cons_zero, List.set_cons_succ, i64_w, i32_w]
                  rfl
                refine done_ (by kernel_rfl) ?_
                go_wp2
                go_ret2
                exact ⟨HB6.out, by rw [HA.out]; rfl⟩
              | range =>
                obtain ⟨hc1, hc2, hv1, hv2⟩ := canon_range true ds HDG.out hne.out hp
                obtain ⟨ev, hcell, hev⟩ := (HW.out wr (Below.refl _ _)).te.2
                have HA := Aside0.mk (show RES = (0, -1) by rw [← HRS.out, numA, hc2])
                have hx := Tryd.strconv_ParseInt_10_at64_range ⟨(45 :: ds).toArray⟩ (by simp [ByteArray.size]; omega) hp ev wr hcell hev
                rw [show Lib.intSat 64 (ByteArray.mk (45 :: ds).toArray).data.toList = Lib.intSat 64 ((if true then [45] else []) ++ ds) from rfl] at hx
                generalize Lib.intSat 64 ((if true then [45] else []) ++ ds) = v at *
                refine hx.mono ?_
                rintro e w5 ⟨N, rfl, _, _, hb5⟩
                have hneq : (Lib.itoa v == (45 :: ds)) = false := beq_eq_false_iff_ne.2 hc1
                have hneq2 : (Lib.itoa v != (45 :: ds)) = true := bne_iff_ne.2 hc1
                have HB5 := Aside0.mk hb5
                clear hb5 hc1 hc2 hp hx hcell hev
                go_wp2
                refine start_ (n := 7) (S := fun wx => Below wr.heap.size wr wx) (ds := []) #[false, false, false, false, false, false, false] (by kernel_rfl) rfl rfl (HB5.out.trans ⟨rfl, rfl, rfl, Nat.le_refl _, fun _ _ => rfl⟩) (fun hHeld => ?_)
                refine pure_ (i := 0) (N := some 58) (v := ?_) (a' := ?_) #[true, false, false, false, false, false, false] rfl rfl (by kernel_rfl) (fun _ _ _ h => h) (Or.inl ⟨by rfl, ?_⟩) ?_ ?_
                rotate_left
                · intro w'
                  go_simp
                  with_reducible rfl
                rotate_left
                · simp only [Act.put, List.setIfInBounds_toArray, List.set_cons_zero, List.set_cons_succ, i64_w, i32_w]
                  rfl
                refine pure_ (i := 2) (N := some 60) (v := ?_) (a' := ?_) #[true, false, true, false, false, false, false] rfl rfl (by kernel_rfl) (fun _ _ _ h => h) (Or.inl ⟨by rfl, ?_⟩) ?_ ?_
                rotate_left
                · intro w'
                  go_simp
                  with_reducible rfl
                rotate_left
                · simp only [Act.put, List.setIfInBounds_toArray, List.set_cons_zero, List.set_cons_succ, i64_w, i32_w]
                  rfl
                refine pure_ (i := 3) (N := some 61) (v := ?_) (a' := ?_) #[true, false, true, true, false, false, false] rfl rfl (by kernel_rfl) (fun _ _ _ h => h) (Or.inl ⟨by rfl, ?_⟩) ?_ ?_
                rotate_left
                · intro w'
                  go_simp
                  with_reducible rfl
                rotate_left
                · simp only [Act.put, List.setIfInBounds_toArray, List.set_cons_zero, List.set_cons_succ, i64_w, i32_w]
                  rfl
                refine pure_ (i := 4) (N := some 62) (v := ?_) (a' := ?_) #[true, false, true, true, true, false, false] rfl rfl (by kernel_rfl) (fun _ _ _ h => h) (Or.inl ⟨by rfl, ?_⟩) ?_ ?_
                rotate_left
                · intro w'
                  go_simp
                  with_reducible rfl
                rotate_left
                · simp only [Act.put, List.setIfInBounds_toArray, List.set_cons_zero, List.set_cons_succ, i64_w, i32_w]
                  rfl
                refine pure_ (i := 5) (N := some 63) (v := ?_) (a' := ?_) #[true, false, true, true, true, true, false] rfl rfl (by kernel_rfl) (fun _ _ _ h => h) (Or.inl ⟨by rfl, ?_⟩) ?_ ?_
                rotate_left
                · intro w'
                  go_simp
                  with_reducible rfl
                rotate_left
                · simp only [Act.put, List.setIfInBounds_toArray, List.set_cons_zero, List.set_cons_succ, i64_w, i32_w]
                  rfl
                refine one_ (i := 1) (N := some 59) #[true, true, true, true, true, true, false] rfl rfl (by kernel_rfl) (by decide) (fun K hK => ?_)
                refine call_ 25 #[.int .i64 v, .int .i64 10] (by rfl) rfl (by
                  have he := enters_ Tryd.func25 (by kernel_rfl) (by kernel_rfl) #[.int .i64 v, .int .i64 10] w5.drew
                  unfold execOp
                  simp [resolve, Deferred.ofValue, invoke, Act.eval, he]) ?_
                refine (Tryd.strconv_FormatInt_10 v hv1 hv2 _ (HW.out _ hHeld).p10).mono ?_
                rintro e w6 ⟨rfl, kk, os, hw6⟩
                have HB6 := Aside0.mk (show Below wr.heap.size wr w6 by rw [hw6]; exact hHeld.trans (Lib.below_grow _ _ hHeld.size _ _))
                refine ⟨_, rfl, hK.out _ _ HB6.out fun hHeld => ?_⟩
                clear hK K hw6
                refine norm_ (a' := ?_) ?_ ?_
                rotate_left
                · simp only [Act.put, List.setIfInBounds_toArray, List.set_cons_zero, List.set_cons_succ]
                  rfl
                refine pure_ (i := 6) (N := some 64) (v := ?_) (a' := ?_) #[true, true, true, true, true, true, true] rfl rfl (by kernel_rfl) (fun _ _ _ h => h) (Or.inl ⟨by rfl, ?_⟩) ?_ ?_
                rotate_left
                · intro w'
                  go_simp
                  with_reducible rfl
                rotate_left
                · simp only [Act.put, List.setIfInBounds_toArray, List.set_cons_zero, List.set_cons_succ, i64_w, i32_w]
                  rfl
                refine done_ (by kernel_rfl) ?_
                go_wp2
                go_ret2
                exact ⟨HB6.out, by rw [HA.out]; rfl⟩
              | _ =>
                exact absurd hp (no_syn true ds HDG.out hne.out)
set_option maxRecDepth 100000 in
set_option maxHeartbeats 4000000 in
theorem refnum_pos (l : List UInt8) (i : Nat) (w : World) (hi : i < l.length) (hc : l[i] ≠ 45) (hl : l.length ≤ 1000000000000) (hw : ∀ w1, Below w.heap.size w w1 → LW w1) :
    Calls Tryd.prog 37 #[.string ⟨l.toArray⟩, .int .i64 i] w fun e w' => Below w.heap.size w w' ∧
      e = .returned (.tuple #[.int .i64 (numA false ((l.drop (i)).takeWhile isDigit) (i + ((l.drop (i)).takeWhile isDigit).length)).1, .int .i64 (numA false ((l.drop (i)).takeWhile isDigit) (i + ((l.drop (i)).takeWhile isDigit).length)).2]) := by
  have hsz : (ByteArray.mk l.toArray).size = l.length := by simp [ByteArray.size]
  have HW := Aside0.mk hw
  have hq : ((l[i].toNat : Int) == 45) = false := by
    have := u8_eq l[i] 45
    rw [show ((45 : UInt8).toNat : Int) = 45 from rfl] at this
    rw [this]
    exact beq_eq_false_iff_ne.2 hc
  have hiz : (i : Int) < (l.length : Int) := by omega
  obtain ⟨ds, hds⟩ : ∃ ds, ds = (l.drop (i)).takeWhile isDigit := ⟨_, rfl⟩
  rw [← hds]
  generalize hR : numA false ds (i + ds.length) = RES
  have HRES := Aside0.mk hR
  clear hR
  have HDG := Aside0.mk (show ∀ c ∈ ds, isDigit c = true by rw [hds]; exact tw_digits _)
  have HDS := Aside0.mk hds
  have HC := Aside0.mk hc
  clear hc hds hw
  go_enter Tryd.func37, Tryd.ntmps37
  go_wp2
  go_loopg [6] (l.length - (i)) (fun kq u6 w2 => ∃ n : Nat, n + kq = l.length ∧ i ≤ n ∧ u6 = .int .i64 n ∧ Aside0 (ds = (l.drop (i)).take (n - (i)) ++ (l.drop n).takeWhile isDigit) ∧ w2 = w)
  case atStart => exact ⟨i, by omega, Nat.le_refl _, by go_num, Aside0.mk (by rw [HDS.out]; simp), rfl⟩
  case round =>
    obtain ⟨n, hn, hna, rfl, HT, rfl⟩ := hrel
    by_cases hgo : ∃ h : n < l.length, isDigit l[n] = true
    · obtain ⟨hlt, hdg⟩ := hgo
      have hltz : (n : Int) < (l.length : Int) := by omega
      obtain ⟨k1, rfl⟩ : ∃ k1, gk = k1 + 1 := ⟨gk - 1, by omega⟩
      have HDG1 := Aside0.mk hdg
      clear hdg
      go_wp2_with fail
      refine (refdigit_calls l[n] _).mono ?_
      rintro e w' ⟨he, hww⟩
      rw [HDG1.out] at he
      subst he
      rw [hww]
      clear hww
      go_wp2
      go_roundg k1
      case measure => omega
      case rel =>
        refine ⟨n + 1, by omega, by omega, by go_num, Aside0.mk ?_, rfl⟩
        have hd2 : l.drop n = l[n] :: l.drop (n + 1) := List.drop_eq_getElem_cons hlt
        rw [HT.out, hd2, List.takeWhile_cons, if_pos HDG1.out]
        have hlt2 : n - (i) < (l.drop (i)).length := by rw [List.length_drop]; omega
        rw [show n + 1 - (i) = n - (i) + 1 by omega, List.take_succ_eq_append_getElem hlt2, List.append_assoc]
        have hg : (l.drop (i))[n - (i)] = l[n] := by
          rw [List.getElem_drop]
          congr 1
          omega
        rw [hg]
        rfl
    · have hz : (l.drop n).takeWhile isDigit = [] := by
        by_cases hlt : n < l.length
        · rw [List.drop_eq_getElem_cons hlt, List.takeWhile_cons, if_neg (fun h => hgo ⟨hlt, h⟩)]
        · rw [List.drop_eq_nil_of_le (by omega)]
          rfl
      have hds2 : ds = (l.drop (i)).take (n - (i)) := by rw [HT.out, hz, List.append_nil]
      have hdl : ds.length = n - (i) := by rw [hds2, List.length_take, List.length_drop]; omega
      have hnk : i + ds.length = n := by omega
      have htx : (l.drop i).take (n - i) = (if false then [45] else []) ++ ds := by
        rw [← hds2]
        rfl
      have hns : n ≤ l.length := by omega
      have hsl : ∀ W, (Instr.slice 9 (.string ⟨l.toArray⟩) (some (.int .i64 (i : Int))) (some (.int .i64 (n : Int))) none).run Tryd.prog W = .ok (.string ⟨ds.toArray⟩) W := fun W => by
        rw [run_slice_string W 9 _ _ _ _ _ Tryd.underlying9 (by omega) (by omega) (by rw [hsz]; omega), ext_seg, Int.toNat_natCast, Int.toNat_natCast, htx]
        rfl
      have HNB := Aside0.mk hgo
      have HRS := Aside0.mk (show numA false ds n = RES by rw [← HRES.out, hnk])
      clear hz htx hgo
      by_cases c1 : ds = []
      · have hA : numA false ds n = (0, -1) := by
          unfold numA
          rw [numR_eq _ _ HDG.out, if_pos (Or.inl c1)]
        have HA := Aside0.mk (show RES = (0, -1) by rw [← HRS.out, hA])
        have hnf : n = i := by rw [c1] at hdl; simp at hdl; omega
        have hb7 : ((n : Int) == (i : Int)) = true := by simp; omega
        clear c1 hA hnf hds2 hdl hnk
        by_cases hlt : n < l.length
        · have hltz : (n : Int) < (l.length : Int) := by omega
          have hdf : isDigit l[n] = false := by cases h : isDigit l[n] with | false => rfl | true => exact absurd ⟨hlt, h⟩ HNB.out
          go_wp2_with fail
          refine (refdigit_calls l[n] _).mono ?_
          rintro e w' ⟨he, hww⟩
          rw [hdf] at he
          subst he
          rw [hww]
          clear hww
          clear hdf
          go_wp2
          go_ret2
          exact ⟨Below.refl _ _, by rw [HA.out]; rfl⟩
        · have hltz : ¬ (n : Int) < (l.length : Int) := by omega
          go_wp2
          go_ret2
          exact ⟨Below.refl _ _, by rw [HA.out]; rfl⟩
      · have hne := Aside0.mk c1
        have hgt : i < n := by
          have : 0 < ds.length := List.length_pos_iff.2 c1
          omega
        have hb7 : ((n : Int) == (i : Int)) = false := by simp; omega
        have hfl : i < l.length := by omega
        have hflz : (i : Int) < (l.length : Int) := by omega
        obtain ⟨d, r, hdr⟩ : ∃ d r, ds = d :: r := by cases hx : ds with | nil => exact absurd hx c1 | cons d r => exact ⟨d, r, rfl⟩
        have hd0 : l[i] = d := by
          have h0 : (l.drop (i))[0]? = some l[i] := by rw [List.getElem?_drop]; simp [hfl]
          have h1 : ds[0]? = some l[i] := by rw [hds2, List.getElem?_take, if_pos (by omega), h0]
          rw [hdr] at h1
          simpa using h1.symm
        clear c1
        cases hbn : badNum false ds with
        | true =>
          have hA : numA false ds n = (0, -1) := by
            unfold numA
            rw [numR_eq _ _ HDG.out, if_pos (Or.inr hbn)]
          have HA := Aside0.mk (show RES = (0, -1) by rw [← HRS.out, hA])
          rw [hdr] at hbn
          obtain ⟨h48, hor⟩ := (badNum_iff _ _ _).1 hbn
          have hb48 : ((l[i].toNat : Int) == 48) = true := by rw [hd0, h48]; rfl
          have hr : r ≠ [] := hor.resolve_right (by decide)
          have hcmp : ((i : Int) + 1 < (n : Int)) := by
            have : 0 < r.length := List.length_pos_iff.2 hr
            rw [hdr, List.length_cons] at hdl
            omega
          clear hr
          clear hA hbn hor hds2 hnk hd0 h48
          by_cases hlt : n < l.length
          · have hltz : (n : Int) < (l.length : Int) := by omega
            have hdf : isDigit l[n] = false := by cases h : isDigit l[n] with | false => rfl | true => exact absurd ⟨hlt, h⟩ HNB.out
            go_wp2_with fail
            refine (refdigit_calls l[n] _).mono ?_
            rintro e w' ⟨he, hww⟩
            rw [hdf] at he
            subst he
            rw [hww]
            clear hww
            clear hdf
            go_wp2
            all_goals go_ret2
            all_goals exact ⟨Below.refl _ _, by rw [HA.out]; rfl⟩
          · have hltz : ¬ (n : Int) < (l.length : Int) := by omega
            go_wp2
            all_goals go_ret2
            all_goals exact ⟨Below.refl _ _, by rw [HA.out]; rfl⟩
        | false =>
          have HBN := Aside0.mk hbn
          have hcase : ((l[i].toNat : Int) == 48) = false ∨ (((l[i].toNat : Int) == 48) = true ∧ ¬ ((i : Int) + 1 < (n : Int))) := by
            by_cases h48 : d = 48
            · right
              refine ⟨by rw [hd0, h48]; rfl, ?_⟩
              have hr : r = [] := by
                by_cases hr : r = []
                · exact hr
                · have := (badNum_iff false d r).2 ⟨h48, .inl hr⟩
                  rw [← hdr, hbn] at this
                  cases this
              rw [hdr, hr] at hdl
              simp at hdl
              omega
            · left
              have := u8_eq l[i] 48
              rw [show ((48 : UInt8).toNat : Int) = 48 from rfl] at this
              rw [this, hd0]
              exact beq_eq_false_iff_ne.2 h48
          have HSZ2 : (ByteArray.mk ((if false then [45] else []) ++ ds).toArray).size ≤ 281474976710656 := by simp [ByteArray.size]; omega
          clear hbn hds2 hnk hdr hd0
          rcases hcase with hb48 | ⟨hb48, hcmp⟩
          all_goals
            by_cases hlt : n < l.length
            · have hltz : (n : Int) < (l.length : Int) := by omega
              have hdf : isDigit l[n] = false := by cases h : isDigit l[n] with | false => rfl | true => exact absurd ⟨hlt, h⟩ HNB.out
              go_wp2_with fail
              refine (refdigit_calls l[n] _).mono ?_
              rintro e w' ⟨he, hww⟩
              rw [hdf] at he
              subst he
              rw [hww]
              clear hww
              clear hdf
              go_wp2_with fail
              cases hp : Lib.parseIntB 64 ds with
              | ok v =>
                obtain ⟨hc1, hc2, hv1, hv2⟩ := canon_ok false ds HDG.out hne.out HBN.out v hp
                have HC1 := Aside0.mk hc1
                have HA := Aside0.mk (show RES = (v, (n : Int)) by rw [← HRS.out, numA, hc2])
                refine (Tryd.strconv_ParseInt_10_at64_ok ⟨ds.toArray⟩ (by simp [ByteArray.size]; omega) v hp _).mono ?_
                rintro e w5 ⟨rfl, hor⟩
                have hb5 : Below wr.heap.size wr w5 := by
                  rcases hor with rfl | ⟨t, rfl⟩
                  · exact Below.refl _ _
                  · exact bytes_new _ _ _
                have HB5 := Aside0.mk hb5
                clear hor hb5 hc1 hc2 hp
                go_wp2
                refine start_ (n := 7) (S := fun wx => Below wr.heap.size wr wx) (ds := []) #[false, false, false, false, false, false, false] (by kernel_rfl) rfl rfl (HB5.out.trans ⟨rfl, rfl, rfl, Nat.le_refl _, fun _ _ => rfl⟩) (fun hHeld => ?_)
                refine pure_ (i := 0) (N := some 58) (v := ?_) (a' := ?_) #[true, false, false, false, false, false, false] rfl rfl (by kernel_rfl) (fun _ _ _ h => h) (Or.inl ⟨by rfl, ?_⟩) ?_ ?_
                rotate_left
                · intro w'
                  go_simp
                  with_reducible rfl
                rotate_left
                · simp only [Act.put, List.setIfInBounds_toArray, List.set_cons_zero, List.set_cons_succ, i64_w, i32_w]
                  rfl
                refine pure_ (i := 2) (N := some 60) (v := ?_) (a' := ?_) #[true, false, true, false, false, false, false] rfl rfl (by kernel_rfl) (fun _ _ _ h => h) (Or.inl ⟨by rfl, ?_⟩) ?_ ?_
                rotate_left
                · intro w'
                  go_simp
                  with_reducible rfl
                rotate_left
                · simp only [Act.put, List.setIfInBounds_toArray, List.set_cons_zero, List.set_cons_succ, i64_w, i32_w]
                  rfl
                refine pure_ (i := 3) (N := some 61) (v := ?_) (a' := ?_) #[true, false, true, true, false, false, false] rfl rfl (by kernel_rfl) (fun _ _ _ h => h) (Or.inl ⟨by rfl, ?_⟩) ?_ ?_
                rotate_left
                · intro w'
                  go_simp
                  with_reducible rfl
                rotate_left
                · simp only [Act.put, List.setIfInBounds_toArray, List.set_cons_zero, List.set_cons_succ, i64_w, i32_w]
                  rfl
                refine pure_ (i := 4) (N := some 62) (v := ?_) (a' := ?_) #[true, false, true, true, true, false, false] rfl rfl (by kernel_rfl) (fun _ _ _ h => h) (Or.inl ⟨by rfl, ?_⟩) ?_ ?_
                rotate_left
                · intro w'
                  go_simp
                  with_reducible rfl
                rotate_left
                · simp only [Act.put, List.setIfInBounds_toArray, List.set_cons_zero, List.set_cons_succ, i64_w, i32_w]
                  rfl
                refine pure_ (i := 5) (N := some 63) (v := ?_) (a' := ?_) #[true, false, true, true, true, true, false] rfl rfl (by kernel_rfl) (fun _ _ _ h => h) (Or.inl ⟨by rfl, ?_⟩) ?_ ?_
                rotate_left
                · intro w'
                  go_simp
                  with_reducible rfl
                rotate_left
                · simp only [Act.put, List.setIfInBounds_toArray, List.set_cons_zero, List.set_cons_succ, i64_w, i32_w]
                  rfl
                refine one_ (i := 1) (N := some 59) #[true, true, true, true, true, true, false] rfl rfl (by kernel_rfl) (by decide) (fun K hK => ?_)
                refine call_ 25 #[.int .i64 v, .int .i64 10] (by rfl) rfl (by
                  have he := enters_ Tryd.func25 (by kernel_rfl) (by kernel_rfl) #[.int .i64 v, .int .i64 10] w5.drew
                  unfold execOp
                  simp [resolve, Deferred.ofValue, invoke, Act.eval, he]) ?_
                refine (Tryd.strconv_FormatInt_10 v hv1 hv2 _ (HW.out _ hHeld).p10).mono ?_
                rintro e w6 ⟨rfl, kk, os, hw6⟩
                have HB6 := Aside0.mk (show Below wr.heap.size wr w6 by rw [hw6]; exact hHeld.trans (Lib.below_grow _ _ hHeld.size _ _))
                refine ⟨_, rfl, hK.out _ _ HB6.out fun hHeld => ?_⟩
                clear hK K hw6
                rw [HC1.out]
                refine norm_ (a' := ?_) ?_ ?_
                rotate_left
                · simp only [Act.put, List.setIfInBounds_toArray, List.set_cons_zero, List.set_cons_succ]
                  rfl
                refine pure_ (i := 6) (N := some 64) (v := ?_) (a' := ?_) #[true, true, true, true, true, true, true] rfl rfl (by kernel_rfl) (fun _ _ _ h => h) (Or.inl ⟨by rfl, ?_⟩) ?_ ?_
                rotate_left
                · intro w'
                  go_simp
                  with_reducible rfl
                rotate_left
                · simp only [Act.put, List.setIfInBounds_toArray, List.set_cons_zero, List.set_cons_succ, i64_w, i32_w]
                  rfl
                refine done_ (by kernel_rfl) ?_
                go_wp2
                go_ret2
                exact ⟨HB6.out, by rw [HA.out]; rfl⟩
              | range =>
                obtain ⟨hc1, hc2, hv1, hv2⟩ := canon_range false ds HDG.out hne.out hp
                obtain ⟨ev, hcell, hev⟩ := (HW.out wr (Below.refl _ _)).te.2
                have HA := Aside0.mk (show RES = (0, -1) by rw [← HRS.out, numA, hc2])
                have hx := Tryd.strconv_ParseInt_10_at64_range ⟨ds.toArray⟩ (by simp [ByteArray.size]; omega) hp ev wr hcell hev
                rw [show Lib.intSat 64 (ByteArray.mk ds.toArray).data.toList = Lib.intSat 64 ((if false then [45] else []) ++ ds) from rfl] at hx
                generalize Lib.intSat 64 ((if false then [45] else []) ++ ds) = v at *
                refine hx.mono ?_
                rintro e w5 ⟨N, rfl, _, _, hb5⟩
                have hneq : (Lib.itoa v == ds) = false := beq_eq_false_iff_ne.2 hc1
                have hneq2 : (Lib.itoa v != ds) = true := bne_iff_ne.2 hc1
                have HB5 := Aside0.mk hb5
                clear hb5 hc1 hc2 hp hx hcell hev
                go_wp2
                refine start_ (n := 7) (S := fun wx => Below wr.heap.size wr wx) (ds := []) #[false, false, false, false, false, false, false] (by kernel_rfl) rfl rfl (HB5.out.trans ⟨rfl, rfl, rfl, Nat.le_refl _, fun _ _ => rfl⟩) (fun hHeld => ?_)
                refine pure_ (i := 0) (N := some 58) (v := ?_) (a' := ?_) #[true, false, false, false, false, false, false] rfl rfl (by kernel_rfl) (fun _ _ _ h => h) (Or.inl ⟨by rfl, ?_⟩) ?_ ?_
                rotate_left
                · intro w'
                  go_simp
                  with_reducible rfl
                rotate_left
                · simp only [Act.put, List.setIfInBounds_toArray, List.set_cons_zero, List.set_cons_succ, i64_w, i32_w]
                  rfl
                refine pure_ (i := 2) (N := some 60) (v := ?_) (a' := ?_) #[true, false, true, false, false, false, false] rfl rfl (by kernel_rfl) (fun _ _ _ h => h) (Or.inl ⟨by rfl, ?_⟩) ?_ ?_
                rotate_left
                · intro w'
                  go_simp
                  with_reducible rfl
                rotate_left
                · simp only [Act.put, List.setIfInBounds_toArray, List.set_cons_zero, List.set_cons_succ, i64_w, i32_w]
                  rfl
                refine pure_ (i := 3) (N := some 61) (v := ?_) (a' := ?_) #[true, false, true, true, false, false, false] rfl rfl (by kernel_rfl) (fun _ _ _ h => h) (Or.inl ⟨by rfl, ?_⟩) ?_ ?_
                rotate_left
                · intro w'
                  go_simp
                  with_reducible rfl
                rotate_left
                · simp only [Act.put, List.setIfInBounds_toArray, List.set_cons_zero, List.set_cons_succ, i64_w, i32_w]
                  rfl
                refine pure_ (i := 4) (N := some 62) (v := ?_) (a' := ?_) #[true, false, true, true, true, false, false] rfl rfl (by kernel_rfl) (fun _ _ _ h => h) (Or.inl ⟨by rfl, ?_⟩) ?_ ?_
                rotate_left
                · intro w'
                  go_simp
                  with_reducible rfl
                rotate_left
                · simp only [Act.put, List.setIfInBounds_toArray, List.set_cons_zero, List.set_cons_succ, i64_w, i32_w]
                  rfl
                refine pure_ (i := 5) (N := some 63) (v := ?_) (a' := ?_) #[true, false, true, true, true, true, false] rfl rfl (by kernel_rfl) (fun _ _ _ h => h) (Or.inl ⟨by rfl, ?_⟩) ?_ ?_
                rotate_left
                · intro w'
                  go_simp
                  with_reducible rfl
                rotate_left
                · simp only [Act.put, List.setIfInBounds_toArray, List.set_cons_zero, List.set_cons_succ, i64_w, i32_w]
                  rfl
                refine one_ (i := 1) (N := some 59) #[true, true, true, true, true, true, false] rfl rfl (by kernel_rfl) (by decide) (fun K hK => ?_)
                refine call_ 25 #[.int .i64 v, .int .i64 10] (by rfl) rfl (by
                  have he := enters_ Tryd.func25 (by kernel_rfl) (by kernel_rfl) #[.int .i64 v, .int .i64 10] w5.drew
                  unfold execOp
                  simp [resolve, Deferred.ofValue, invoke, Act.eval, he]) ?_
                refine (Tryd.strconv_FormatInt_10 v hv1 hv2 _ (HW.out _ hHeld).p10).mono ?_
                rintro e w6 ⟨rfl, kk, os, hw6⟩
                have HB6 := Aside0.mk (show Below wr.heap.size wr w6 by rw [hw6]; exact hHeld.trans (Lib.below_grow _ _ hHeld.size _ _))
                refine ⟨_, rfl, hK.out _ _ HB6.out fun hHeld => ?_⟩
                clear hK K hw6
                refine norm_ (a' := ?_) ?_ ?_
                rotate_left
                · simp only [Act.put, List.setIfInBounds_toArray, List.set_cons_zero, List.set_cons_succ]
                  rfl
                refine pure_ (i := 6) (N := some 64) (v := ?_) (a' := ?_) #[true, true, true, true, true, true, true] rfl rfl (by kernel_rfl) (fun _ _ _ h => h) (Or.inl ⟨by rfl, ?_⟩) ?_ ?_
                rotate_left
                · intro w'
                  go_simp
                  with_reducible rfl
                rotate_left
                · simp only [Act.put, List.setIfInBounds_toArray, List.set_cons_zero, List.set_cons_succ, i64_w, i32_w]
                  rfl
                refine done_ (by kernel_rfl) ?_
                go_wp2
                go_ret2
                exact ⟨HB6.out, by rw [HA.out]; rfl⟩
              | _ =>
                exact absurd hp (no_syn false ds HDG.out hne.out)
            · have hltz : ¬ (n : Int) < (l.length : Int) := by omega
              go_wp2_with fail
              cases hp : Lib.parseIntB 64 ds with
              | ok v =>
                obtain ⟨hc1, hc2, hv1, hv2⟩ := canon_ok false ds HDG.out hne.out HBN.out v hp
                have HC1 := Aside0.mk hc1
                have HA := Aside0.mk (show RES = (v, (n : Int)) by rw [← HRS.out, numA, hc2])
                refine (Tryd.strconv_ParseInt_10_at64_ok ⟨ds.toArray⟩ (by simp [ByteArray.size]; omega) v hp _).mono ?_
                rintro e w5 ⟨rfl, hor⟩
                have hb5 : Below wr.heap.size wr w5 := by
                  rcases hor with rfl | ⟨t, rfl⟩
                  · exact Below.refl _ _
                  · exact bytes_new _ _ _
                have HB5 := Aside0.mk hb5
                clear hor hb5 hc1 hc2 hp
                go_wp2
                refine start_ (n := 7) (S := fun wx => Below wr.heap.size wr wx) (ds := []) #[false, false, false, false, false, false, false] (by kernel_rfl) rfl rfl (HB5.out.trans ⟨rfl, rfl, rfl, Nat.le_refl _, fun _ _ => rfl⟩) (fun hHeld => ?_)
                refine pure_ (i := 0) (N := some 58) (v := ?_) (a' := ?_) #[true, false, false, false, false, false, false] rfl rfl (by kernel_rfl) (fun _ _ _ h => h) (Or.inl ⟨by rfl, ?_⟩) ?_ ?_
                rotate_left
                · intro w'
                  go_simp
                  with_reducible rfl
                rotate_left
                · simp only [Act.put, List.setIfInBounds_toArray, List.set_cons_zero, List.set_cons_succ, i64_w, i32_w]
                  rfl
                refine pure_ (i := 2) (N := some 60) (v := ?_) (a' := ?_) #[true, false, true, false, false, false, false] rfl rfl (by kernel_rfl) (fun _ _ _ h => h) (Or.inl ⟨by rfl, ?_⟩) ?_ ?_
                rotate_left
                · intro w'
                  go_simp
                  with_reducible rfl
                rotate_left
                · simp only [Act.put, List.setIfInBounds_toArray, List.set_cons_zero, List.set_cons_succ, i64_w, i32_w]
                  rfl
                refine pure_ (i := 3) (N := some 61) (v := ?_) (a' := ?_) #[true, false, true, true, false, false, false] rfl rfl (by kernel_rfl) (fun _ _ _ h => h) (Or.inl ⟨by rfl, ?_⟩) ?_ ?_
                rotate_left
                · intro w'
                  go_simp
                  with_reducible rfl
                rotate_left
                · simp only [Act.put, List.setIfInBounds_toArray, List.set_cons_zero, List.set_cons_succ, i64_w, i32_w]
                  rfl
                refine pure_ (i := 4) (N := some 62) (v := ?_) (a' := ?_) #[true, false, true, true, true, false, false] rfl rfl (by kernel_rfl) (fun _ _ _ h => h) (Or.inl ⟨by rfl, ?_⟩) ?_ ?_
                rotate_left
                · intro w'
                  go_simp
                  with_reducible rfl
                rotate_left
                · simp only [Act.put, List.setIfInBounds_toArray, List.set_cons_zero, List.set_cons_succ, i64_w, i32_w]
                  rfl
                refine pure_ (i := 5) (N := some 63) (v := ?_) (a' := ?_) #[true, false, true, true, true, true, false] rfl rfl (by kernel_rfl) (fun _ _ _ h => h) (Or.inl ⟨by rfl, ?_⟩) ?_ ?_
                rotate_left
                · intro w'
                  go_simp
                  with_reducible rfl
                rotate_left
                · simp only [Act.put, List.setIfInBounds_toArray, List.set_cons_zero, List.set_cons_succ, i64_w, i32_w]
                  rfl
                refine one_ (i := 1) (N := some 59) #[true, true, true, true, true, true, false] rfl rfl (by kernel_rfl) (by decide) (fun K hK => ?_)
                refine call_ 25 #[.int .i64 v, .int .i64 10] (by rfl) rfl (by
                  have he := enters_ Tryd.func25 (by kernel_rfl) (by kernel_rfl) #[.int .i64 v, .int .i64 10] w5.drew
                  unfold execOp
                  simp [resolve, Deferred.ofValue, invoke, Act.eval, he]) ?_
                refine (Tryd.strconv_FormatInt_10 v hv1 hv2 _ (HW.out _ hHeld).p10).mono ?_
                rintro e w6 ⟨rfl, kk, os, hw6⟩
                have HB6 := Aside0.mk (show Below wr.heap.size wr w6 by rw [hw6]; exact hHeld.trans (Lib.below_grow _ _ hHeld.size _ _))
                refine ⟨_, rfl, hK.out _ _ HB6.out fun hHeld => ?_⟩
                clear hK K hw6
                rw [HC1.out]
                refine norm_ (a' := ?_) ?_ ?_
                rotate_left
                · simp only [Act.put, List.setIfInBounds_toArray, List.set_cons_zero, List.set_cons_succ]
                  rfl
                refine pure_ (i := 6) (N := some 64) (v := ?_) (a' := ?_) #[true, true, true, true, true, true, true] rfl rfl (by kernel_rfl) (fun _ _ _ h => h) (Or.inl ⟨by rfl, ?_⟩) ?_ ?_
                rotate_left
                · intro w'
                  go_simp
                  with_reducible rfl
                rotate_left
                · simp only [Act.put, List.setIfInBounds_toArray, List.set_cons_zero, List.set_cons_succ, i64_w, i32_w]
                  rfl
                refine done_ (by kernel_rfl) ?_
                go_wp2
                go_ret2
                exact ⟨HB6.out, by rw [HA.out]; rfl⟩
              | range =>
                obtain ⟨hc1, hc2, hv1, hv2⟩ := canon_range false ds HDG.out hne.out hp
                obtain ⟨ev, hcell, hev⟩ := (HW.out wr (Below.refl _ _)).te.2
                have HA := Aside0.mk (show RES = (0, -1) by rw [← HRS.out, numA, hc2])
                have hx := Tryd.strconv_ParseInt_10_at64_range ⟨ds.toArray⟩ (by simp [ByteArray.size]; omega) hp ev wr hcell hev
                rw [show Lib.intSat 64 (ByteArray.mk ds.toArray).data.toList = Lib.intSat 64 ((if false then [45] else []) ++ ds) from rfl] at hx
                generalize Lib.intSat 64 ((if false then [45] else []) ++ ds) = v at *
                refine hx.mono ?_
                rintro e w5 ⟨N, rfl, _, _, hb5⟩
                have hneq : (Lib.itoa v == ds) = false := beq_eq_false_iff_ne.2 hc1
                have hneq2 : (Lib.itoa v != ds) = true := bne_iff_ne.2 hc1
                have HB5 := Aside0.mk hb5
                clear hb5 hc1 hc2 hp hx hcell hev
                go_wp2
                refine start_ (n := 7) (S := fun wx => Below wr.heap.size wr wx) (ds := []) #[false, false, false, false, false, false, false] (by kernel_rfl) rfl rfl (HB5.out.trans ⟨rfl, rfl, rfl, Nat.le_refl _, fun _ _ => rfl⟩) (fun hHeld => ?_)
                refine pure_ (i := 0) (N := some 58) (v := ?_) (a' := ?_) #[true, false, false, false, false, false, false] rfl rfl (by kernel_rfl) (fun _ _ _ h => h) (Or.inl ⟨by rfl, ?_⟩) ?_ ?_
                rotate_left
                · intro w'
                  go_simp
                  with_reducible rfl
                rotate_left
                · simp only [Act.put, List.setIfInBounds_toArray, List.set_cons_zero, List.set_cons_succ, i64_w, i32_w]
                  rfl
                refine pure_ (i := 2) (N := some 60) (v := ?_) (a' := ?_) #[true, false, true, false, false, false, false] rfl rfl (by kernel_rfl) (fun _ _ _ h => h) (Or.inl ⟨by rfl, ?_⟩) ?_ ?_
                rotate_left
                · intro w'
                  go_simp
                  with_reducible rfl
                rotate_left
                · simp only [Act.put, List.setIfInBounds_toArray, List.set_cons_zero, List.set_cons_succ, i64_w, i32_w]
                  rfl
                refine pure_ (i := 3) (N := some 61) (v := ?_) (a' := ?_) #[true, false, true, true, false, false, false] rfl rfl (by kernel_rfl) (fun _ _ _ h => h) (Or.inl ⟨by rfl, ?_⟩) ?_ ?_
                rotate_left
                · intro w'
                  go_simp
                  with_reducible rfl
                rotate_left
                · simp only [Act.put, List.setIfInBounds_toArray, List.set_cons_zero, List.set_cons_succ, i64_w, i32_w]
                  rfl
                refine pure_ (i := 4) (N := some 62) (v := ?_) (a' := ?_) #[true, false, true, true, true, false, false] rfl rfl (by kernel_rfl) (fun _ _ _ h => h) (Or.inl ⟨by rfl, ?_⟩) ?_ ?_
                rotate_left
                · intro w'
                  go_simp
                  with_reducible rfl
                rotate_left
                · simp only [Act.put, List.setIfInBounds_toArray, List.set_cons_zero, List.set_cons_succ, i64_w, i32_w]
                  rfl
                refine pure_ (i := 5) (N := some 63) (v := ?_) (a' := ?_) #[true, false, true, true, true, true, false] rfl rfl (by kernel_rfl) (fun _ _ _ h => h) (Or.inl ⟨by rfl, ?_⟩) ?_ ?_
                rotate_left
                · intro w'
                  go_simp
                  with_reducible rfl
                rotate_left
                · simp only [Act.put, List.setIfInBounds_toArray, List.set_cons_zero, List.set_cons_succ, i64_w, i32_w]
                  rfl
                refine one_ (i := 1) (N := some 59) #[true, true, true, true, true, true, false] rfl rfl (by kernel_rfl) (by decide) (fun K hK => ?_)
                refine call_ 25 #[.int .i64 v, .int .i64 10] (by rfl) rfl (by
                  have he := enters_ Tryd.func25 (by kernel_rfl) (by kernel_rfl) #[.int .i64 v, .int .i64 10] w5.drew
                  unfold execOp
                  simp [resolve, Deferred.ofValue, invoke, Act.eval, he]) ?_
                refine (Tryd.strconv_FormatInt_10 v hv1 hv2 _ (HW.out _ hHeld).p10).mono ?_
                rintro e w6 ⟨rfl, kk, os, hw6⟩
                have HB6 := Aside0.mk (show Below wr.heap.size wr w6 by rw [hw6]; exact hHeld.trans (Lib.below_grow _ _ hHeld.size _ _))
                refine ⟨_, rfl, hK.out _ _ HB6.out fun hHeld => ?_⟩
                clear hK K hw6
                refine norm_ (a' := ?_) ?_ ?_
                rotate_left
                · simp only [Act.put, List.setIfInBounds_toArray, List.set_cons_zero, List.set_cons_succ]
                  rfl
                refine pure_ (i := 6) (N := some 64) (v := ?_) (a' := ?_) #[true, true, true, true, true, true, true] rfl rfl (by kernel_rfl) (fun _ _ _ h => h) (Or.inl ⟨by rfl, ?_⟩) ?_ ?_
                rotate_left
                · intro w'
                  go_simp
                  with_reducible rfl
                rotate_left
                · simp only [Act.put, List.setIfInBounds_toArray, List.set_cons_zero, List.set_cons_succ, i64_w, i32_w]
                  rfl
                refine done_ (by kernel_rfl) ?_
                go_wp2
                go_ret2
                exact ⟨HB6.out, by rw [HA.out]; rfl⟩
              | _ =>
                exact absurd hp (no_syn false ds HDG.out hne.out)
end Go.Proofs.YtidkjiglmfhjpaaDoor.Lx
