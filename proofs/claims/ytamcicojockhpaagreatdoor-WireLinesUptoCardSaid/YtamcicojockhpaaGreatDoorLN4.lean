/- What WireLines stands on, part 4. -/
import Derived.Test.YtamcicojockhpaaGreatDoorLN3
set_option linter.unusedVariables false
set_option linter.unusedSimpArgs false
section
set_option linter.unusedVariables false
set_option linter.unusedSimpArgs false
namespace Go.Proofs.YtamcicojockhpaaGreatDoor.Wi
open Go.RowKit Go.Proofs.YtamcicojockhpaaGreatDoorW.PrintWords Go.Proofs.YtamcicojockhpaaGreatDoorW.PrintLast Go.Proofs.YtamcicojockhpaaGreatDoorW.PrintMore
open Go.Proofs.YtamcicojockhpaaGreatDoor.Lx Go.Proofs.YtamcicojockhpaaGreatDoor.PS Go.Proofs.YtamcicojockhpaaGreatDoor.Tr
theorem sl1 (w : World) : (Instr.slice 9 (.string ⟨#[119, 97, 43, 105, 114, 108, 115, 99]⟩) (some (.int .i64 0)) (some (.int .i64 1)) none).run Tryz.prog w = .ok (.string (letC 1)) w := by kernel_rfl
theorem sl2 (w : World) : (Instr.slice 9 (.string ⟨#[119, 97, 43, 105, 114, 108, 115, 99]⟩) (some (.int .i64 1)) (some (.int .i64 2)) none).run Tryz.prog w = .ok (.string (letC 2)) w := by kernel_rfl
theorem sl3 (w : World) : (Instr.slice 9 (.string ⟨#[119, 97, 43, 105, 114, 108, 115, 99]⟩) (some (.int .i64 2)) (some (.int .i64 3)) none).run Tryz.prog w = .ok (.string (letC 3)) w := by kernel_rfl
theorem sl4 (w : World) : (Instr.slice 9 (.string ⟨#[119, 97, 43, 105, 114, 108, 115, 99]⟩) (some (.int .i64 3)) (some (.int .i64 4)) none).run Tryz.prog w = .ok (.string (letC 4)) w := by kernel_rfl
theorem sl5 (w : World) : (Instr.slice 9 (.string ⟨#[119, 97, 43, 105, 114, 108, 115, 99]⟩) (some (.int .i64 4)) (some (.int .i64 5)) none).run Tryz.prog w = .ok (.string (letC 5)) w := by kernel_rfl
theorem sl6 (w : World) : (Instr.slice 9 (.string ⟨#[119, 97, 43, 105, 114, 108, 115, 99]⟩) (some (.int .i64 5)) (some (.int .i64 6)) none).run Tryz.prog w = .ok (.string (letC 6)) w := by kernel_rfl
theorem sl7 (w : World) : (Instr.slice 9 (.string ⟨#[119, 97, 43, 105, 114, 108, 115, 99]⟩) (some (.int .i64 6)) (some (.int .i64 7)) none).run Tryz.prog w = .ok (.string (letC 7)) w := by kernel_rfl
theorem sl8 (w : World) : (Instr.slice 9 (.string ⟨#[119, 97, 43, 105, 114, 108, 115, 99]⟩) (some (.int .i64 7)) (some (.int .i64 8)) none).run Tryz.prog w = .ok (.string (letC 8)) w := by kernel_rfl
theorem slice_let (k : Int) (h1 : 1 ≤ k) (h8 : k ≤ 8) (w : World) : (Instr.slice 9 (.string ⟨#[119, 97, 43, 105, 114, 108, 115, 99]⟩) (some (.int .i64 (wrap64 (k - 1)))) (some (.int .i64 k)) none).run Tryz.prog w = .ok (.string (letC k)) w := by
 rw [w64 _ (by omega) (by omega)]
 have hc : k = 1 ∨ k = 2 ∨ k = 3 ∨ k = 4 ∨ k = 5 ∨ k = 6 ∨ k = 7 ∨ k = 8 := by omega
 rcases hc with rfl | rfl | rfl | rfl | rfl | rfl | rfl | rfl
 · exact sl1 w
 · exact sl2 w
 · exact sl3 w
 · exact sl4 w
 · exact sl5 w
 · exact sl6 w
 · exact sl7 w
 · exact sl8 w
theorem flat_len (l : List Ev) (h : ∀ e ∈ l, (lineB e).length ≤ 80000) : ((l.map lineB).flatten).length ≤ l.length * 80000 := by
 rw [List.length_flatten, List.map_map]
 exact sum_le _ 80000 l h
theorem gotV_f4 (c : Cl) : (gotV c).f4 = [] := by
 unfold gotV
 (repeat' split) <;> rfl
set_option maxRecDepth 100000 in
set_option maxHeartbeats 16000000 in
theorem Print_calls (l : List Ev) (A : Option Addr) (cc : Nat) (w : World) (hl : l.length ≤ 1000000000000) (hf : ∀ e ∈ l, fitsE e) (hn : ∀ e ∈ l, numsE e) (hC : k39.C w A l.length l) (hlw : ∀ w1, Below w.heap.size w w1 → LW w1) :
 Calls Tryz.prog 14 #[.slice A l.length cc] w fun e w' => e = .returned (.tuple #[.string ⟨(printE l).1.toArray⟩, .int .i64 (printE l).2]) ∧ Below w.heap.size w w' := by
 have HC := Aside0.mk hC
 have HN := Aside0.mk hn
 have HF := Aside0.mk hf
 have HLW := Aside0.mk hlw
 have HR := Aside0.mk (show printE l = if checkR l = 0 then ((l.map lineB).flatten, 0) else ([], 1) from rfl)
 have HK := Aside0.mk (Check_calls l A cc w hl hf hC)
 generalize printE l = res at *
 have HCH := Aside0.mk (show (checkR l = 0 ∧ l.length ≤ 256 ∧ ∀ e ∈ l, badE e = false) ∨ checkR l = 1 by
  unfold checkR
  by_cases h : l.length > 256 ∨ l.any badE = true
  · rw [if_pos h]
    exact .inr rfl
  · rw [if_neg h]
    refine .inl ⟨rfl, by omega, fun e he => ?_⟩
    cases hb : badE e with
    | false => rfl
    | true => exact absurd (.inr (List.any_eq_true.2 ⟨e, he, hb⟩)) h)
 generalize checkR l = ck at *
 have hlI : (l.length : Int) ≤ 1000000000000 := by omega
 clear hC hf hn hlw
 go_enter Tryz.func14, Tryz.ntmps14
 go_wp2_with fail
 refine HK.out.mono ?_
 rintro e w1 ⟨rfl, hb1⟩
 have HB1 := Aside0.mk hb1
 clear hb1 HK
 rcases HCH.out with ⟨rfl, hl256, hgood⟩ | rfl
 · have HE := Aside0.mk (show res = ((l.map lineB).flatten, 0) by rw [HR.out, if_pos rfl])
   have HG := Aside0.mk hgood
   clear hgood HR HCH
   go_wp2
   go_loopg [7, 8, 10, 11, 12, 13, 21, 28] l.length (fun kq v7 v8 v10 v11 v12 v13 v21 v28 w2 => ∃ (k : Nat) (vb : Value), k + kq = l.length ∧ v21 = .int .i64 k ∧ w1.heap.size < w2.heap.size ∧
    Aside0 (BAt (w1.heap.size + 1) w1.heap.size vb (Lib.byteCells ((l.take k).map lineB).flatten) w2) ∧ Aside0 (Below w1.heap.size w1 w2))
   case atStart =>
    have hne := BAt.new w1
    exact ⟨0, .slice none 0 0, by omega, rfl, by simp, Aside0.mk hne, Aside0.mk ((Below.refl _ _).alloc (Nat.le_refl _) _)⟩
   case round =>
    obtain ⟨k, vb, hk, rfl, hsz, HBT, HB⟩ := hrel
    cases gk with
    | zero =>
     have hge : ¬ ((k : Nat) : Int) < (l.length : Int) := by omega
     have HT := Aside0.mk (show l.take k = l from List.take_of_length_le (by omega))
     rw [HT.out] at HBT
     have HLEN := Aside0.mk (flat_len l (fun e he => line_len e (HG.out e he) (HN.out e he)))
     go_wp2_with fail
     refine (Tryz.Builder_String_any w1.heap.size w1.heap.size _ _ HBT.out.is (by have := HLEN.out; omega)).mono ?_
     rintro e w3 ⟨rfl, hb3⟩
     have HB3 := Aside0.mk hb3
     clear hb3
     go_wp2
     go_ret2
     rw [HE.out]
     exact ⟨rfl, HB1.out.trans ((HB.out.mono HB1.out.size).trans (HB3.out.mono HB1.out.size))⟩
    | succ k1 =>
     have hlt : ((k : Nat) : Int) < (l.length : Int) := by omega
     have hlt' : k < l.length := by omega
     have hbR : Below w.heap.size w wr := HB1.out.trans (HB.out.mono HB1.out.size)
     have HBR := Aside0.mk hbR
     obtain ⟨ad, A2, c2, e', x0, x1, x2, l2, g2⟩ := at_T39 (Kd.C_below HC.out hbR) k (by omega) hlt
     cases e'
     have hrd : rd_T39 l k = l[k] := by simp [rd_T39, List.getD, List.getElem?_eq_getElem hlt']
     rw [hrd] at x0 x1 x2 l2 g2
     rw [Int.toNat_natCast] at x0 x1 x2
     have HTK := Aside0.mk (show (l.take (k + 1)).map lineB = (l.take k).map lineB ++ [lineB l[k]] by rw [List.take_succ_eq_append_getElem hlt', List.map_append]; rfl)
     have HFE := Aside0.mk (HF.out l[k] (List.getElem_mem _))
     have HGE := Aside0.mk (HG.out l[k] (List.getElem_mem _))
     have HNE := Aside0.mk (HN.out l[k] (List.getElem_mem _))
     have HGG := Aside0.mk (And.intro l2 g2)
     have HK := Aside0.mk hk
     have hel : (l[k].f2.length : Int) ≤ 16 := by
      have hs := HGE.out
      simp only [badE, Bool.or_eq_false_iff, decide_eq_false_iff_not] at hs
      omega
     clear hrd l2 g2 hk hbR
     generalize l[k] = e at *
     have HEV := Aside0.mk (blk_new wr (.cells #[.int .i64 e.f0, .int .i64 e.f1, .slice A2 e.f2.length c2] 39 (0, 0)))
     have HBA := Aside0.mk ((Below.refl wr.heap.size wr).alloc (Nat.le_refl _) (.cells #[.int .i64 e.f0, .int .i64 e.f1, .slice A2 e.f2.length c2] 39 (0, 0)))
     go_wp2
     have hsW : (wr.alloc (.cells #[.int .i64 e.f0, .int .i64 e.f1, .slice A2 e.f2.length c2] 39 (0, 0))).heap.size = wr.heap.size + 1 := by simp
     generalize wr.alloc (.cells #[.int .i64 e.f0, .int .i64 e.f1, .slice A2 e.f2.length c2] 39 (0, 0)) = W7 at *
     obtain ⟨wo, hwo⟩ : ∃ x, x = wr := ⟨_, rfl⟩
     subst hwo
     go_loopg [8, 10, 11, 28] e.f2.length (fun kq v8 v10 v11 v28 w2 => ∃ j : Nat, j + kq = e.f2.length ∧ v28 = .int .i64 j ∧ W7.heap.size ≤ w2.heap.size ∧ Aside0 (Below W7.heap.size W7 w2) ∧ Aside0 (k51.R 51 w2 W7.heap.size (fun _ => True) v8 ((e.f2.take j).map callV)))
     case atStart => exact ⟨0, by omega, rfl, Nat.le_refl _, Aside0.mk (Below.refl _ _), Aside0.mk (Kd.R_nil _ _ _ _ _)⟩
     case round =>
      obtain ⟨j, hj, rfl, hsr, HBW, HRW⟩ := hrel
      have HBO := Aside0.mk (HBA.out.trans (HBW.out.mono HBA.out.size))
      cases gk with
      | zero =>
       have hge : ¬ ((j : Nat) : Int) < (e.f2.length : Int) := by omega
       have HT := Aside0.mk (show e.f2.take j = e.f2 from List.take_of_length_le (by omega))
       rw [HT.out] at HRW
       go_wp2
       obtain ⟨A8, c8, e8⟩ := Kd.R_slice HRW.out
       rw [List.length_map] at e8
       subst e8
       have HVR := Aside0.mk ((HBW.out.block _ (blk_lt HEV.out)).trans HEV.out)
       have HKB := Aside0.mk (show 0 ≤ e.f1 ∧ e.f1 ≤ 3 by
        have hs := HGE.out
        simp only [badE, Bool.or_eq_false_iff, decide_eq_false_iff_not] at hs
        omega)
       have HOK := Aside0.mk (ok_event e HGE.out HNE.out)
       have HLL := Aside0.mk (line_len e HGE.out HNE.out)
       have hk0 := HKB.out.1
       have hk3 := HKB.out.2
       refine start_ (n := 18) (S := (fun w' => w'.cell? ⟨wo.heap.size, 0, none⟩ = some (.int .i64 e.f0) ∧ w'.cell? ⟨wo.heap.size, 1, none⟩ = some (.int .i64 e.f1) ∧ Below wr.drew.heap.size wr.drew w')) (ds := []) #[fF, fF, fF, fF, fF, fF, fF, fF, fF, fF, fF, fF, fF, fF, fF, fF, fF, fF] (by kernel_rfl) rfl rfl ⟨blk_cell (w := wr.drew) HVR.out 0, blk_cell (w := wr.drew) HVR.out 1, Below.refl _ _⟩ (fun hHeld => ?_)
       refine pure_ (i := 1) (N := some 71) (v := ?_) (a' := ?_) #[fF, tT, fF, fF, fF, fF, fF, fF, fF, fF, fF, fF, fF, fF, fF, fF, fF, fF] rfl rfl (by kernel_rfl) (fun _ _ _ h => h) (Or.inl ⟨by rfl, ?_⟩) ?_ ?_
       rotate_left
       · intro w'
         go_simp
         with_reducible rfl
       rotate_left
       · simp only [Act.put, sA, sZ, sS, i64_w, i32_w]
         rfl
       refine take_ (i := 2) (N := some 72) (v := ?_) (a' := ?_) #[fF, tT, tT, fF, fF, fF, fF, fF, fF, fF, fF, fF, fF, fF, fF, fF, fF, fF] rfl rfl (by kernel_rfl) (fun _ _ _ h => h) (Or.inl ⟨by rfl, ?_⟩) hHeld ?_ ?_
       rotate_left
       · rintro w' ⟨s0, s1, _⟩
         go_simp
         with_reducible rfl
       rotate_left
       · simp only [Act.put, sA, sZ, sS, i64_w, i32_w]
         rfl
       refine pure_ (i := 4) (N := some 74) (v := ?_) (a' := ?_) #[fF, tT, tT, fF, tT, fF, fF, fF, fF, fF, fF, fF, fF, fF, fF, fF, fF, fF] rfl rfl (by kernel_rfl) (fun _ _ _ h => h) (Or.inl ⟨by rfl, ?_⟩) ?_ ?_
       rotate_left
       · intro w'
         go_simp
         with_reducible rfl
       rotate_left
       · simp only [Act.put, sA, sZ, sS, i64_w, i32_w]
         rfl
       refine take_ (i := 5) (N := some 75) (v := ?_) (a' := ?_) #[fF, tT, tT, fF, tT, tT, fF, fF, fF, fF, fF, fF, fF, fF, fF, fF, fF, fF] rfl rfl (by kernel_rfl) (fun _ _ _ h => h) (Or.inl ⟨by rfl, ?_⟩) hHeld ?_ ?_
       rotate_left
       · rintro w' ⟨s0, s1, _⟩
         go_simp
         with_reducible rfl
       rotate_left
       · simp only [Act.put, sA, sZ, sS, i64_w, i32_w]
         rfl
       refine pure_ (i := 8) (N := some 78) (v := ?_) (a' := ?_) #[fF, tT, tT, fF, tT, tT, fF, fF, tT, fF, fF, fF, fF, fF, fF, fF, fF, fF] rfl rfl (by kernel_rfl) (fun _ _ _ h => h) (Or.inl ⟨by rfl, ?_⟩) ?_ ?_
       rotate_left
       · intro w'
         go_simp
         with_reducible rfl
       rotate_left
       · simp only [Act.put, sA, sZ, sS, i64_w, i32_w]
         rfl
       have hdr : Below wr.heap.size wr wr.drew := ⟨rfl, rfl, rfl, Nat.le_refl _, fun _ _ => rfl⟩
       have HDR := Aside0.mk hdr
       have HVD := Aside0.mk (show wr.drew.heap[wo.heap.size]? = some (.cells #[.int .i64 e.f0, .int .i64 e.f1, .slice A2 e.f2.length c2] 39 (0, 0)) from HVR.out)
       have HSR := Aside0.mk (show wr.drew.heap.size = wr.heap.size from rfl)
       clear hdr
       generalize wr.drew = Wr at *
       have S19 : ∀ w', Below Wr.heap.size Wr w' → (fun w' => w'.cell? ⟨wo.heap.size, 0, none⟩ = some (.int .i64 e.f0) ∧ w'.cell? ⟨wo.heap.size, 1, none⟩ = some (.int .i64 e.f1) ∧ Below Wr.heap.size Wr w') w' := fun w' hb =>
        have q1 := (hb.block _ (blk_lt HVD.out)).trans HVD.out
        ⟨blk_cell q1 0, blk_cell q1 1, hb⟩
       refine join_ (fuel' := 7) (l' := #[tT, tT, tT, tT, tT, tT, tT, tT, tT, tT, tT, fF, fF, fF, fF, fF, fF, fF]) (ns := fun s : Nat × Nat => [(70, .slice (some ⟨s.1, 0, none⟩) 3 3), (73, .agg #[.int .i64 3, .int .i64 e.f0, .string ⟨#[]⟩, .slice none 0 0, .slice none 0 0]), (76, .string (kindT e.f1)), (77, .agg #[.int .i64 4, .int .i64 0, .string (kindT e.f1), .slice none 0 0, .slice none 0 0]), (79, .agg #[.int .i64 5, .int .i64 0, .string ⟨#[]⟩, .slice A8 e.f2.length c8, .slice none 0 0]), (80, .slice (some ⟨s.2, 0, none⟩) 3 3)])
        (F := fun s w' => Below Wr.heap.size Wr w' ∧ w'.heap[s.1]? = some (.cells #[.string ⟨#[112]⟩, .string ⟨#[116]⟩, .string ⟨#[102]⟩] 9 (0, 0)) ∧ w'.heap[s.2]? = some (.cells #[.int .i64 3, .int .i64 e.f0, .string ⟨#[]⟩, .slice none 0 0, .slice none 0 0, .int .i64 4, .int .i64 0, .string (kindT e.f1), .slice none 0 0, .slice none 0 0, .int .i64 5, .int .i64 0, .string ⟨#[]⟩, .slice A8 e.f2.length c8, .slice none 0 0] 51 (0, 0)) ∧ Wr.heap.size ≤ s.1 ∧ Wr.heap.size ≤ s.2) ?_ (fun HJ19 => ?_)
       rotate_left
       · have hb0 : Below Wr.heap.size Wr Wr := Below.refl _ _
         refine two_ (i := 0) (j := 3) (Ni := some 70) (Nj := some 73) #[tT, tT, tT, fF, tT, tT, fF, fF, tT, fF, fF, fF, fF, fF, fF, fF, fF, fF] #[fF, tT, tT, tT, tT, tT, fF, fF, tT, fF, fF, fF, fF, fF, fF, fF, fF, fF] rfl rfl rfl rfl (by kernel_rfl) (by decide) (by decide) (fun K hK => ?_) (fun K hK => ?_)
         · rw [if_pos (by rfl)]
           unfold Oper.wp
           go_simp
           have ha1 := (Below.refl Wr.heap.size Wr).alloc (Nat.le_refl _) (.cells #[.string ⟨#[112]⟩, .string ⟨#[116]⟩, .string ⟨#[102]⟩] 9 (0, 0))
           have hb1 := hb0.trans (ha1.mono hb0.size)
           have fn1 := blk_new Wr (.cells #[.string ⟨#[112]⟩, .string ⟨#[116]⟩, .string ⟨#[102]⟩] 9 (0, 0))
           refine hK.out _ _ (S19 _ hb1) fun hHeld => ?_
           clear hK K
           generalize Wr.alloc (.cells #[.string ⟨#[112]⟩, .string ⟨#[116]⟩, .string ⟨#[102]⟩] 9 (0, 0)) = q1 at *
           refine one_ (i := 3) (N := some 73) #[tT, tT, tT, tT, tT, tT, fF, fF, tT, fF, fF, fF, fF, fF, fF, fF, fF, fF] rfl rfl (by kernel_rfl) (by decide) (fun K hK => ?_)
           refine goes_ Tryz.func28 (by kernel_rfl) rfl #[.int .i64 e.f0] (by rfl) rfl rfl (by simp only [List.map_toArray, List.map_cons, List.map_nil]; rfl) ?_
           refine (number_calls e.f0 q1).mono ?_
           rintro e2 q2 ⟨rfl, ha2⟩
           refine ⟨_, rfl, ?_⟩
           have hb2 := hb1.trans (ha2.mono hb1.size)
           have fn2 := (ha2.block _ (blk_lt fn1)).trans fn1
           refine hK.out _ _ (S19 q2 hb2) fun hHeld => ?_
           clear hK K
           refine norm_ (a' := ?_) ?_ ?_
           rotate_left
           · show Act.put _ (some 73) _ = _
             simp only [Act.put, sA, sZ, sS, i64_w, i32_w]
             rfl
           refine one_ (i := 6) (N := some 76) #[tT, tT, tT, tT, tT, tT, tT, fF, tT, fF, fF, fF, fF, fF, fF, fF, fF, fF] rfl rfl (by kernel_rfl) (by decide) (fun K hK => ?_)
           refine goes_ Tryz.func31 (by kernel_rfl) rfl #[.int .i64 e.f1] (by rfl) rfl rfl (by simp only [List.map_toArray, List.map_cons, List.map_nil]; rfl) ?_
           refine (kind_calls e.f1 hk0 hk3 q2).mono ?_
           rintro e3 q3 ⟨rfl, ha3⟩
           refine ⟨_, rfl, ?_⟩
           have hb3 := hb2.trans (ha3.mono hb2.size)
           have fn3 := (ha3.block _ (blk_lt fn2)).trans fn2
           refine hK.out _ _ (S19 q3 hb3) fun hHeld => ?_
           clear hK K
           refine norm_ (a' := ?_) ?_ ?_
           rotate_left
           · show Act.put _ (some 76) _ = _
             simp only [Act.put, sA, sZ, sS, i64_w, i32_w]
             rfl
           refine one_ (i := 7) (N := some 77) #[tT, tT, tT, tT, tT, tT, tT, tT, tT, fF, fF, fF, fF, fF, fF, fF, fF, fF] rfl rfl (by kernel_rfl) (by decide) (fun K hK => ?_)
           refine goes_ Tryz.func27 (by kernel_rfl) rfl #[.string (kindT e.f1)] (by rfl) rfl rfl (by simp only [List.map_toArray, List.map_cons, List.map_nil]; rfl) ?_
           refine (text_calls (kindT e.f1) q3).mono ?_
           rintro e4 q4 ⟨rfl, ha4⟩
           refine ⟨_, rfl, ?_⟩
           have hb4 := hb3.trans (ha4.mono hb3.size)
           have fn4 := (ha4.block _ (blk_lt fn3)).trans fn3
           refine hK.out _ _ (S19 q4 hb4) fun hHeld => ?_
           clear hK K
           refine norm_ (a' := ?_) ?_ ?_
           rotate_left
           · show Act.put _ (some 77) _ = _
             simp only [Act.put, sA, sZ, sS, i64_w, i32_w]
             rfl
           refine one_ (i := 9) (N := some 79) #[tT, tT, tT, tT, tT, tT, tT, tT, tT, tT, fF, fF, fF, fF, fF, fF, fF, fF] rfl rfl (by kernel_rfl) (by decide) (fun K hK => ?_)
           refine goes_ Tryz.func26 (by kernel_rfl) rfl #[.slice A8 e.f2.length c8] (by rfl) rfl rfl (by simp only [List.map_toArray, List.map_cons, List.map_nil]; rfl) ?_
           refine (array_calls A8 e.f2.length c8 q4).mono ?_
           rintro e5 q5 ⟨rfl, ha5⟩
           refine ⟨_, rfl, ?_⟩
           have hb5 := hb4.trans (ha5.mono hb4.size)
           have fn5 := (ha5.block _ (blk_lt fn4)).trans fn4
           refine hK.out _ _ (S19 q5 hb5) fun hHeld => ?_
           clear hK K
           refine norm_ (a' := ?_) ?_ ?_
           rotate_left
           · show Act.put _ (some 79) _ = _
             simp only [Act.put, sA, sZ, sS, i64_w, i32_w]
             rfl
           refine one_ (i := 10) (N := some 80) #[tT, tT, tT, tT, tT, tT, tT, tT, tT, tT, tT, fF, fF, fF, fF, fF, fF, fF] rfl rfl (by kernel_rfl) (by decide) (fun K hK => ?_)
           rw [if_pos (by rfl)]
           unfold Oper.wp
           go_simp
           have ha6 := (Below.refl q5.heap.size q5).alloc (Nat.le_refl _) (.cells #[.int .i64 3, .int .i64 e.f0, .string ⟨#[]⟩, .slice none 0 0, .slice none 0 0, .int .i64 4, .int .i64 0, .string (kindT e.f1), .slice none 0 0, .slice none 0 0, .int .i64 5, .int .i64 0, .string ⟨#[]⟩, .slice A8 e.f2.length c8, .slice none 0 0] 51 (0, 0))
           have hb6 := hb5.trans (ha6.mono hb5.size)
           have fn6 := (ha6.block _ (blk_lt fn5)).trans fn5
           have fr6 := blk_new q5 (.cells #[.int .i64 3, .int .i64 e.f0, .string ⟨#[]⟩, .slice none 0 0, .slice none 0 0, .int .i64 4, .int .i64 0, .string (kindT e.f1), .slice none 0 0, .slice none 0 0, .int .i64 5, .int .i64 0, .string ⟨#[]⟩, .slice A8 e.f2.length c8, .slice none 0 0] 51 (0, 0))
           refine hK.out _ _ (S19 _ hb6) fun hHeld => ?_
           clear hK K
           generalize q5.alloc (.cells #[.int .i64 3, .int .i64 e.f0, .string ⟨#[]⟩, .slice none 0 0, .slice none 0 0, .int .i64 4, .int .i64 0, .string (kindT e.f1), .slice none 0 0, .slice none 0 0, .int .i64 5, .int .i64 0, .string ⟨#[]⟩, .slice A8 e.f2.length c8, .slice none 0 0] 51 (0, 0)) = q6 at *
           refine norm_ ?_ (HJ19 (Wr.heap.size, q5.heap.size) _ ⟨hb6, fn6, fr6, hb0.size, hb5.size⟩)
           simp only [putAll, Act.put, sA, sZ, sS]
         · refine goes_ Tryz.func28 (by kernel_rfl) rfl #[.int .i64 e.f0] (by rfl) rfl rfl (by simp only [List.map_toArray, List.map_cons, List.map_nil]; rfl) ?_
           refine (number_calls e.f0 Wr).mono ?_
           rintro e7 q7 ⟨rfl, ha7⟩
           refine ⟨_, rfl, ?_⟩
           have hb7 := hb0.trans (ha7.mono hb0.size)
           refine hK.out _ _ (S19 q7 hb7) fun hHeld => ?_
           clear hK K
           refine norm_ (a' := ?_) ?_ ?_
           rotate_left
           · show Act.put _ (some 73) _ = _
             simp only [Act.put, sA, sZ, sS, i64_w, i32_w]
             rfl
           refine two_ (i := 0) (j := 6) (Ni := some 70) (Nj := some 76) #[tT, tT, tT, tT, tT, tT, fF, fF, tT, fF, fF, fF, fF, fF, fF, fF, fF, fF] #[fF, tT, tT, tT, tT, tT, tT, fF, tT, fF, fF, fF, fF, fF, fF, fF, fF, fF] rfl rfl rfl rfl (by kernel_rfl) (by decide) (by decide) (fun K hK => ?_) (fun K hK => ?_)
           · rw [if_pos (by rfl)]
             unfold Oper.wp
             go_simp
             have ha8 := (Below.refl q7.heap.size q7).alloc (Nat.le_refl _) (.cells #[.string ⟨#[112]⟩, .string ⟨#[116]⟩, .string ⟨#[102]⟩] 9 (0, 0))
             have hb8 := hb7.trans (ha8.mono hb7.size)
             have fn8 := blk_new q7 (.cells #[.string ⟨#[112]⟩, .string ⟨#[116]⟩, .string ⟨#[102]⟩] 9 (0, 0))
             refine hK.out _ _ (S19 _ hb8) fun hHeld => ?_
             clear hK K
             generalize q7.alloc (.cells #[.string ⟨#[112]⟩, .string ⟨#[116]⟩, .string ⟨#[102]⟩] 9 (0, 0)) = q8 at *
             refine one_ (i := 6) (N := some 76) #[tT, tT, tT, tT, tT, tT, tT, fF, tT, fF, fF, fF, fF, fF, fF, fF, fF, fF] rfl rfl (by kernel_rfl) (by decide) (fun K hK => ?_)
             refine goes_ Tryz.func31 (by kernel_rfl) rfl #[.int .i64 e.f1] (by rfl) rfl rfl (by simp only [List.map_toArray, List.map_cons, List.map_nil]; rfl) ?_
             refine (kind_calls e.f1 hk0 hk3 q8).mono ?_
             rintro e9 q9 ⟨rfl, ha9⟩
             refine ⟨_, rfl, ?_⟩
             have hb9 := hb8.trans (ha9.mono hb8.size)
             have fn9 := (ha9.block _ (blk_lt fn8)).trans fn8
             refine hK.out _ _ (S19 q9 hb9) fun hHeld => ?_
             clear hK K
             refine norm_ (a' := ?_) ?_ ?_
             rotate_left
             · show Act.put _ (some 76) _ = _
               simp only [Act.put, sA, sZ, sS, i64_w, i32_w]
               rfl
             refine one_ (i := 7) (N := some 77) #[tT, tT, tT, tT, tT, tT, tT, tT, tT, fF, fF, fF, fF, fF, fF, fF, fF, fF] rfl rfl (by kernel_rfl) (by decide) (fun K hK => ?_)
             refine goes_ Tryz.func27 (by kernel_rfl) rfl #[.string (kindT e.f1)] (by rfl) rfl rfl (by simp only [List.map_toArray, List.map_cons, List.map_nil]; rfl) ?_
             refine (text_calls (kindT e.f1) q9).mono ?_
             rintro e10 q10 ⟨rfl, ha10⟩
             refine ⟨_, rfl, ?_⟩
             have hb10 := hb9.trans (ha10.mono hb9.size)
             have fn10 := (ha10.block _ (blk_lt fn9)).trans fn9
             refine hK.out _ _ (S19 q10 hb10) fun hHeld => ?_
             clear hK K
             refine norm_ (a' := ?_) ?_ ?_
             rotate_left
             · show Act.put _ (some 77) _ = _
               simp only [Act.put, sA, sZ, sS, i64_w, i32_w]
               rfl
             refine one_ (i := 9) (N := some 79) #[tT, tT, tT, tT, tT, tT, tT, tT, tT, tT, fF, fF, fF, fF, fF, fF, fF, fF] rfl rfl (by kernel_rfl) (by decide) (fun K hK => ?_)
             refine goes_ Tryz.func26 (by kernel_rfl) rfl #[.slice A8 e.f2.length c8] (by rfl) rfl rfl (by simp only [List.map_toArray, List.map_cons, List.map_nil]; rfl) ?_
             refine (array_calls A8 e.f2.length c8 q10).mono ?_
             rintro e11 q11 ⟨rfl, ha11⟩
             refine ⟨_, rfl, ?_⟩
             have hb11 := hb10.trans (ha11.mono hb10.size)
             have fn11 := (ha11.block _ (blk_lt fn10)).trans fn10
             refine hK.out _ _ (S19 q11 hb11) fun hHeld => ?_
             clear hK K
             refine norm_ (a' := ?_) ?_ ?_
             rotate_left
             · show Act.put _ (some 79) _ = _
               simp only [Act.put, sA, sZ, sS, i64_w, i32_w]
               rfl
             refine one_ (i := 10) (N := some 80) #[tT, tT, tT, tT, tT, tT, tT, tT, tT, tT, tT, fF, fF, fF, fF, fF, fF, fF] rfl rfl (by kernel_rfl) (by decide) (fun K hK => ?_)
             rw [if_pos (by rfl)]
             unfold Oper.wp
             go_simp
             have ha12 := (Below.refl q11.heap.size q11).alloc (Nat.le_refl _) (.cells #[.int .i64 3, .int .i64 e.f0, .string ⟨#[]⟩, .slice none 0 0, .slice none 0 0, .int .i64 4, .int .i64 0, .string (kindT e.f1), .slice none 0 0, .slice none 0 0, .int .i64 5, .int .i64 0, .string ⟨#[]⟩, .slice A8 e.f2.length c8, .slice none 0 0] 51 (0, 0))
             have hb12 := hb11.trans (ha12.mono hb11.size)
             have fn12 := (ha12.block _ (blk_lt fn11)).trans fn11
             have fr12 := blk_new q11 (.cells #[.int .i64 3, .int .i64 e.f0, .string ⟨#[]⟩, .slice none 0 0, .slice none 0 0, .int .i64 4, .int .i64 0, .string (kindT e.f1), .slice none 0 0, .slice none 0 0, .int .i64 5, .int .i64 0, .string ⟨#[]⟩, .slice A8 e.f2.length c8, .slice none 0 0] 51 (0, 0))
             refine hK.out _ _ (S19 _ hb12) fun hHeld => ?_
             clear hK K
             generalize q11.alloc (.cells #[.int .i64 3, .int .i64 e.f0, .string ⟨#[]⟩, .slice none 0 0, .slice none 0 0, .int .i64 4, .int .i64 0, .string (kindT e.f1), .slice none 0 0, .slice none 0 0, .int .i64 5, .int .i64 0, .string ⟨#[]⟩, .slice A8 e.f2.length c8, .slice none 0 0] 51 (0, 0)) = q12 at *
             refine norm_ ?_ (HJ19 (q7.heap.size, q11.heap.size) _ ⟨hb12, fn12, fr12, hb7.size, hb11.size⟩)
             simp only [putAll, Act.put, sA, sZ, sS]
           · refine goes_ Tryz.func31 (by kernel_rfl) rfl #[.int .i64 e.f1] (by rfl) rfl rfl (by simp only [List.map_toArray, List.map_cons, List.map_nil]; rfl) ?_
             refine (kind_calls e.f1 hk0 hk3 q7).mono ?_
             rintro e13 q13 ⟨rfl, ha13⟩
             refine ⟨_, rfl, ?_⟩
             have hb13 := hb7.trans (ha13.mono hb7.size)
             refine hK.out _ _ (S19 q13 hb13) fun hHeld => ?_
             clear hK K
             refine norm_ (a' := ?_) ?_ ?_
             rotate_left
             · show Act.put _ (some 76) _ = _
               simp only [Act.put, sA, sZ, sS, i64_w, i32_w]
               rfl
             refine two_ (i := 0) (j := 7) (Ni := some 70) (Nj := some 77) #[tT, tT, tT, tT, tT, tT, tT, fF, tT, fF, fF, fF, fF, fF, fF, fF, fF, fF] #[fF, tT, tT, tT, tT, tT, tT, tT, tT, fF, fF, fF, fF, fF, fF, fF, fF, fF] rfl rfl rfl rfl (by kernel_rfl) (by decide) (by decide) (fun K hK => ?_) (fun K hK => ?_)
             · rw [if_pos (by rfl)]
               unfold Oper.wp
               go_simp
               have ha14 := (Below.refl q13.heap.size q13).alloc (Nat.le_refl _) (.cells #[.string ⟨#[112]⟩, .string ⟨#[116]⟩, .string ⟨#[102]⟩] 9 (0, 0))
               have hb14 := hb13.trans (ha14.mono hb13.size)
               have fn14 := blk_new q13 (.cells #[.string ⟨#[112]⟩, .string ⟨#[116]⟩, .string ⟨#[102]⟩] 9 (0, 0))
               refine hK.out _ _ (S19 _ hb14) fun hHeld => ?_
               clear hK K
               generalize q13.alloc (.cells #[.string ⟨#[112]⟩, .string ⟨#[116]⟩, .string ⟨#[102]⟩] 9 (0, 0)) = q14 at *
               refine one_ (i := 7) (N := some 77) #[tT, tT, tT, tT, tT, tT, tT, tT, tT, fF, fF, fF, fF, fF, fF, fF, fF, fF] rfl rfl (by kernel_rfl) (by decide) (fun K hK => ?_)
               refine goes_ Tryz.func27 (by kernel_rfl) rfl #[.string (kindT e.f1)] (by rfl) rfl rfl (by simp only [List.map_toArray, List.map_cons, List.map_nil]; rfl) ?_
               refine (text_calls (kindT e.f1) q14).mono ?_
               rintro e15 q15 ⟨rfl, ha15⟩
               refine ⟨_, rfl, ?_⟩
               have hb15 := hb14.trans (ha15.mono hb14.size)
               have fn15 := (ha15.block _ (blk_lt fn14)).trans fn14
               refine hK.out _ _ (S19 q15 hb15) fun hHeld => ?_
               clear hK K
               refine norm_ (a' := ?_) ?_ ?_
               rotate_left
               · show Act.put _ (some 77) _ = _
                 simp only [Act.put, sA, sZ, sS, i64_w, i32_w]
                 rfl
               refine one_ (i := 9) (N := some 79) #[tT, tT, tT, tT, tT, tT, tT, tT, tT, tT, fF, fF, fF, fF, fF, fF, fF, fF] rfl rfl (by kernel_rfl) (by decide) (fun K hK => ?_)
               refine goes_ Tryz.func26 (by kernel_rfl) rfl #[.slice A8 e.f2.length c8] (by rfl) rfl rfl (by simp only [List.map_toArray, List.map_cons, List.map_nil]; rfl) ?_
               refine (array_calls A8 e.f2.length c8 q15).mono ?_
               rintro e16 q16 ⟨rfl, ha16⟩
               refine ⟨_, rfl, ?_⟩
               have hb16 := hb15.trans (ha16.mono hb15.size)
               have fn16 := (ha16.block _ (blk_lt fn15)).trans fn15
               refine hK.out _ _ (S19 q16 hb16) fun hHeld => ?_
               clear hK K
               refine norm_ (a' := ?_) ?_ ?_
               rotate_left
               · show Act.put _ (some 79) _ = _
                 simp only [Act.put, sA, sZ, sS, i64_w, i32_w]
                 rfl
               refine one_ (i := 10) (N := some 80) #[tT, tT, tT, tT, tT, tT, tT, tT, tT, tT, tT, fF, fF, fF, fF, fF, fF, fF] rfl rfl (by kernel_rfl) (by decide) (fun K hK => ?_)
               rw [if_pos (by rfl)]
               unfold Oper.wp
               go_simp
               have ha17 := (Below.refl q16.heap.size q16).alloc (Nat.le_refl _) (.cells #[.int .i64 3, .int .i64 e.f0, .string ⟨#[]⟩, .slice none 0 0, .slice none 0 0, .int .i64 4, .int .i64 0, .string (kindT e.f1), .slice none 0 0, .slice none 0 0, .int .i64 5, .int .i64 0, .string ⟨#[]⟩, .slice A8 e.f2.length c8, .slice none 0 0] 51 (0, 0))
               have hb17 := hb16.trans (ha17.mono hb16.size)
               have fn17 := (ha17.block _ (blk_lt fn16)).trans fn16
               have fr17 := blk_new q16 (.cells #[.int .i64 3, .int .i64 e.f0, .string ⟨#[]⟩, .slice none 0 0, .slice none 0 0, .int .i64 4, .int .i64 0, .string (kindT e.f1), .slice none 0 0, .slice none 0 0, .int .i64 5, .int .i64 0, .string ⟨#[]⟩, .slice A8 e.f2.length c8, .slice none 0 0] 51 (0, 0))
               refine hK.out _ _ (S19 _ hb17) fun hHeld => ?_
               clear hK K
               generalize q16.alloc (.cells #[.int .i64 3, .int .i64 e.f0, .string ⟨#[]⟩, .slice none 0 0, .slice none 0 0, .int .i64 4, .int .i64 0, .string (kindT e.f1), .slice none 0 0, .slice none 0 0, .int .i64 5, .int .i64 0, .string ⟨#[]⟩, .slice A8 e.f2.length c8, .slice none 0 0] 51 (0, 0)) = q17 at *
               refine norm_ ?_ (HJ19 (q13.heap.size, q16.heap.size) _ ⟨hb17, fn17, fr17, hb13.size, hb16.size⟩)
               simp only [putAll, Act.put, sA, sZ, sS]
             · refine goes_ Tryz.func27 (by kernel_rfl) rfl #[.string (kindT e.f1)] (by rfl) rfl rfl (by simp only [List.map_toArray, List.map_cons, List.map_nil]; rfl) ?_
               refine (text_calls (kindT e.f1) q13).mono ?_
               rintro e18 q18 ⟨rfl, ha18⟩
               refine ⟨_, rfl, ?_⟩
               have hb18 := hb13.trans (ha18.mono hb13.size)
               refine hK.out _ _ (S19 q18 hb18) fun hHeld => ?_
               clear hK K
               refine norm_ (a' := ?_) ?_ ?_
               rotate_left
               · show Act.put _ (some 77) _ = _
                 simp only [Act.put, sA, sZ, sS, i64_w, i32_w]
                 rfl
               refine two_ (i := 0) (j := 9) (Ni := some 70) (Nj := some 79) #[tT, tT, tT, tT, tT, tT, tT, tT, tT, fF, fF, fF, fF, fF, fF, fF, fF, fF] #[fF, tT, tT, tT, tT, tT, tT, tT, tT, tT, fF, fF, fF, fF, fF, fF, fF, fF] rfl rfl rfl rfl (by kernel_rfl) (by decide) (by decide) (fun K hK => ?_) (fun K hK => ?_)
               · rw [if_pos (by rfl)]
                 unfold Oper.wp
                 go_simp
                 have ha19 := (Below.refl q18.heap.size q18).alloc (Nat.le_refl _) (.cells #[.string ⟨#[112]⟩, .string ⟨#[116]⟩, .string ⟨#[102]⟩] 9 (0, 0))
                 have hb19 := hb18.trans (ha19.mono hb18.size)
                 have fn19 := blk_new q18 (.cells #[.string ⟨#[112]⟩, .string ⟨#[116]⟩, .string ⟨#[102]⟩] 9 (0, 0))
                 refine hK.out _ _ (S19 _ hb19) fun hHeld => ?_
                 clear hK K
                 generalize q18.alloc (.cells #[.string ⟨#[112]⟩, .string ⟨#[116]⟩, .string ⟨#[102]⟩] 9 (0, 0)) = q19 at *
                 refine one_ (i := 9) (N := some 79) #[tT, tT, tT, tT, tT, tT, tT, tT, tT, tT, fF, fF, fF, fF, fF, fF, fF, fF] rfl rfl (by kernel_rfl) (by decide) (fun K hK => ?_)
                 refine goes_ Tryz.func26 (by kernel_rfl) rfl #[.slice A8 e.f2.length c8] (by rfl) rfl rfl (by simp only [List.map_toArray, List.map_cons, List.map_nil]; rfl) ?_
                 refine (array_calls A8 e.f2.length c8 q19).mono ?_
                 rintro e20 q20 ⟨rfl, ha20⟩
                 refine ⟨_, rfl, ?_⟩
                 have hb20 := hb19.trans (ha20.mono hb19.size)
                 have fn20 := (ha20.block _ (blk_lt fn19)).trans fn19
                 refine hK.out _ _ (S19 q20 hb20) fun hHeld => ?_
                 clear hK K
                 refine norm_ (a' := ?_) ?_ ?_
                 rotate_left
                 · show Act.put _ (some 79) _ = _
                   simp only [Act.put, sA, sZ, sS, i64_w, i32_w]
                   rfl
                 refine one_ (i := 10) (N := some 80) #[tT, tT, tT, tT, tT, tT, tT, tT, tT, tT, tT, fF, fF, fF, fF, fF, fF, fF] rfl rfl (by kernel_rfl) (by decide) (fun K hK => ?_)
                 rw [if_pos (by rfl)]
                 unfold Oper.wp
                 go_simp
                 have ha21 := (Below.refl q20.heap.size q20).alloc (Nat.le_refl _) (.cells #[.int .i64 3, .int .i64 e.f0, .string ⟨#[]⟩, .slice none 0 0, .slice none 0 0, .int .i64 4, .int .i64 0, .string (kindT e.f1), .slice none 0 0, .slice none 0 0, .int .i64 5, .int .i64 0, .string ⟨#[]⟩, .slice A8 e.f2.length c8, .slice none 0 0] 51 (0, 0))
                 have hb21 := hb20.trans (ha21.mono hb20.size)
                 have fn21 := (ha21.block _ (blk_lt fn20)).trans fn20
                 have fr21 := blk_new q20 (.cells #[.int .i64 3, .int .i64 e.f0, .string ⟨#[]⟩, .slice none 0 0, .slice none 0 0, .int .i64 4, .int .i64 0, .string (kindT e.f1), .slice none 0 0, .slice none 0 0, .int .i64 5, .int .i64 0, .string ⟨#[]⟩, .slice A8 e.f2.length c8, .slice none 0 0] 51 (0, 0))
                 refine hK.out _ _ (S19 _ hb21) fun hHeld => ?_
                 clear hK K
                 generalize q20.alloc (.cells #[.int .i64 3, .int .i64 e.f0, .string ⟨#[]⟩, .slice none 0 0, .slice none 0 0, .int .i64 4, .int .i64 0, .string (kindT e.f1), .slice none 0 0, .slice none 0 0, .int .i64 5, .int .i64 0, .string ⟨#[]⟩, .slice A8 e.f2.length c8, .slice none 0 0] 51 (0, 0)) = q21 at *
                 refine norm_ ?_ (HJ19 (q18.heap.size, q20.heap.size) _ ⟨hb21, fn21, fr21, hb18.size, hb20.size⟩)
                 simp only [putAll, Act.put, sA, sZ, sS]
               · refine goes_ Tryz.func26 (by kernel_rfl) rfl #[.slice A8 e.f2.length c8] (by rfl) rfl rfl (by simp only [List.map_toArray, List.map_cons, List.map_nil]; rfl) ?_
                 refine (array_calls A8 e.f2.length c8 q18).mono ?_
                 rintro e22 q22 ⟨rfl, ha22⟩
                 refine ⟨_, rfl, ?_⟩
                 have hb22 := hb18.trans (ha22.mono hb18.size)
                 refine hK.out _ _ (S19 q22 hb22) fun hHeld => ?_
                 clear hK K
                 refine norm_ (a' := ?_) ?_ ?_
                 rotate_left
                 · show Act.put _ (some 79) _ = _
                   simp only [Act.put, sA, sZ, sS, i64_w, i32_w]
                   rfl
                 refine two_ (i := 0) (j := 10) (Ni := some 70) (Nj := some 80) #[tT, tT, tT, tT, tT, tT, tT, tT, tT, tT, fF, fF, fF, fF, fF, fF, fF, fF] #[fF, tT, tT, tT, tT, tT, tT, tT, tT, tT, tT, fF, fF, fF, fF, fF, fF, fF] rfl rfl rfl rfl (by kernel_rfl) (by decide) (by decide) (fun K hK => ?_) (fun K hK => ?_)
                 · rw [if_pos (by rfl)]
                   unfold Oper.wp
                   go_simp
                   have ha23 := (Below.refl q22.heap.size q22).alloc (Nat.le_refl _) (.cells #[.string ⟨#[112]⟩, .string ⟨#[116]⟩, .string ⟨#[102]⟩] 9 (0, 0))
                   have hb23 := hb22.trans (ha23.mono hb22.size)
                   have fn23 := blk_new q22 (.cells #[.string ⟨#[112]⟩, .string ⟨#[116]⟩, .string ⟨#[102]⟩] 9 (0, 0))
                   refine hK.out _ _ (S19 _ hb23) fun hHeld => ?_
                   clear hK K
                   generalize q22.alloc (.cells #[.string ⟨#[112]⟩, .string ⟨#[116]⟩, .string ⟨#[102]⟩] 9 (0, 0)) = q23 at *
                   refine one_ (i := 10) (N := some 80) #[tT, tT, tT, tT, tT, tT, tT, tT, tT, tT, tT, fF, fF, fF, fF, fF, fF, fF] rfl rfl (by kernel_rfl) (by decide) (fun K hK => ?_)
                   rw [if_pos (by rfl)]
                   unfold Oper.wp
                   go_simp
                   have ha24 := (Below.refl q23.heap.size q23).alloc (Nat.le_refl _) (.cells #[.int .i64 3, .int .i64 e.f0, .string ⟨#[]⟩, .slice none 0 0, .slice none 0 0, .int .i64 4, .int .i64 0, .string (kindT e.f1), .slice none 0 0, .slice none 0 0, .int .i64 5, .int .i64 0, .string ⟨#[]⟩, .slice A8 e.f2.length c8, .slice none 0 0] 51 (0, 0))
                   have hb24 := hb23.trans (ha24.mono hb23.size)
                   have fn24 := (ha24.block _ (blk_lt fn23)).trans fn23
                   have fr24 := blk_new q23 (.cells #[.int .i64 3, .int .i64 e.f0, .string ⟨#[]⟩, .slice none 0 0, .slice none 0 0, .int .i64 4, .int .i64 0, .string (kindT e.f1), .slice none 0 0, .slice none 0 0, .int .i64 5, .int .i64 0, .string ⟨#[]⟩, .slice A8 e.f2.length c8, .slice none 0 0] 51 (0, 0))
                   refine hK.out _ _ (S19 _ hb24) fun hHeld => ?_
                   clear hK K
                   generalize q23.alloc (.cells #[.int .i64 3, .int .i64 e.f0, .string ⟨#[]⟩, .slice none 0 0, .slice none 0 0, .int .i64 4, .int .i64 0, .string (kindT e.f1), .slice none 0 0, .slice none 0 0, .int .i64 5, .int .i64 0, .string ⟨#[]⟩, .slice A8 e.f2.length c8, .slice none 0 0] 51 (0, 0)) = q24 at *
                   refine norm_ ?_ (HJ19 (q22.heap.size, q23.heap.size) _ ⟨hb24, fn24, fr24, hb22.size, hb23.size⟩)
                   simp only [putAll, Act.put, sA, sZ, sS]
                 · rw [if_pos (by rfl)]
                   unfold Oper.wp
                   go_simp
                   have ha25 := (Below.refl q22.heap.size q22).alloc (Nat.le_refl _) (.cells #[.int .i64 3, .int .i64 e.f0, .string ⟨#[]⟩, .slice none 0 0, .slice none 0 0, .int .i64 4, .int .i64 0, .string (kindT e.f1), .slice none 0 0, .slice none 0 0, .int .i64 5, .int .i64 0, .string ⟨#[]⟩, .slice A8 e.f2.length c8, .slice none 0 0] 51 (0, 0))
                   have hb25 := hb22.trans (ha25.mono hb22.size)
                   have fr25 := blk_new q22 (.cells #[.int .i64 3, .int .i64 e.f0, .string ⟨#[]⟩, .slice none 0 0, .slice none 0 0, .int .i64 4, .int .i64 0, .string (kindT e.f1), .slice none 0 0, .slice none 0 0, .int .i64 5, .int .i64 0, .string ⟨#[]⟩, .slice A8 e.f2.length c8, .slice none 0 0] 51 (0, 0))
                   refine hK.out _ _ (S19 _ hb25) fun hHeld => ?_
                   clear hK K
                   generalize q22.alloc (.cells #[.int .i64 3, .int .i64 e.f0, .string ⟨#[]⟩, .slice none 0 0, .slice none 0 0, .int .i64 4, .int .i64 0, .string (kindT e.f1), .slice none 0 0, .slice none 0 0, .int .i64 5, .int .i64 0, .string ⟨#[]⟩, .slice A8 e.f2.length c8, .slice none 0 0] 51 (0, 0)) = q25 at *
                   refine one_ (i := 0) (N := some 70) #[tT, tT, tT, tT, tT, tT, tT, tT, tT, tT, tT, fF, fF, fF, fF, fF, fF, fF] rfl rfl (by kernel_rfl) (by decide) (fun K hK => ?_)
                   rw [if_pos (by rfl)]
                   unfold Oper.wp
                   go_simp
                   have ha26 := (Below.refl q25.heap.size q25).alloc (Nat.le_refl _) (.cells #[.string ⟨#[112]⟩, .string ⟨#[116]⟩, .string ⟨#[102]⟩] 9 (0, 0))
                   have hb26 := hb25.trans (ha26.mono hb25.size)
                   have fr26 := (ha26.block _ (blk_lt fr25)).trans fr25
                   have fn26 := blk_new q25 (.cells #[.string ⟨#[112]⟩, .string ⟨#[116]⟩, .string ⟨#[102]⟩] 9 (0, 0))
                   refine hK.out _ _ (S19 _ hb26) fun hHeld => ?_
                   clear hK K
                   generalize q25.alloc (.cells #[.string ⟨#[112]⟩, .string ⟨#[116]⟩, .string ⟨#[102]⟩] 9 (0, 0)) = q26 at *
                   refine norm_ ?_ (HJ19 (q25.heap.size, q22.heap.size) _ ⟨hb26, fn26, fr26, hb25.size, hb22.size⟩)
                   simp only [putAll, Act.put, sA, sZ, sS]
       rintro ⟨nb, rb⟩ w4 ⟨hb4, hn4, hr4, hgn4, hgr4⟩
       have hn4' : w4.heap[nb]? = _ := hn4
       have hr4' : w4.heap[rb]? = _ := hr4
       refine norm_ (a' := ?_) ?_ ?_
       rotate_left
       · simp only [putAll, Act.put, sA, sZ, sS, i64_w, i32_w]
         rfl
       refine pure_ (i := 11) (N := some 81) (v := ?_) (a' := ?_) #[tT, tT, tT, tT, tT, tT, tT, tT, tT, tT, tT, tT, fF, fF, fF, fF, fF, fF] rfl rfl (by kernel_rfl) (fun _ _ _ h => h) (Or.inl ⟨by rfl, ?_⟩) ?_ ?_
       rotate_left
       · intro w'
         go_simp
         with_reducible rfl
       rotate_left
       · simp only [Act.put, sA, sZ, sS, i64_w, i32_w]
         rfl
       have hbr4 : Below wr.heap.size wr w4 := HDR.out.trans (hb4.mono HDR.out.size)
       have HR4 := Aside0.mk (R_row3 (w := w4) (base := W7.heap.size) (g := rb) (ok := fun _ => True) trivial (numV e.f0) (txtV (kindT e.f1)) (arrV (e.f2.map callV)) (by have h1 := HBW.out.size; have h2 := HSR.out; have h3 : Wr.heap.size ≤ rb := hgr4; omega) hr4' (Kd.R_nil _ _ _ _ _) (Kd.R_nil _ _ _ _ _) (Kd.R_nil _ _ _ _ _) (Kd.R_nil _ _ _ _ _) (Kd.R_mono (Kd.R_below (Kd.R_bound HRW.out) hbr4) (fun k hk => ⟨trivial, fun e => by have h1 := hk.2.2.1; have h2 : Wr.heap.size ≤ rb := hgr4; have h3 := HSR.out; omega⟩)) (Kd.R_nil _ _ _ _ _))
       obtain ⟨A3, c3, e3, l3, g3⟩ := Kd.R_reads HR4.out
       have HN4 := Aside0.mk (S_row3 (w := w4) (base := w4.heap.size - w4.heap.size) ⟨#[112]⟩ ⟨#[116]⟩ ⟨#[102]⟩ (by omega) hn4')
       obtain ⟨A4, c4, e4, l4, g4⟩ := Kd.R_reads HN4.out
       cases e3
       cases e4
       have HPR := Aside0.mk (show printR (eventV e) = (writeD 8 (eventV e), 0) by unfold printR; rw [if_pos HOK.out.s])
       have hwl : (writeD 8 (eventV e)).length + 1 ≤ 80000 := by
        have := HLL.out
        unfold lineB at this
        rw [List.length_append, List.length_singleton] at this
        exact this
       have HWL := Aside0.mk hwl
       have HP := Tr.Print_calls (eventV e) (some ⟨rb, 0, none⟩) 3 (some ⟨nb, 0, none⟩) 3 w4 HOK.out.f HOK.out.n l3 g3 l4 g4 (by omega) (fun w9 hb9 => HLW.out w9 (HBR.out.trans ((HBO.out.trans ((hbr4.trans (hb9.mono hbr4.size)).mono HBO.out.size)).mono HBR.out.size)))
       rw [HPR.out] at HP
       have HHP := Aside0.mk HP
       clear HP hwl l3 g3 l4 g4
       refine one_ (i := 12) (N := some 82) #[tT, tT, tT, tT, tT, tT, tT, tT, tT, tT, tT, tT, tT, fF, fF, fF, fF, fF] rfl rfl (by kernel_rfl) (by decide) (fun K hK => ?_)
       refine goes_ Tryz.func30 (by kernel_rfl) rfl #[vArg (eventV e) (some ⟨rb, 0, none⟩) 3 (some ⟨nb, 0, none⟩) 3] (by rfl) rfl rfl (by simp only [List.map_toArray, List.map_cons, List.map_nil]; rfl) ?_
       refine HHP.out.mono ?_
       rintro e5 w5 ⟨rfl, hb5⟩
       refine ⟨_, rfl, ?_⟩
       have hb45 := hb4.trans (hb5.mono hb4.size)
       refine hK.out _ _ (S19 _ hb45) fun hHeld => ?_
       clear hK K
       refine norm_ (a' := ?_) ?_ ?_
       rotate_left
       · show Act.put _ (some 82) _ = _
         simp only [Act.put, sA, sZ, sS, i64_w, i32_w]
         rfl
       refine pure_ (i := 13) (N := some 69) (v := ?_) (a' := ?_) #[tT, tT, tT, tT, tT, tT, tT, tT, tT, tT, tT, tT, tT, tT, fF, fF, fF, fF] rfl rfl (by kernel_rfl) (fun _ _ _ h => h) (Or.inl ⟨by rfl, ?_⟩) ?_ ?_
       rotate_left
       · intro w'
         go_simp
         with_reducible rfl
       rotate_left
       · simp only [Act.put, sA, sZ, sS, i64_w, i32_w]
         rfl
       refine pure_ (i := 14) (N := some 83) (v := ?_) (a' := ?_) #[tT, tT, tT, tT, tT, tT, tT, tT, tT, tT, tT, tT, tT, tT, tT, fF, fF, fF] rfl rfl (by kernel_rfl) (fun _ _ _ h => h) (Or.inl ⟨by rfl, ?_⟩) ?_ ?_
       rotate_left
       · intro w'
         go_simp
         with_reducible rfl
       rotate_left
       · simp only [Act.put, sA, sZ, sS, i64_w, i32_w]
         rfl
       refine pure_ (i := 15) (N := some 84) (v := ?_) (a' := ?_) #[tT, tT, tT, tT, tT, tT, tT, tT, tT, tT, tT, tT, tT, tT, tT, tT, fF, fF] rfl rfl (by kernel_rfl) (fun _ _ _ h => h) (Or.inl ⟨by rfl, ?_⟩) ?_ ?_
       rotate_left
       · intro w'
         go_simp
         with_reducible rfl
       rotate_left
       · simp only [Act.put, sA, sZ, sS, i64_w, i32_w]
         rfl
       refine pure_ (i := 16) (N := some 12) (v := ?_) (a' := ?_) #[tT, tT, tT, tT, tT, tT, tT, tT, tT, tT, tT, tT, tT, tT, tT, tT, tT, fF] rfl rfl (by kernel_rfl) (fun _ _ _ h => h) (Or.inl ⟨by rfl, ?_⟩) ?_ ?_
       rotate_left
       · intro w'
         go_simp
         with_reducible rfl
       rotate_left
       · simp only [Act.put, sA, sZ, sS, i64_w, i32_w]
         rfl
       refine pure_ (i := 17) (N := some 13) (v := ?_) (a' := ?_) #[tT, tT, tT, tT, tT, tT, tT, tT, tT, tT, tT, tT, tT, tT, tT, tT, tT, tT] rfl rfl (by kernel_rfl) (fun _ _ _ h => h) (Or.inl ⟨by rfl, ?_⟩) ?_ ?_
       rotate_left
       · intro w'
         go_simp
         with_reducible rfl
       rotate_left
       · simp only [Act.put, sA, sZ, sS, i64_w, i32_w]
         rfl
       refine done_ (by kernel_rfl) ?_
       have HB5 := Aside0.mk (hbr4.trans (hb5.mono hbr4.size))
       have hs5 : w1.heap.size + 1 ≤ w5.heap.size := by have := HB5.out.size; have := HBO.out.size; omega
       have HBW5 := Aside0.mk (HBO.out.trans (HB5.out.mono HBO.out.size))
       have HBT5 := Aside0.mk (HBT.out.move (fun k hk _ => HBW5.out.block k hk))
       have HLN := Aside0.mk (show lineB e = writeD 8 (eventV e) ++ [10] from rfl)
       have HSL := Aside0.mk (flat_len (l.take k) (fun e he => line_len e (HG.out e (List.mem_of_mem_take he)) (HN.out e (List.mem_of_mem_take he))))
       clear hb45 hb5 hHeld S19 hb4 hbr4 HN4 HR4 HHP HPR hn4 hn4' hr4 hr4' hgn4 hgr4
       generalize writeD 8 (eventV e) = line at *
       have hszl : (ByteArray.mk line.toArray).size = line.length := by simp [ByteArray.size]
       have hz1 : ((ByteArray.mk line.toArray) ++ (⟨#[10]⟩ : ByteArray)).size = line.length + 1 := by simp [ByteArray.size]
       have hlen : line.length + 1 ≤ 80000 := HWL.out
       have HAP := Aside0.mk (show (ByteArray.mk line.toArray) ++ (⟨#[10]⟩ : ByteArray) = ⟨(line ++ [10]).toArray⟩ by apply ByteArray.ext; simp)
       have HBL := Aside0.mk (show (Lib.byteCells ((l.take k).map lineB).flatten).length + (ByteArray.mk (line ++ [10]).toArray).size ≤ 140737488355328 by
        rw [byteCells_len]
        have h1 := HSL.out
        have h2 : (l.take k).length ≤ 256 := by rw [List.length_take]; omega
        have h3 : (ByteArray.mk (line ++ [10]).toArray).size = line.length + 1 := by simp [ByteArray.size]
        rw [h3]
        have h4 : (l.take k).length * 80000 ≤ 256 * 80000 := Nat.mul_le_mul_right _ h2
        omega)
       have HWC := Aside0.mk (Write_calls (w1.heap.size + 1) w1.heap.size _ _ ⟨(line ++ [10]).toArray⟩ w5 HBT5.out HBL.out hs5)
       go_wp2_with fail
       clear hlen
       rw [HAP.out]
       refine HWC.out.mono ?_
       rintro e9 w9 ⟨rfl, v9, h9, k9⟩
       rw [strCells_list, ← byteCells_app, ← HLN.out, ← List.flatten_singleton (l := lineB e)] at h9
       have H9 := Aside0.mk h9
       have K9 := Aside0.mk k9
       clear h9 k9
       have HF9 := Aside0.mk (show BAt (w1.heap.size + 1) w1.heap.size v9 (Lib.byteCells ((l.take (k + 1)).map lineB).flatten) w9 by
        rw [HTK.out, List.flatten_append]
        exact H9.out)
       have HB9 := Aside0.mk ((HB.out.trans (HBW5.out.mono HB.out.size)).trans K9.out.1)
       have hs9 : w1.heap.size < w9.heap.size := Nat.lt_of_lt_of_le hs5 K9.out.1.size
       go_wp2
       go_roundg k1
       case measure => omega
       case rel => exact ⟨k + 1, v9, by have := HK.out; omega, by go_num, hs9, HF9, HB9⟩
      | succ j1 =>
       have hlt2 : ((j : Nat) : Int) < (e.f2.length : Int) := by omega
       have hlt2' : j < e.f2.length := by omega
       obtain ⟨ac, A4, c4, e', y0, y1, y2, y3, y4, l4, g4⟩ := at_T43 (Kd.C_below HGG.out.2 HBO.out) j (by omega) hlt2
       cases e'
       have hrd : rd_T43 e.f2 j = e.f2[j] := by simp [rd_T43, List.getD, List.getElem?_eq_getElem hlt2']
       rw [hrd] at y0 y1 y2 y3 y4 l4 g4
       rw [Int.toNat_natCast] at y0 y1 y2 y3 y4
       have HTJ := Aside0.mk (show (e.f2.take (j + 1)).map callV = (e.f2.take j).map callV ++ [callV e.f2[j]] by rw [List.take_succ_eq_append_getElem hlt2', List.map_append]; rfl)
       have HSC := Aside0.mk (show soundC e.f2[j] e.f1 = true by
        have hs := HGE.out
        simp only [badE, Bool.or_eq_false_iff, decide_eq_false_iff_not, List.any_eq_false, Bool.not_eq_true', Bool.not_eq_false] at hs
        simpa using hs.2.2.2 e.f2[j] (List.getElem_mem _))
       have HSL := Aside0.mk (sound_len HSC.out)
       have HNC := Aside0.mk (HNE.out.2 e.f2[j] (List.getElem_mem _))
       have HG4 := Aside0.mk (And.intro l4 g4)
       have HJ := Aside0.mk hj
       clear hrd l4 g4 hj
       generalize e.f2[j] = c at *
       have HCV := Aside0.mk (blk_new wr (.cells #[.int .i64 c.f0, .string c.f1, .int .i64 c.f2, .bool c.f3, .slice A4 c.f4.length c4] 43 (0, 0)))
       have HCA := Aside0.mk ((Below.refl wr.heap.size wr).alloc (Nat.le_refl _) (.cells #[.int .i64 c.f0, .string c.f1, .int .i64 c.f2, .bool c.f3, .slice A4 c.f4.length c4] 43 (0, 0)))
       go_wp2
       have hsC : (wr.alloc (.cells #[.int .i64 c.f0, .string c.f1, .int .i64 c.f2, .bool c.f3, .slice A4 c.f4.length c4] 43 (0, 0))).heap.size = wr.heap.size + 1 := by simp
       generalize wr.alloc (.cells #[.int .i64 c.f0, .string c.f1, .int .i64 c.f2, .bool c.f3, .slice A4 c.f4.length c4] 43 (0, 0)) = W12 at *
       have slc := slice_let c.f0 HSL.out.2.2.1 HSL.out.2.2.2
       refine start_ (n := 14) (S := fun w' => w'.cell? ⟨wr.heap.size, 0, none⟩ = some (.int .i64 c.f0) ∧ w'.cell? ⟨wr.heap.size, 1, none⟩ = some (.string c.f1) ∧ Below W12.drew.heap.size W12.drew w') (ds := []) #[fF, fF, fF, fF, fF, fF, fF, fF, fF, fF, fF, fF, fF, fF] (by kernel_rfl) rfl rfl ⟨blk_cell (w := W12.drew) HCV.out 0, blk_cell (w := W12.drew) HCV.out 1, Below.refl _ _⟩ (fun hHeld => ?_)
       refine pure_ (i := 0) (N := some 32) (v := ?_) (a' := ?_) #[tT, fF, fF, fF, fF, fF, fF, fF, fF, fF, fF, fF, fF, fF] rfl rfl (by kernel_rfl) (fun _ _ _ h => h) (Or.inl ⟨by rfl, ?_⟩) ?_ ?_
       rotate_left
       · intro w'
         go_simp
         with_reducible rfl
       rotate_left
       · simp only [Act.put, sA, sZ, sS, i64_w, i32_w]
         rfl
       refine take_ (i := 1) (N := some 33) (v := ?_) (a' := ?_) #[tT, tT, fF, fF, fF, fF, fF, fF, fF, fF, fF, fF, fF, fF] rfl rfl (by kernel_rfl) (fun _ _ _ h => h) (Or.inl ⟨by rfl, ?_⟩) hHeld ?_ ?_
       rotate_left
       · rintro w' ⟨s0, s1, _⟩
         go_simp
         with_reducible rfl
       rotate_left
       · simp only [Act.put, sA, sZ, sS, i64_w, i32_w]
         rfl
       refine pure_ (i := 2) (N := some 34) (v := ?_) (a' := ?_) #[tT, tT, tT, fF, fF, fF, fF, fF, fF, fF, fF, fF, fF, fF] rfl rfl (by kernel_rfl) (fun _ _ _ h => h) (Or.inl ⟨by rfl, ?_⟩) ?_ ?_
       rotate_left
       · intro w'
         go_simp
         with_reducible rfl
       rotate_left
       · simp only [Act.put, sA, sZ, sS, i64_w, i32_w]
         rfl
       refine pure_ (i := 3) (N := some 35) (v := ?_) (a' := ?_) #[tT, tT, tT, tT, fF, fF, fF, fF, fF, fF, fF, fF, fF, fF] rfl rfl (by kernel_rfl) (fun _ _ _ h => h) (Or.inl ⟨by rfl, ?_⟩) ?_ ?_
       rotate_left
       · intro w'
         go_simp
         with_reducible rfl
       rotate_left
       · simp only [Act.put, sA, sZ, sS, i64_w, i32_w]
         rfl
       refine take_ (i := 4) (N := some 36) (v := ?_) (a' := ?_) #[tT, tT, tT, tT, tT, fF, fF, fF, fF, fF, fF, fF, fF, fF] rfl rfl (by kernel_rfl) (fun _ _ _ h => h) (Or.inl ⟨by rfl, ?_⟩) hHeld ?_ ?_
       rotate_left
       · rintro w' ⟨s0, s1, _⟩
         go_simp
         with_reducible rfl
       rotate_left
       · simp only [Act.put, sA, sZ, sS, i64_w, i32_w]
         rfl
       refine pure_ (i := 5) (N := some 37) (v := ?_) (a' := ?_) #[tT, tT, tT, tT, tT, tT, fF, fF, fF, fF, fF, fF, fF, fF] rfl rfl (by kernel_rfl) (fun _ _ _ h => h) (Or.inl ⟨by rfl, ?_⟩) ?_ ?_
       rotate_left
       · intro w'
         go_simp
         with_reducible rfl
       rotate_left
       · simp only [Act.put, sA, sZ, sS, i64_w, i32_w]
         rfl
       refine pure_ (i := 7) (N := some 39) (v := ?_) (a' := ?_) #[tT, tT, tT, tT, tT, tT, fF, tT, fF, fF, fF, fF, fF, fF] rfl rfl (by kernel_rfl) (fun _ _ _ h => h) (Or.inl ⟨by rfl, ?_⟩) ?_ ?_
       rotate_left
       · intro w'
         go_simp
         with_reducible rfl
       rotate_left
       · simp only [Act.put, sA, sZ, sS, i64_w, i32_w]
         rfl
       refine take_ (i := 8) (N := some 40) (v := ?_) (a' := ?_) #[tT, tT, tT, tT, tT, tT, fF, tT, tT, fF, fF, fF, fF, fF] rfl rfl (by kernel_rfl) (fun _ _ _ h => h) (Or.inl ⟨by rfl, ?_⟩) hHeld ?_ ?_
       rotate_left
       · rintro w' ⟨s0, s1, _⟩
         go_simp
         with_reducible rfl
       rotate_left
       · simp only [Act.put, sA, sZ, sS, i64_w, i32_w]
         rfl
       have hdC : Below wr.heap.size W12 W12.drew := ⟨rfl, rfl, rfl, Nat.le_refl _, fun _ _ => rfl⟩
       have HCD := Aside0.mk (HCA.out.trans hdC)
       have HVD := Aside0.mk (show W12.drew.heap[wr.heap.size]? = some (.cells #[.int .i64 c.f0, .string c.f1, .int .i64 c.f2, .bool c.f3, .slice A4 c.f4.length c4] 43 (0, 0)) from HCV.out)
       have HSD := Aside0.mk (show W12.drew.heap.size = wr.heap.size + 1 from hsC)
       clear hdC hsC
       generalize W12.drew = Wd at *
       have S12 : ∀ w', Below Wd.heap.size Wd w' → w'.cell? ⟨wr.heap.size, 0, none⟩ = some (.int .i64 c.f0) ∧ w'.cell? ⟨wr.heap.size, 1, none⟩ = some (.string c.f1) ∧ Below Wd.heap.size Wd w' := fun w' hb =>
        ⟨blk_cell ((hb.block _ (blk_lt HVD.out)).trans HVD.out) 0, blk_cell ((hb.block _ (blk_lt HVD.out)).trans HVD.out) 1, hb⟩
       refine join_ (fuel' := 1) (l' := #[tT, tT, tT, tT, tT, tT, tT, tT, tT, tT, tT, tT, tT, fF]) (ns := fun s : Nat × Nat => [(38, .agg #[.int .i64 4, .int .i64 0, .string (letC c.f0), .slice none 0 0, .slice none 0 0]), (41, .agg #[.int .i64 4, .int .i64 0, .string c.f1, .slice none 0 0, .slice none 0 0]), (42, .slice (some ⟨s.2, 0, none⟩) 2 2), (43, .agg #[.int .i64 5, .int .i64 0, .string ⟨#[]⟩, .slice (some ⟨s.2, 0, none⟩) 2 2, .slice none 0 0]), (11, .pointer (some ⟨s.1, 0, none⟩))])
        (F := fun s w' => Below Wd.heap.size Wd w' ∧ w'.heap[s.1]? = some (.cells #[.int .i64 0, .int .i64 0, .string ⟨#[]⟩, .slice none 0 0, .slice none 0 0] 51 (0, 0)) ∧ w'.heap[s.2]? = some (.cells #[.int .i64 4, .int .i64 0, .string (letC c.f0), .slice none 0 0, .slice none 0 0, .int .i64 4, .int .i64 0, .string c.f1, .slice none 0 0, .slice none 0 0] 51 (0, 0)) ∧ s.1 ≠ s.2 ∧ Wd.heap.size ≤ s.1 ∧ Wd.heap.size ≤ s.2) ?_ (fun HJ => ?_)
       rotate_left
       · have hb0 : Below Wd.heap.size Wd Wd := Below.refl _ _
         refine two_ (i := 6) (j := 12) (Ni := some 38) (Nj := some 11) #[tT, tT, tT, tT, tT, tT, tT, tT, tT, fF, fF, fF, fF, fF] #[tT, tT, tT, tT, tT, tT, fF, tT, tT, fF, fF, fF, tT, fF] rfl rfl rfl rfl (by kernel_rfl) (by decide) (by decide) (fun K hK => ?_) (fun K hK => ?_)
         · refine goes_ Tryz.func27 (by kernel_rfl) rfl #[.string (letC c.f0)] (by rfl) rfl rfl (by simp only [List.map_toArray, List.map_cons, List.map_nil]; rfl) ?_
           refine (text_calls (letC c.f0) Wd).mono ?_
           rintro e1 q1 ⟨rfl, ha1⟩
           refine ⟨_, rfl, ?_⟩
           have hb1 := hb0.trans (ha1.mono hb0.size)
           refine hK.out _ _ (S12 q1 hb1) fun hHeld => ?_
           clear hK K
           refine norm_ (a' := ?_) ?_ ?_
           rotate_left
           · show Act.put _ (some 38) _ = _
             simp only [Act.put, sA, sZ, sS, i64_w, i32_w]
             rfl
           refine two_ (i := 9) (j := 12) (Ni := some 41) (Nj := some 11) #[tT, tT, tT, tT, tT, tT, tT, tT, tT, tT, fF, fF, fF, fF] #[tT, tT, tT, tT, tT, tT, tT, tT, tT, fF, fF, fF, tT, fF] rfl rfl rfl rfl (by kernel_rfl) (by decide) (by decide) (fun K hK => ?_) (fun K hK => ?_)
           · refine goes_ Tryz.func27 (by kernel_rfl) rfl #[.string c.f1] (by rfl) rfl rfl (by simp only [List.map_toArray, List.map_cons, List.map_nil]; rfl) ?_
             refine (text_calls c.f1 q1).mono ?_
             rintro e2 q2 ⟨rfl, ha2⟩
             refine ⟨_, rfl, ?_⟩
             have hb2 := hb1.trans (ha2.mono hb1.size)
             refine hK.out _ _ (S12 q2 hb2) fun hHeld => ?_
             clear hK K
             refine norm_ (a' := ?_) ?_ ?_
             rotate_left
             · show Act.put _ (some 41) _ = _
               simp only [Act.put, sA, sZ, sS, i64_w, i32_w]
               rfl
             refine two_ (i := 10) (j := 12) (Ni := some 42) (Nj := some 11) #[tT, tT, tT, tT, tT, tT, tT, tT, tT, tT, tT, fF, fF, fF] #[tT, tT, tT, tT, tT, tT, tT, tT, tT, tT, fF, fF, tT, fF] rfl rfl rfl rfl (by kernel_rfl) (by decide) (by decide) (fun K hK => ?_) (fun K hK => ?_)
             · rw [if_pos (by rfl)]
               unfold Oper.wp
               go_simp
               have ha3 := (Below.refl q2.heap.size q2).alloc (Nat.le_refl _) (.cells #[.int .i64 4, .int .i64 0, .string (letC c.f0), .slice none 0 0, .slice none 0 0, .int .i64 4, .int .i64 0, .string c.f1, .slice none 0 0, .slice none 0 0] 51 (0, 0))
               have hb3 := hb2.trans (ha3.mono hb2.size)
               have fr3 := blk_new q2 (.cells #[.int .i64 4, .int .i64 0, .string (letC c.f0), .slice none 0 0, .slice none 0 0, .int .i64 4, .int .i64 0, .string c.f1, .slice none 0 0, .slice none 0 0] 51 (0, 0))
               refine hK.out _ _ (S12 _ hb3) fun hHeld => ?_
               clear hK K
               generalize q2.alloc (.cells #[.int .i64 4, .int .i64 0, .string (letC c.f0), .slice none 0 0, .slice none 0 0, .int .i64 4, .int .i64 0, .string c.f1, .slice none 0 0, .slice none 0 0] 51 (0, 0)) = q3 at *
               refine two_ (i := 11) (j := 12) (Ni := some 43) (Nj := some 11) #[tT, tT, tT, tT, tT, tT, tT, tT, tT, tT, tT, tT, fF, fF] #[tT, tT, tT, tT, tT, tT, tT, tT, tT, tT, tT, fF, tT, fF] rfl rfl rfl rfl (by kernel_rfl) (by decide) (by decide) (fun K hK => ?_) (fun K hK => ?_)
               · refine goes_ Tryz.func26 (by kernel_rfl) rfl #[.slice (some ⟨q2.heap.size, 0, none⟩) 2 2] (by rfl) rfl rfl (by simp only [List.map_toArray, List.map_cons, List.map_nil]; rfl) ?_
                 refine (array_calls (some ⟨q2.heap.size, 0, none⟩) 2 2 q3).mono ?_
                 rintro e4 q4 ⟨rfl, ha4⟩
                 refine ⟨_, rfl, ?_⟩
                 have hb4 := hb3.trans (ha4.mono hb3.size)
                 have fr4 := (ha4.block _ (blk_lt fr3)).trans fr3
                 refine hK.out _ _ (S12 q4 hb4) fun hHeld => ?_
                 clear hK K
                 refine norm_ (a' := ?_) ?_ ?_
                 rotate_left
                 · show Act.put _ (some 43) _ = _
                   simp only [Act.put, sA, sZ, sS, i64_w, i32_w]
                   rfl
                 refine one_ (i := 12) (N := some 11) #[tT, tT, tT, tT, tT, tT, tT, tT, tT, tT, tT, tT, tT, fF] rfl rfl (by kernel_rfl) (by decide) (fun K hK => ?_)
                 rw [if_pos (by rfl)]
                 unfold Oper.wp
                 go_simp
                 have ha5 := (Below.refl q4.heap.size q4).alloc (Nat.le_refl _) (.cells #[.int .i64 0, .int .i64 0, .string ⟨#[]⟩, .slice none 0 0, .slice none 0 0] 51 (0, 0))
                 have hb5 := hb4.trans (ha5.mono hb4.size)
                 have fr5 := (ha5.block _ (blk_lt fr4)).trans fr4
                 have fv5 := blk_new q4 (.cells #[.int .i64 0, .int .i64 0, .string ⟨#[]⟩, .slice none 0 0, .slice none 0 0] 51 (0, 0))
                 refine hK.out _ _ (S12 _ hb5) fun hHeld => ?_
                 clear hK K
                 generalize q4.alloc (.cells #[.int .i64 0, .int .i64 0, .string ⟨#[]⟩, .slice none 0 0, .slice none 0 0] 51 (0, 0)) = q5 at *
                 refine norm_ ?_ (HJ (q4.heap.size, q2.heap.size) _ ⟨hb5, fv5, fr5, fun e => by have h1 := fv5; have h2 := fr5; rw [show q4.heap.size = q2.heap.size from e] at h1; rw [h1] at h2; exact absurd h2 (by simp), hb4.size, hb2.size⟩)
                 simp only [putAll, Act.put, sA, sZ, sS]
               · rw [if_pos (by rfl)]
                 unfold Oper.wp
                 go_simp
                 have ha6 := (Below.refl q3.heap.size q3).alloc (Nat.le_refl _) (.cells #[.int .i64 0, .int .i64 0, .string ⟨#[]⟩, .slice none 0 0, .slice none 0 0] 51 (0, 0))
                 have hb6 := hb3.trans (ha6.mono hb3.size)
                 have fr6 := (ha6.block _ (blk_lt fr3)).trans fr3
                 have fv6 := blk_new q3 (.cells #[.int .i64 0, .int .i64 0, .string ⟨#[]⟩, .slice none 0 0, .slice none 0 0] 51 (0, 0))
                 refine hK.out _ _ (S12 _ hb6) fun hHeld => ?_
                 clear hK K
                 generalize q3.alloc (.cells #[.int .i64 0, .int .i64 0, .string ⟨#[]⟩, .slice none 0 0, .slice none 0 0] 51 (0, 0)) = q6 at *
                 refine one_ (i := 11) (N := some 43) #[tT, tT, tT, tT, tT, tT, tT, tT, tT, tT, tT, tT, tT, fF] rfl rfl (by kernel_rfl) (by decide) (fun K hK => ?_)
                 refine goes_ Tryz.func26 (by kernel_rfl) rfl #[.slice (some ⟨q2.heap.size, 0, none⟩) 2 2] (by rfl) rfl rfl (by simp only [List.map_toArray, List.map_cons, List.map_nil]; rfl) ?_
                 refine (array_calls (some ⟨q2.heap.size, 0, none⟩) 2 2 q6).mono ?_
                 rintro e7 q7 ⟨rfl, ha7⟩
                 refine ⟨_, rfl, ?_⟩
                 have hb7 := hb6.trans (ha7.mono hb6.size)
                 have fr7 := (ha7.block _ (blk_lt fr6)).trans fr6
                 have fv7 := (ha7.block _ (blk_lt fv6)).trans fv6
                 refine hK.out _ _ (S12 q7 hb7) fun hHeld => ?_
                 clear hK K
                 refine norm_ (a' := ?_) ?_ ?_
                 rotate_left
                 · show Act.put _ (some 43) _ = _
                   simp only [Act.put, sA, sZ, sS, i64_w, i32_w]
                   rfl
                 refine norm_ ?_ (HJ (q3.heap.size, q2.heap.size) _ ⟨hb7, fv7, fr7, fun e => by have h1 := fv7; have h2 := fr7; rw [show q3.heap.size = q2.heap.size from e] at h1; rw [h1] at h2; exact absurd h2 (by simp), hb3.size, hb2.size⟩)
                 simp only [putAll, Act.put, sA, sZ, sS]
             · rw [if_pos (by rfl)]
               unfold Oper.wp
               go_simp
               have ha8 := (Below.refl q2.heap.size q2).alloc (Nat.le_refl _) (.cells #[.int .i64 0, .int .i64 0, .string ⟨#[]⟩, .slice none 0 0, .slice none 0 0] 51 (0, 0))
               have hb8 := hb2.trans (ha8.mono hb2.size)
               have fv8 := blk_new q2 (.cells #[.int .i64 0, .int .i64 0, .string ⟨#[]⟩, .slice none 0 0, .slice none 0 0] 51 (0, 0))
               refine hK.out _ _ (S12 _ hb8) fun hHeld => ?_
               clear hK K
               generalize q2.alloc (.cells #[.int .i64 0, .int .i64 0, .string ⟨#[]⟩, .slice none 0 0, .slice none 0 0] 51 (0, 0)) = q8 at *
               refine one_ (i := 10) (N := some 42) #[tT, tT, tT, tT, tT, tT, tT, tT, tT, tT, tT, fF, tT, fF] rfl rfl (by kernel_rfl) (by decide) (fun K hK => ?_)
               rw [if_pos (by rfl)]
               unfold Oper.wp
               go_simp
               have ha9 := (Below.refl q8.heap.size q8).alloc (Nat.le_refl _) (.cells #[.int .i64 4, .int .i64 0, .string (letC c.f0), .slice none 0 0, .slice none 0 0, .int .i64 4, .int .i64 0, .string c.f1, .slice none 0 0, .slice none 0 0] 51 (0, 0))
               have hb9 := hb8.trans (ha9.mono hb8.size)
               have fv9 := (ha9.block _ (blk_lt fv8)).trans fv8
               have fr9 := blk_new q8 (.cells #[.int .i64 4, .int .i64 0, .string (letC c.f0), .slice none 0 0, .slice none 0 0, .int .i64 4, .int .i64 0, .string c.f1, .slice none 0 0, .slice none 0 0] 51 (0, 0))
               refine hK.out _ _ (S12 _ hb9) fun hHeld => ?_
               clear hK K
               generalize q8.alloc (.cells #[.int .i64 4, .int .i64 0, .string (letC c.f0), .slice none 0 0, .slice none 0 0, .int .i64 4, .int .i64 0, .string c.f1, .slice none 0 0, .slice none 0 0] 51 (0, 0)) = q9 at *
               refine one_ (i := 11) (N := some 43) #[tT, tT, tT, tT, tT, tT, tT, tT, tT, tT, tT, tT, tT, fF] rfl rfl (by kernel_rfl) (by decide) (fun K hK => ?_)
               refine goes_ Tryz.func26 (by kernel_rfl) rfl #[.slice (some ⟨q8.heap.size, 0, none⟩) 2 2] (by rfl) rfl rfl (by simp only [List.map_toArray, List.map_cons, List.map_nil]; rfl) ?_
               refine (array_calls (some ⟨q8.heap.size, 0, none⟩) 2 2 q9).mono ?_
               rintro e10 q10 ⟨rfl, ha10⟩
               refine ⟨_, rfl, ?_⟩
               have hb10 := hb9.trans (ha10.mono hb9.size)
               have fv10 := (ha10.block _ (blk_lt fv9)).trans fv9
               have fr10 := (ha10.block _ (blk_lt fr9)).trans fr9
               refine hK.out _ _ (S12 q10 hb10) fun hHeld => ?_
               clear hK K
               refine norm_ (a' := ?_) ?_ ?_
               rotate_left
               · show Act.put _ (some 43) _ = _
                 simp only [Act.put, sA, sZ, sS, i64_w, i32_w]
                 rfl
               refine norm_ ?_ (HJ (q2.heap.size, q8.heap.size) _ ⟨hb10, fv10, fr10, fun e => by have h1 := fv10; have h2 := fr10; rw [show q2.heap.size = q8.heap.size from e] at h1; rw [h1] at h2; exact absurd h2 (by simp), hb2.size, hb8.size⟩)
               simp only [putAll, Act.put, sA, sZ, sS]
           · rw [if_pos (by rfl)]
             unfold Oper.wp
             go_simp
             have ha11 := (Below.refl q1.heap.size q1).alloc (Nat.le_refl _) (.cells #[.int .i64 0, .int .i64 0, .string ⟨#[]⟩, .slice none 0 0, .slice none 0 0] 51 (0, 0))
             have hb11 := hb1.trans (ha11.mono hb1.size)
             have fv11 := blk_new q1 (.cells #[.int .i64 0, .int .i64 0, .string ⟨#[]⟩, .slice none 0 0, .slice none 0 0] 51 (0, 0))
             refine hK.out _ _ (S12 _ hb11) fun hHeld => ?_
             clear hK K
             generalize q1.alloc (.cells #[.int .i64 0, .int .i64 0, .string ⟨#[]⟩, .slice none 0 0, .slice none 0 0] 51 (0, 0)) = q11 at *
             refine one_ (i := 9) (N := some 41) #[tT, tT, tT, tT, tT, tT, tT, tT, tT, tT, fF, fF, tT, fF] rfl rfl (by kernel_rfl) (by decide) (fun K hK => ?_)
             refine goes_ Tryz.func27 (by kernel_rfl) rfl #[.string c.f1] (by rfl) rfl rfl (by simp only [List.map_toArray, List.map_cons, List.map_nil]; rfl) ?_
             refine (text_calls c.f1 q11).mono ?_
             rintro e12 q12 ⟨rfl, ha12⟩
             refine ⟨_, rfl, ?_⟩
             have hb12 := hb11.trans (ha12.mono hb11.size)
             have fv12 := (ha12.block _ (blk_lt fv11)).trans fv11
             refine hK.out _ _ (S12 q12 hb12) fun hHeld => ?_
             clear hK K
             refine norm_ (a' := ?_) ?_ ?_
             rotate_left
             · show Act.put _ (some 41) _ = _
               simp only [Act.put, sA, sZ, sS, i64_w, i32_w]
               rfl
             refine one_ (i := 10) (N := some 42) #[tT, tT, tT, tT, tT, tT, tT, tT, tT, tT, tT, fF, tT, fF] rfl rfl (by kernel_rfl) (by decide) (fun K hK => ?_)
             rw [if_pos (by rfl)]
             unfold Oper.wp
             go_simp
             have ha13 := (Below.refl q12.heap.size q12).alloc (Nat.le_refl _) (.cells #[.int .i64 4, .int .i64 0, .string (letC c.f0), .slice none 0 0, .slice none 0 0, .int .i64 4, .int .i64 0, .string c.f1, .slice none 0 0, .slice none 0 0] 51 (0, 0))
             have hb13 := hb12.trans (ha13.mono hb12.size)
             have fv13 := (ha13.block _ (blk_lt fv12)).trans fv12
             have fr13 := blk_new q12 (.cells #[.int .i64 4, .int .i64 0, .string (letC c.f0), .slice none 0 0, .slice none 0 0, .int .i64 4, .int .i64 0, .string c.f1, .slice none 0 0, .slice none 0 0] 51 (0, 0))
             refine hK.out _ _ (S12 _ hb13) fun hHeld => ?_
             clear hK K
             generalize q12.alloc (.cells #[.int .i64 4, .int .i64 0, .string (letC c.f0), .slice none 0 0, .slice none 0 0, .int .i64 4, .int .i64 0, .string c.f1, .slice none 0 0, .slice none 0 0] 51 (0, 0)) = q13 at *
             refine one_ (i := 11) (N := some 43) #[tT, tT, tT, tT, tT, tT, tT, tT, tT, tT, tT, tT, tT, fF] rfl rfl (by kernel_rfl) (by decide) (fun K hK => ?_)
             refine goes_ Tryz.func26 (by kernel_rfl) rfl #[.slice (some ⟨q12.heap.size, 0, none⟩) 2 2] (by rfl) rfl rfl (by simp only [List.map_toArray, List.map_cons, List.map_nil]; rfl) ?_
             refine (array_calls (some ⟨q12.heap.size, 0, none⟩) 2 2 q13).mono ?_
             rintro e14 q14 ⟨rfl, ha14⟩
             refine ⟨_, rfl, ?_⟩
             have hb14 := hb13.trans (ha14.mono hb13.size)
             have fv14 := (ha14.block _ (blk_lt fv13)).trans fv13
             have fr14 := (ha14.block _ (blk_lt fr13)).trans fr13
             refine hK.out _ _ (S12 q14 hb14) fun hHeld => ?_
             clear hK K
             refine norm_ (a' := ?_) ?_ ?_
             rotate_left
             · show Act.put _ (some 43) _ = _
               simp only [Act.put, sA, sZ, sS, i64_w, i32_w]
               rfl
             refine norm_ ?_ (HJ (q1.heap.size, q12.heap.size) _ ⟨hb14, fv14, fr14, fun e => by have h1 := fv14; have h2 := fr14; rw [show q1.heap.size = q12.heap.size from e] at h1; rw [h1] at h2; exact absurd h2 (by simp), hb1.size, hb12.size⟩)
             simp only [putAll, Act.put, sA, sZ, sS]
         · rw [if_pos (by rfl)]
           unfold Oper.wp
           go_simp
           have ha15 := (Below.refl Wd.heap.size Wd).alloc (Nat.le_refl _) (.cells #[.int .i64 0, .int .i64 0, .string ⟨#[]⟩, .slice none 0 0, .slice none 0 0] 51 (0, 0))
           have hb15 := hb0.trans (ha15.mono hb0.size)
           have fv15 := blk_new Wd (.cells #[.int .i64 0, .int .i64 0, .string ⟨#[]⟩, .slice none 0 0, .slice none 0 0] 51 (0, 0))
           refine hK.out _ _ (S12 _ hb15) fun hHeld => ?_
           clear hK K
           generalize Wd.alloc (.cells #[.int .i64 0, .int .i64 0, .string ⟨#[]⟩, .slice none 0 0, .slice none 0 0] 51 (0, 0)) = q15 at *
           refine one_ (i := 6) (N := some 38) #[tT, tT, tT, tT, tT, tT, tT, tT, tT, fF, fF, fF, tT, fF] rfl rfl (by kernel_rfl) (by decide) (fun K hK => ?_)
           refine goes_ Tryz.func27 (by kernel_rfl) rfl #[.string (letC c.f0)] (by rfl) rfl rfl (by simp only [List.map_toArray, List.map_cons, List.map_nil]; rfl) ?_
           refine (text_calls (letC c.f0) q15).mono ?_
           rintro e16 q16 ⟨rfl, ha16⟩
           refine ⟨_, rfl, ?_⟩
           have hb16 := hb15.trans (ha16.mono hb15.size)
           have fv16 := (ha16.block _ (blk_lt fv15)).trans fv15
           refine hK.out _ _ (S12 q16 hb16) fun hHeld => ?_
           clear hK K
           refine norm_ (a' := ?_) ?_ ?_
           rotate_left
           · show Act.put _ (some 38) _ = _
             simp only [Act.put, sA, sZ, sS, i64_w, i32_w]
             rfl
           refine one_ (i := 9) (N := some 41) #[tT, tT, tT, tT, tT, tT, tT, tT, tT, tT, fF, fF, tT, fF] rfl rfl (by kernel_rfl) (by decide) (fun K hK => ?_)
           refine goes_ Tryz.func27 (by kernel_rfl) rfl #[.string c.f1] (by rfl) rfl rfl (by simp only [List.map_toArray, List.map_cons, List.map_nil]; rfl) ?_
           refine (text_calls c.f1 q16).mono ?_
           rintro e17 q17 ⟨rfl, ha17⟩
           refine ⟨_, rfl, ?_⟩
           have hb17 := hb16.trans (ha17.mono hb16.size)
           have fv17 := (ha17.block _ (blk_lt fv16)).trans fv16
           refine hK.out _ _ (S12 q17 hb17) fun hHeld => ?_
           clear hK K
           refine norm_ (a' := ?_) ?_ ?_
           rotate_left
           · show Act.put _ (some 41) _ = _
             simp only [Act.put, sA, sZ, sS, i64_w, i32_w]
             rfl
           refine one_ (i := 10) (N := some 42) #[tT, tT, tT, tT, tT, tT, tT, tT, tT, tT, tT, fF, tT, fF] rfl rfl (by kernel_rfl) (by decide) (fun K hK => ?_)
           rw [if_pos (by rfl)]
           unfold Oper.wp
           go_simp
           have ha18 := (Below.refl q17.heap.size q17).alloc (Nat.le_refl _) (.cells #[.int .i64 4, .int .i64 0, .string (letC c.f0), .slice none 0 0, .slice none 0 0, .int .i64 4, .int .i64 0, .string c.f1, .slice none 0 0, .slice none 0 0] 51 (0, 0))
           have hb18 := hb17.trans (ha18.mono hb17.size)
           have fv18 := (ha18.block _ (blk_lt fv17)).trans fv17
           have fr18 := blk_new q17 (.cells #[.int .i64 4, .int .i64 0, .string (letC c.f0), .slice none 0 0, .slice none 0 0, .int .i64 4, .int .i64 0, .string c.f1, .slice none 0 0, .slice none 0 0] 51 (0, 0))
           refine hK.out _ _ (S12 _ hb18) fun hHeld => ?_
           clear hK K
           generalize q17.alloc (.cells #[.int .i64 4, .int .i64 0, .string (letC c.f0), .slice none 0 0, .slice none 0 0, .int .i64 4, .int .i64 0, .string c.f1, .slice none 0 0, .slice none 0 0] 51 (0, 0)) = q18 at *
           refine one_ (i := 11) (N := some 43) #[tT, tT, tT, tT, tT, tT, tT, tT, tT, tT, tT, tT, tT, fF] rfl rfl (by kernel_rfl) (by decide) (fun K hK => ?_)
           refine goes_ Tryz.func26 (by kernel_rfl) rfl #[.slice (some ⟨q17.heap.size, 0, none⟩) 2 2] (by rfl) rfl rfl (by simp only [List.map_toArray, List.map_cons, List.map_nil]; rfl) ?_
           refine (array_calls (some ⟨q17.heap.size, 0, none⟩) 2 2 q18).mono ?_
           rintro e19 q19 ⟨rfl, ha19⟩
           refine ⟨_, rfl, ?_⟩
           have hb19 := hb18.trans (ha19.mono hb18.size)
           have fv19 := (ha19.block _ (blk_lt fv18)).trans fv18
           have fr19 := (ha19.block _ (blk_lt fr18)).trans fr18
           refine hK.out _ _ (S12 q19 hb19) fun hHeld => ?_
           clear hK K
           refine norm_ (a' := ?_) ?_ ?_
           rotate_left
           · show Act.put _ (some 43) _ = _
             simp only [Act.put, sA, sZ, sS, i64_w, i32_w]
             rfl
           refine norm_ ?_ (HJ (Wd.heap.size, q17.heap.size) _ ⟨hb19, fv19, fr19, fun e => by have h1 := fv19; have h2 := fr19; rw [show Wd.heap.size = q17.heap.size from e] at h1; rw [h1] at h2; exact absurd h2 (by simp), hb0.size, hb17.size⟩)
           simp only [putAll, Act.put, sA, sZ, sS]
       rintro ⟨vb, rb⟩ w4 ⟨hb4, hv4, hr4, hne4, hgv4, hgr4⟩
       refine norm_ (a' := ?_) ?_ ?_
       rotate_left
       · simp only [putAll, Act.put, sA, sZ, sS, i64_w, i32_w]
         rfl
       have hv4' : w4.heap[vb]? = _ := hv4
       have hr4' : w4.heap[rb]? = _ := hr4
       have z0 := blk_cell hv4' 0
       have z1 := blk_cell hv4' 1
       have z2 := blk_cell hv4' 2
       have z3 := blk_cell hv4' 3
       have z4 := blk_cell hv4' 4
       have zf := blk_frozen hv4'
       refine one_ (i := 13) (N := none) #[tT, tT, tT, tT, tT, tT, tT, tT, tT, tT, tT, tT, tT, tT] rfl rfl (by kernel_rfl) (by decide) (fun K hK => ?_)
       rw [if_pos (by rfl)]
       unfold Oper.wp
       go_simp
       have hgv : Wd.heap.size ≤ vb := hgv4
       have hgr : Wd.heap.size ≤ rb := hgr4
       have hne : vb ≠ rb := hne4
       have h5 : (((((w4.setCell ⟨vb, 0, none⟩ (.int .i64 5)).setCell ⟨vb, 1, none⟩ (.int .i64 0)).setCell ⟨vb, 2, none⟩ (.string ⟨#[]⟩)).setCell ⟨vb, 3, none⟩ (.slice (some ⟨rb, 0, none⟩) 2 2)).setCell ⟨vb, 4, none⟩ (.slice none 0 0)) = put5 w4 vb 0 (.int .i64 5) (.int .i64 0) (.string ⟨#[]⟩) (.slice (some ⟨rb, 0, none⟩) 2 2) (.slice none 0 0) := rfl
       rw [h5]
       have HV5 := Aside0.mk (zst hv4' (.int .i64 5) (.int .i64 0) (.string ⟨#[]⟩) (.slice (some ⟨rb, 0, none⟩) 2 2) (.slice none 0 0))
       have HR5 := Aside0.mk ((put5_far (w := w4) (k := 0) (Ne.symm hne) (.int .i64 5) (.int .i64 0) (.string ⟨#[]⟩) (.slice (some ⟨rb, 0, none⟩) 2 2) (.slice none 0 0)).trans hr4')
       have hb5 := hb4.trans (put5_below (k := 0) hgv (.int .i64 5) (.int .i64 0) (.string ⟨#[]⟩) (.slice (some ⟨rb, 0, none⟩) 2 2) (.slice none 0 0))
       refine hK.out _ _ (S12 _ hb5) fun hHeld => ?_
       clear hK K h5 hHeld z0 z1 z2 z3 z4 zf hv4 hv4' hr4 hr4' hb4 hgv4 hgr4 hne4
       have HB5 := Aside0.mk hb5
       clear hb5
       generalize put5 w4 vb 0 (.int .i64 5) (.int .i64 0) (.string ⟨#[]⟩) (.slice (some ⟨rb, 0, none⟩) 2 2) (.slice none 0 0) = w5 at *
       refine done_ (by kernel_rfl) ?_
       have HRL := Aside0.mk (R_row2 (base := Wd.heap.size) (ok := fun k => k ≠ vb) (Ne.symm hne) (txtV (letC c.f0)) (txtV c.f1) hgr HR5.out (Kd.R_nil _ _ _ _ _) (Kd.R_nil _ _ _ _ _) (Kd.R_nil _ _ _ _ _) (Kd.R_nil _ _ _ _ _))
       have HC5 := Aside0.mk ((HB5.out.block _ (blk_lt HVD.out)).trans HVD.out)
       clear HR5 S12 slc hHeld HVD HCV
       have p0 := blk_cell HC5.out 0
       have p2 := blk_cell HC5.out 2
       have p3 := blk_cell HC5.out 3
       have HCW := Aside0.mk (HCD.out.trans (HB5.out.mono (by have := HSD.out; omega)))
       have hv5l := blk_lt HV5.out
       have hc5l := blk_lt HC5.out
       by_cases q4 : c.f0 ≤ 4
       · have HTV := Aside0.mk (show callV c = arrV ([txtV (letC c.f0), txtV c.f1] ++ [numV c.f2]) by unfold callV tailV; rw [if_pos q4])
         go_wp2
         refine start_ (n := 9) (S := fun w' => w'.cell? ⟨vb, 3, none⟩ = some (.slice (some ⟨rb, 0, none⟩) 2 2) ∧ w'.cell? ⟨wr.heap.size, 2, none⟩ = some (.int .i64 c.f2)) (ds := [8]) #[fF, fF, fF, fF, fF, fF, fF, fF, fF] (by kernel_rfl) rfl rfl ⟨blk_cell (w := w5.drew) HV5.out 3, blk_cell (w := w5.drew) HC5.out 2⟩ (fun hHeld => ?_)
         refine pure_ (i := 0) (N := some 47) (v := ?_) (a' := ?_) #[tT, fF, fF, fF, fF, fF, fF, fF, fF] rfl rfl (by kernel_rfl) (fun _ _ _ h => h) (Or.inl ⟨by rfl, ?_⟩) ?_ ?_
         rotate_left
         · intro w'
           go_simp
           with_reducible rfl
         rotate_left
         · simp only [Act.put, sA, sZ, sS, i64_w, i32_w]
           rfl
         refine take_ (i := 1) (N := some 48) (v := ?_) (a' := ?_) #[tT, tT, fF, fF, fF, fF, fF, fF, fF] rfl rfl (by kernel_rfl) (fun _ _ _ h => h) (Or.inl ⟨by rfl, ?_⟩) hHeld ?_ ?_
         rotate_left
         · rintro w' ⟨s0, s1⟩
           go_simp
           with_reducible rfl
         rotate_left
         · simp only [Act.put, sA, sZ, sS, i64_w, i32_w]
           rfl
         refine pure_ (i := 2) (N := some 49) (v := ?_) (a' := ?_) #[tT, tT, tT, fF, fF, fF, fF, fF, fF] rfl rfl (by kernel_rfl) (fun _ _ _ h => h) (Or.inl ⟨by rfl, ?_⟩) ?_ ?_
         rotate_left
         · intro w'
           go_simp
           with_reducible rfl
         rotate_left
         · simp only [Act.put, sA, sZ, sS, i64_w, i32_w]
           rfl
         refine take_ (i := 3) (N := some 50) (v := ?_) (a' := ?_) #[tT, tT, tT, tT, fF, fF, fF, fF, fF] rfl rfl (by kernel_rfl) (fun _ _ _ h => h) (Or.inl ⟨by rfl, ?_⟩) hHeld ?_ ?_
         rotate_left
         · rintro w' ⟨s0, s1⟩
           go_simp
           with_reducible rfl
         rotate_left
         · simp only [Act.put, sA, sZ, sS, i64_w, i32_w]
           rfl
         have S14 : ∀ w', Below w5.drew.heap.size w5.drew w' → w'.cell? ⟨vb, 3, none⟩ = some (.slice (some ⟨rb, 0, none⟩) 2 2) ∧ w'.cell? ⟨wr.heap.size, 2, none⟩ = some (.int .i64 c.f2) := fun w' hb =>
          ⟨blk_cell ((hb.block _ (blk_lt HV5.out)).trans HV5.out) 3, blk_cell ((hb.block _ (blk_lt HC5.out)).trans HC5.out) 2⟩
         refine one_ (i := 4) (N := some 51) #[tT, tT, tT, tT, tT, fF, fF, fF, fF] rfl rfl (by kernel_rfl) (by decide) (fun K hK => ?_)
         refine goes_ Tryz.func28 (by kernel_rfl) rfl #[.int .i64 c.f2] (by rfl) rfl rfl (by simp only [List.map_toArray, List.map_cons, List.map_nil]; rfl) ?_
         refine (number_calls c.f2 w5.drew).mono ?_
         rintro e6 w6 ⟨rfl, hb6⟩
         refine ⟨_, rfl, ?_⟩
         refine hK.out _ _ (S14 w6 hb6) fun hHeld => ?_
         clear hK K
         refine norm_ (a' := ?_) ?_ ?_
         rotate_left
         · show Act.put _ (some 51) _ = _
           simp only [Act.put, sA, sZ, sS, i64_w, i32_w]
           rfl
         refine one_ (i := 5) (N := some 52) #[tT, tT, tT, tT, tT, tT, fF, fF, fF] rfl rfl (by kernel_rfl) (by decide) (fun K hK => ?_)
         rw [if_pos (by rfl)]
         unfold Oper.wp
         go_simp
         have hb7 := hb6.trans (((Below.refl w6.heap.size w6).alloc (Nat.le_refl _) (.cells #[.int .i64 3, .int .i64 c.f2, .string ⟨#[]⟩, .slice none 0 0, .slice none 0 0] 51 (0, 0))).mono hb6.size)
         refine hK.out _ _ (S14 _ hb7) fun hHeld => ?_
         clear hK K
         refine one_ (i := 6) (N := some 53) #[tT, tT, tT, tT, tT, tT, tT, fF, fF] rfl rfl (by kernel_rfl) (by decide) (fun K hK => ?_)
         have hd5 : Below w5.heap.size w5 w5.drew := ⟨rfl, rfl, rfl, Nat.le_refl _, fun _ _ => rfl⟩
         have hb56 : Below w5.heap.size w5 w6 := hd5.trans hb6
         have HR6 := Aside0.mk (Kd.R_below HRL.out hb56)
         have HB6 := Aside0.mk (HB5.out.trans (hb56.mono HB5.out.size))
         have HV6 := Aside0.mk ((hb56.block _ (blk_lt HV5.out)).trans HV5.out)
         have HC6 := Aside0.mk ((hb56.block _ (blk_lt HC5.out)).trans HC5.out)
         clear hb7 hHeld hd5 hb56 hb6 S14
         refine Kd.R_append_step k51 (w0 := Wd) Wd.heap.size (by rfl) (.tmp 48) (.tmp 52) 48 51 (.agg #[.int .i64 0, .int .i64 0, .string ⟨#[]⟩, .slice none 0 0, .slice none 0 0]) 80 rfl Tryz.underlying48 infoVal3 rfl (by decide) (by omega) (.slice (some ⟨rb, 0, none⟩) 2 2) [txtV (letC c.f0), txtV c.f1] (numV c.f2) [.int .i64 3, .int .i64 c.f2, .string ⟨#[]⟩, .slice none 0 0, .slice none 0 0] (fun k => k ≠ vb) (fun _ => False) rfl rfl (k51_mkM _ _ _ (numV c.f2) (Kd.R_nil _ _ _ _ _) (Kd.R_nil _ _ _ _ _)) (fun _ hk => hk.elim) (fun k hk => by have := blk_lt HV6.out; omega) HR6.out HB6.out HB6.out.size (by simp) ?_
         intro v1 w8 hr8 hb8 hg8 hat8
         have hv8 := (hg8.block vb (blk_lt HV6.out) (fun e => hne (Option.some.inj e))).trans HV6.out
         have hc8 := (hg8.block wr.heap.size (blk_lt HC6.out) (fun e => by have := HSD.out; have e' : wr.heap.size = rb := Option.some.inj e; omega)).trans HC6.out
         obtain ⟨A8, c8, e8⟩ := Kd.R_slice hr8
         have e8' : v1 = .slice A8 3 c8 := e8
         subst e8'
         clear e8
         refine hK.out _ _ ⟨blk_cell hv8 3, blk_cell hc8 2⟩ fun hHeld => ?_
         clear hK K
         refine norm_ (a' := ?_) ?_ ?_
         rotate_left
         · show Act.put _ (some 53) _ = _
           simp only [Act.put, sA, sZ, sS, i64_w, i32_w]
           rfl
         refine pure_ (i := 7) (N := some 54) (v := ?_) (a' := ?_) #[tT, tT, tT, tT, tT, tT, tT, tT, fF] rfl rfl (by kernel_rfl) (fun _ _ _ h => h) (Or.inl ⟨by rfl, ?_⟩) ?_ ?_
         rotate_left
         · intro w'
           go_simp
           with_reducible rfl
         rotate_left
         · simp only [Act.put, sA, sZ, sS, i64_w, i32_w]
           rfl
         refine last_ (i := 8) (N := none) #[tT, tT, tT, tT, tT, tT, tT, tT, tT] rfl rfl (by kernel_rfl) (by decide) (fun K hK => ?_)
         rw [if_pos (by rfl)]
         unfold Oper.wp
         have y3 := blk_cell hv8 3
         have yf := blk_frozen hv8
         go_simp
         refine hK.out _ _ ?_
         clear hK K y3 yf hHeld
         refine done_ (by kernel_rfl) ?_
         have HV9 := Aside0.mk (show (w8.setCell ⟨vb, 3, none⟩ (.slice A8 3 c8)).heap[vb]? = some (.cells #[.int .i64 5, .int .i64 0, .string ⟨#[]⟩, .slice A8 3 c8, .slice none 0 0] 51 (0, 0)) from Tr.blk_set hv8 3 _)
         have HRV := Aside0.mk (show k51.R 51 (w8.setCell ⟨vb, 3, none⟩ (.slice A8 3 c8)) W7.heap.size (fun k => wr.heap.size ≤ k) (.slice A8 3 c8) (callV c).f3 by
          rw [HTV.out]
          exact Kd.R_lower (Kd.R_mono (Kd.R_bound (Kd.R_move hr8 (fun k hk => Below.heap_setCell w8 ⟨vb, 3, none⟩ _ k hk))) (fun k hk => by have := hk.2.1; have := HSD.out; omega)) (by have := HSD.out; omega))
         have HCW9 := Aside0.mk (HCD.out.trans ((hb8.setCell (p := ⟨vb, 3, none⟩) hgv (.slice A8 3 c8)).mono (by have := HSD.out; omega)))
         have hc9 := (Below.heap_setCell w8 ⟨vb, 3, none⟩ (.slice A8 3 c8) wr.heap.size (by have := HSD.out; intro e; have e' : wr.heap.size = vb := e; omega)).trans hc8
         clear hr8 hb8 hg8 hat8 hv8 hc8 hc9 p0 p2 p3
         generalize w8.setCell ⟨vb, 3, none⟩ (.slice A8 3 c8) = w9 at *
         have HOB := Aside0.mk (fun k (hk : u8.ownBlock = some k) => ((Kd.R_bound HRW.out).1 k hk).2.2.1)
         have z0 := blk_cell HV9.out 0
         have z1 := blk_cell HV9.out 1
         have z2 := blk_cell HV9.out 2
         have z3 := blk_cell HV9.out 3
         have z4 := blk_cell HV9.out 4
         have HU := Aside0.mk (Kd.R_below HRW.out HCW9.out)
         have HWW := Aside0.mk (HBW.out.trans (HCW9.out.mono HBW.out.size))
         have hj16 : j ≤ 16 := by omega
         go_wp2_with (first | (with_reducible refine gate_builtin (b := .append) (xs := #[.tmp 64, .tmp 66]) rfl ?_); at_builtin; refine Kd.R_append k51 (w0 := W7) W7.heap.size rfl (.tmp 64) (.tmp 66) 48 51 (.agg #[.int .i64 0, .int .i64 0, .string ⟨#[]⟩, .slice none 0 0, .slice none 0 0]) 80 rfl Tryz.underlying48 infoVal3 rfl (by decide) (by omega) u8 ((e.f2.take j).map callV) (callV c) [.int .i64 5, .int .i64 0, .string ⟨#[]⟩, .slice A8 3 c8, .slice none 0 0] (fun _ => True) (fun k => wr.heap.size ≤ k) rfl (by first | (go_simp; done) | (go_simp; rfl)) ?aP ?aK (fun _ _ => trivial) ?aO ?aB ?aS ?aL ?_; (case aP => exact k51_mkM _ _ _ (callV c) HRV.out (Kd.R_nil _ _ _ _ _)); (case aK => exact fun k hk => ⟨trivial, fun e => by have := HOB.out k e.symm; omega⟩); (case aO => exact HU.out); (case aB => exact HWW.out); (case aS => exact HWW.out.size); (case aL => rw [List.length_map, List.length_take]; omega); intro v1 w1 ho hb1 hg hat; rw [← HTJ.out] at ho; have HO1 := Aside0.mk ho; have HB1 := Aside0.mk hb1; clear ho hb1 hg hat)
         go_roundg j1
         case measure => omega
         case rel => exact ⟨j + 1, by have := HJ.out; omega, by go_num, HB1.out.size, HB1, HO1⟩
       · cases hg3 : c.f3 with
         | false =>
          have HTV := Aside0.mk (show callV c = arrV [txtV (letC c.f0), txtV c.f1] by unfold callV tailV; rw [if_neg q4, hg3]; rfl)
          rw [hg3] at p3
          have HRV := Aside0.mk (show k51.R 51 w5 W7.heap.size (fun k => wr.heap.size ≤ k) (.slice (some ⟨rb, 0, none⟩) 2 2) (callV c).f3 by
           rw [HTV.out]
           exact Kd.R_lower (Kd.R_mono (Kd.R_bound HRL.out) (fun k hk => by have := hk.2.1; have := HSD.out; omega)) (by have := HSD.out; omega))
          have HOB := Aside0.mk (fun k (hk : u8.ownBlock = some k) => ((Kd.R_bound HRW.out).1 k hk).2.2.1)
          have z0 := blk_cell HV5.out 0
          have z1 := blk_cell HV5.out 1
          have z2 := blk_cell HV5.out 2
          have z3 := blk_cell HV5.out 3
          have z4 := blk_cell HV5.out 4
          have HU := Aside0.mk (Kd.R_below HRW.out HCW.out)
          have HWW := Aside0.mk (HBW.out.trans (HCW.out.mono HBW.out.size))
          have hj16 : j ≤ 16 := by omega
          go_wp2_with (first | (with_reducible refine gate_builtin (b := .append) (xs := #[.tmp 64, .tmp 66]) rfl ?_); at_builtin; refine Kd.R_append k51 (w0 := W7) W7.heap.size rfl (.tmp 64) (.tmp 66) 48 51 (.agg #[.int .i64 0, .int .i64 0, .string ⟨#[]⟩, .slice none 0 0, .slice none 0 0]) 80 rfl Tryz.underlying48 infoVal3 rfl (by decide) (by omega) u8 ((e.f2.take j).map callV) (callV c) [.int .i64 5, .int .i64 0, .string ⟨#[]⟩, .slice (some ⟨rb, 0, none⟩) 2 2, .slice none 0 0] (fun _ => True) (fun k => wr.heap.size ≤ k) rfl (by first | (go_simp; done) | (go_simp; rfl)) ?aP ?aK (fun _ _ => trivial) ?aO ?aB ?aS ?aL ?_; (case aP => exact k51_mkM _ _ _ (callV c) HRV.out (Kd.R_nil _ _ _ _ _)); (case aK => exact fun k hk => ⟨trivial, fun e => by have := HOB.out k e.symm; omega⟩); (case aO => exact HU.out); (case aB => exact HWW.out); (case aS => exact HWW.out.size); (case aL => rw [List.length_map, List.length_take]; omega); intro v1 w1 ho hb1 hg hat; rw [← HTJ.out] at ho; have HO1 := Aside0.mk ho; have HB1 := Aside0.mk hb1; clear ho hb1 hg hat)
          go_roundg j1
          case measure => omega
          case rel => exact ⟨j + 1, by have := HJ.out; omega, by go_num, HB1.out.size, HB1, HO1⟩
         | true =>
          have HTV := Aside0.mk (show callV c = arrV ([txtV (letC c.f0), txtV c.f1] ++ [gotV c]) by unfold callV tailV; rw [if_neg q4, if_pos hg3])
          rw [hg3] at p3
          go_wp2
          refine start_ (n := 8) (S := (fun w' => w'.cell? ⟨vb, 3, none⟩ = some (.slice (some ⟨rb, 0, none⟩) 2 2) ∧ w'.cell? ⟨wr.heap.size, 0, none⟩ = some (.int .i64 c.f0) ∧ w'.cell? ⟨wr.heap.size, 1, none⟩ = some (.string c.f1) ∧ w'.cell? ⟨wr.heap.size, 2, none⟩ = some (.int .i64 c.f2) ∧ w'.cell? ⟨wr.heap.size, 3, none⟩ = some (.bool c.f3) ∧ w'.cell? ⟨wr.heap.size, 4, none⟩ = some (.slice A4 c.f4.length c4))) (ds := [7]) #[fF, fF, fF, fF, fF, fF, fF, fF] (by kernel_rfl) rfl rfl ⟨blk_cell (w := w5.drew) HV5.out 3, blk_cell (w := w5.drew) HC5.out 0, blk_cell (w := w5.drew) HC5.out 1, blk_cell (w := w5.drew) HC5.out 2, blk_cell (w := w5.drew) HC5.out 3, blk_cell (w := w5.drew) HC5.out 4⟩ (fun hHeld => ?_)
          refine pure_ (i := 0) (N := some 57) (v := ?_) (a' := ?_) #[tT, fF, fF, fF, fF, fF, fF, fF] rfl rfl (by kernel_rfl) (fun _ _ _ h => h) (Or.inl ⟨by rfl, ?_⟩) ?_ ?_
          rotate_left
          · intro w'
            go_simp
            with_reducible rfl
          rotate_left
          · simp only [Act.put, sA, sZ, sS, i64_w, i32_w]
            rfl
          refine take_ (i := 1) (N := some 58) (v := ?_) (a' := ?_) #[tT, tT, fF, fF, fF, fF, fF, fF] rfl rfl (by kernel_rfl) (fun _ _ _ h => h) (Or.inl ⟨by rfl, ?_⟩) hHeld ?_ ?_
          rotate_left
          · rintro w' ⟨s0, s1, s2, s3, s4, s5⟩
            go_simp
            with_reducible rfl
          rotate_left
          · simp only [Act.put, sA, sZ, sS, i64_w, i32_w]
            rfl
          refine take_ (i := 2) (N := some 59) (v := ?_) (a' := ?_) #[tT, tT, tT, fF, fF, fF, fF, fF] rfl rfl (by kernel_rfl) (fun _ _ _ h => h) (Or.inl ⟨by rfl, ?_⟩) hHeld ?_ ?_
          rotate_left
          · rintro w' ⟨s0, s1, s2, s3, s4, s5⟩
            go_simp
            with_reducible rfl
          rotate_left
          · simp only [Act.put, sA, sZ, sS, i64_w, i32_w]
            rfl
          have S16 : ∀ w', Below w5.drew.heap.size w5.drew w' → (fun w' => w'.cell? ⟨vb, 3, none⟩ = some (.slice (some ⟨rb, 0, none⟩) 2 2) ∧ w'.cell? ⟨wr.heap.size, 0, none⟩ = some (.int .i64 c.f0) ∧ w'.cell? ⟨wr.heap.size, 1, none⟩ = some (.string c.f1) ∧ w'.cell? ⟨wr.heap.size, 2, none⟩ = some (.int .i64 c.f2) ∧ w'.cell? ⟨wr.heap.size, 3, none⟩ = some (.bool c.f3) ∧ w'.cell? ⟨wr.heap.size, 4, none⟩ = some (.slice A4 c.f4.length c4)) w' := fun w' hb =>
           have q1 := (hb.block _ (blk_lt HV5.out)).trans HV5.out
           have q2 := (hb.block _ (blk_lt HC5.out)).trans HC5.out
           ⟨blk_cell q1 3, blk_cell q2 0, blk_cell q2 1, blk_cell q2 2, blk_cell q2 3, blk_cell q2 4⟩
          have HC4 := Aside0.mk (And.intro HG4.out.1 (Kd.C_below HG4.out.2 (HCW.out.trans (⟨rfl, rfl, rfl, Nat.le_refl _, fun _ _ => rfl⟩ : Below wr.heap.size w5 w5.drew))))
          refine one_ (i := 3) (N := some 60) #[tT, tT, tT, tT, fF, fF, fF, fF] rfl rfl (by kernel_rfl) (by decide) (fun K hK => ?_)
          have HGT := got_calls c A4 c4 w5.drew (by have := HSL.out.2.1; omega) HC4.out.1 HC4.out.2
          unfold cArg at HGT
          rw [hg3] at HGT
          refine goes_ Tryz.func29 (by kernel_rfl) rfl #[.agg #[.int .i64 c.f0, .string c.f1, .int .i64 c.f2, .bool true, .slice A4 c.f4.length c4]] (by rfl) rfl rfl (by simp only [List.map_toArray, List.map_cons, List.map_nil]; rfl) ?_
          refine HGT.mono ?_
          clear HGT
          rintro e6 w6 ⟨hb6, v6, rfl, hr6⟩
          obtain ⟨A6, c6, rfl⟩ := Kd.R_slice hr6
          refine ⟨_, rfl, ?_⟩
          refine hK.out _ _ (S16 w6 hb6) fun hHeld => ?_
          clear hK K
          refine norm_ (a' := ?_) ?_ ?_
          rotate_left
          · show Act.put _ (some 60) _ = _
            simp only [Act.put, sA, sZ, sS, i64_w, i32_w]
            rfl
          refine one_ (i := 4) (N := some 61) #[tT, tT, tT, tT, tT, fF, fF, fF] rfl rfl (by kernel_rfl) (by decide) (fun K hK => ?_)
          rw [if_pos (by rfl)]
          unfold Oper.wp
          go_simp
          have hb7 := hb6.trans (((Below.refl w6.heap.size w6).alloc (Nat.le_refl _) (.cells #[.int .i64 (gotV c).f0, .int .i64 (gotV c).f1, .string (gotV c).f2, .slice A6 (gotV c).f3.length c6, .slice none 0 0] 51 (0, 0))).mono hb6.size)
          refine hK.out _ _ (S16 _ hb7) fun hHeld => ?_
          clear hK K
          refine one_ (i := 5) (N := some 62) #[tT, tT, tT, tT, tT, tT, fF, fF] rfl rfl (by kernel_rfl) (by decide) (fun K hK => ?_)
          have hd5 : Below w5.heap.size w5 w5.drew := ⟨rfl, rfl, rfl, Nat.le_refl _, fun _ _ => rfl⟩
          have hb56 : Below w5.heap.size w5 w6 := hd5.trans hb6
          have HR6 := Aside0.mk (Kd.R_below HRL.out hb56)
          have HB6 := Aside0.mk (HB5.out.trans (hb56.mono HB5.out.size))
          have HV6 := Aside0.mk ((hb56.block _ (blk_lt HV5.out)).trans HV5.out)
          have HC6 := Aside0.mk ((hb56.block _ (blk_lt HC5.out)).trans HC5.out)
          have hrbl : rb < w5.heap.size := ((Kd.R_bound HRL.out).1 rb rfl).2.2.1
          have HM6 := Aside0.mk (k51_mkM w6 Wd.heap.size (fun k => w5.heap.size ≤ k) (gotV c) (Kd.R_lower (Kd.R_mono (Kd.R_bound hr6) (fun k hk => hk.2.1)) HB5.out.size) (by rw [gotV_f4]; exact Kd.R_nil _ _ _ _ _))
          clear hb7 hHeld hd5 hb56 hb6 S16 hr6
          refine Kd.R_append_step k51 (w0 := Wd) Wd.heap.size (by rfl) (.tmp 58) (.tmp 61) 48 51 (.agg #[.int .i64 0, .int .i64 0, .string ⟨#[]⟩, .slice none 0 0, .slice none 0 0]) 80 rfl Tryz.underlying48 infoVal3 rfl (by decide) (by omega) (.slice (some ⟨rb, 0, none⟩) 2 2) [txtV (letC c.f0), txtV c.f1] (gotV c) [.int .i64 (gotV c).f0, .int .i64 (gotV c).f1, .string (gotV c).f2, .slice A6 (gotV c).f3.length c6, .slice none 0 0] (fun k => k ≠ vb) (fun k => w5.heap.size ≤ k) rfl rfl HM6.out (fun k hk => ⟨fun e => by omega, fun e => by have e' : k = rb := Option.some.inj e; omega⟩) (fun k hk => by have := blk_lt HV6.out; omega) HR6.out HB6.out HB6.out.size (by simp) ?_
          intro v1 w8 hr8 hb8 hg8 hat8
          have hv8 := (hg8.block vb (blk_lt HV6.out) (fun e => hne (Option.some.inj e))).trans HV6.out
          have hc8 := (hg8.block wr.heap.size (blk_lt HC6.out) (fun e => by have := HSD.out; have e' : wr.heap.size = rb := Option.some.inj e; omega)).trans HC6.out
          obtain ⟨A8, c8, e8⟩ := Kd.R_slice hr8
          have e8' : v1 = .slice A8 3 c8 := e8
          subst e8'
          clear e8
          refine hK.out _ _ ⟨blk_cell hv8 3, blk_cell hc8 0, blk_cell hc8 1, blk_cell hc8 2, blk_cell hc8 3, blk_cell hc8 4⟩ fun hHeld => ?_
          clear hK K
          refine norm_ (a' := ?_) ?_ ?_
          rotate_left
          · show Act.put _ (some 62) _ = _
            simp only [Act.put, sA, sZ, sS, i64_w, i32_w]
            rfl
          refine pure_ (i := 6) (N := some 63) (v := ?_) (a' := ?_) #[tT, tT, tT, tT, tT, tT, tT, fF] rfl rfl (by kernel_rfl) (fun _ _ _ h => h) (Or.inl ⟨by rfl, ?_⟩) ?_ ?_
          rotate_left
          · intro w'
            go_simp
            with_reducible rfl
          rotate_left
          · simp only [Act.put, sA, sZ, sS, i64_w, i32_w]
            rfl
          refine last_ (i := 7) (N := none) #[tT, tT, tT, tT, tT, tT, tT, tT] rfl rfl (by kernel_rfl) (by decide) (fun K hK => ?_)
          rw [if_pos (by rfl)]
          unfold Oper.wp
          have y3 := blk_cell hv8 3
          have yf := blk_frozen hv8
          go_simp
          refine hK.out _ _ ?_
          clear hK K y3 yf hHeld
          refine done_ (by kernel_rfl) ?_
          have HV9 := Aside0.mk (show (w8.setCell ⟨vb, 3, none⟩ (.slice A8 3 c8)).heap[vb]? = some (.cells #[.int .i64 5, .int .i64 0, .string ⟨#[]⟩, .slice A8 3 c8, .slice none 0 0] 51 (0, 0)) from Tr.blk_set hv8 3 _)
          have HRV := Aside0.mk (show k51.R 51 (w8.setCell ⟨vb, 3, none⟩ (.slice A8 3 c8)) W7.heap.size (fun k => wr.heap.size ≤ k) (.slice A8 3 c8) (callV c).f3 by
           rw [HTV.out]
           exact Kd.R_lower (Kd.R_mono (Kd.R_bound (Kd.R_move hr8 (fun k hk => Below.heap_setCell w8 ⟨vb, 3, none⟩ _ k hk))) (fun k hk => by have := hk.2.1; have := HSD.out; omega)) (by have := HSD.out; omega))
          have HCW9 := Aside0.mk (HCD.out.trans ((hb8.setCell (p := ⟨vb, 3, none⟩) hgv (.slice A8 3 c8)).mono (by have := HSD.out; omega)))
          have hc9 := (Below.heap_setCell w8 ⟨vb, 3, none⟩ (.slice A8 3 c8) wr.heap.size (by have := HSD.out; intro e; have e' : wr.heap.size = vb := e; omega)).trans hc8
          clear hr8 hb8 hg8 hat8 hv8 hc8 hc9 p0 p2 p3
          generalize w8.setCell ⟨vb, 3, none⟩ (.slice A8 3 c8) = w9 at *
          have HOB := Aside0.mk (fun k (hk : u8.ownBlock = some k) => ((Kd.R_bound HRW.out).1 k hk).2.2.1)
          have z0 := blk_cell HV9.out 0
          have z1 := blk_cell HV9.out 1
          have z2 := blk_cell HV9.out 2
          have z3 := blk_cell HV9.out 3
          have z4 := blk_cell HV9.out 4
          have HU := Aside0.mk (Kd.R_below HRW.out HCW9.out)
          have HWW := Aside0.mk (HBW.out.trans (HCW9.out.mono HBW.out.size))
          have hj16 : j ≤ 16 := by omega
          go_wp2_with (first | (with_reducible refine gate_builtin (b := .append) (xs := #[.tmp 64, .tmp 66]) rfl ?_); at_builtin; refine Kd.R_append k51 (w0 := W7) W7.heap.size rfl (.tmp 64) (.tmp 66) 48 51 (.agg #[.int .i64 0, .int .i64 0, .string ⟨#[]⟩, .slice none 0 0, .slice none 0 0]) 80 rfl Tryz.underlying48 infoVal3 rfl (by decide) (by omega) u8 ((e.f2.take j).map callV) (callV c) [.int .i64 5, .int .i64 0, .string ⟨#[]⟩, .slice A8 3 c8, .slice none 0 0] (fun _ => True) (fun k => wr.heap.size ≤ k) rfl (by first | (go_simp; done) | (go_simp; rfl)) ?aP ?aK (fun _ _ => trivial) ?aO ?aB ?aS ?aL ?_; (case aP => exact k51_mkM _ _ _ (callV c) HRV.out (Kd.R_nil _ _ _ _ _)); (case aK => exact fun k hk => ⟨trivial, fun e => by have := HOB.out k e.symm; omega⟩); (case aO => exact HU.out); (case aB => exact HWW.out); (case aS => exact HWW.out.size); (case aL => rw [List.length_map, List.length_take]; omega); intro v1 w1 ho hb1 hg hat; rw [← HTJ.out] at ho; have HO1 := Aside0.mk ho; have HB1 := Aside0.mk hb1; clear ho hb1 hg hat)
          go_roundg j1
          case measure => omega
          case rel => exact ⟨j + 1, by have := HJ.out; omega, by go_num, HB1.out.size, HB1, HO1⟩
 · have HE := Aside0.mk (show res = ([], 1) by rw [HR.out, if_neg (by decide)])
   go_wp2
   go_ret2
   rw [HE.out]
   exact ⟨rfl, HB1.out⟩
end Go.Proofs.YtamcicojockhpaaGreatDoor.Wi
end
section
set_option linter.unusedVariables false
set_option linter.unusedSimpArgs false
namespace Go.Proofs.YtamcicojockhpaaGreatDoor.Wi
open Go.RowKit Go.Proofs.YtamcicojockhpaaGreatDoorW.PrintWords Go.Proofs.YtamcicojockhpaaGreatDoorW.PrintLast Go.Proofs.YtamcicojockhpaaGreatDoorW.PrintMore
open Go.Proofs.YtamcicojockhpaaGreatDoor.Lx Go.Proofs.YtamcicojockhpaaGreatDoor.PS Go.Proofs.YtamcicojockhpaaGreatDoor.Tr
def valsR (k : Int) (v : V) : List Int × Bool :=
 if k = 6 ∨ k = 7 then (if v.f3.all (fun x => decide (x.f0 = 3)) = true then (v.f3.map (·.f1), decide (v.f0 = 5)) else ([], false))
 else if v.f0 = 3 then ([v.f1], true) else if v.f0 = 1 then ([], decide (k = 5)) else ([], false)
def ValsQ (r : List Int × Bool) (w : World) (e : Ending) (w' : World) : Prop :=
 Below w.heap.size w w' ∧ ∃ v4, e = .returned (.tuple #[v4, .bool r.2]) ∧ (Kd.int .i64).R 2 w' w.heap.size (fun _ => True) v4 r.1
theorem infoI64 : (Tryz.prog.info? 2).map (fun i => (i.zero, i.size, i.bytes)) = some (some (.int .i64 0), 1, 8) := by kernel_rfl
section
variable {ops : Array Oper} {rest : List Oper} {o : Oper} {a : Act} {Q : Exit → Act → World → Prop}
theorem R_append_i64 {w0 W : World} (base : Nat) (hgd : o.guard = none) (s x : Operand)
 (ho : o.op = .call { callee := .builtin .append, args := #[s, x], argTypes := #[41, 41] }) (v : Value) (xs : List Int) (p : Int) (hs : a.eval s = v) (hx : a.eval x = .slice (some ⟨W.heap.size, 0, none⟩) 1 1)
 (HO : (Kd.int .i64).R 2 W base (fun _ => True) v xs) (HB : Below base w0 W) (hbase : base ≤ W.heap.size) (hl : xs.length ≤ 1000000000000)
 (h : ∀ v1 w1, (Kd.int .i64).R 2 w1 base (fun _ => True) v1 (xs ++ [p]) → Below base w0 w1 → wpList Tryz.prog ops Q rest (a.put o.dst v1) w1) :
 wpList Tryz.prog ops Q (o :: rest) a (W.alloc (.cells #[.int .i64 p] 2 (0, 0))) :=
 Kd.R_append (Kd.int .i64) (w0 := w0) base hgd s x 41 2 (.int .i64 0) 8 ho Tryz.underlying41 infoI64 rfl (by decide) (by decide) v xs p [.int .i64 p] (fun _ => True) (fun _ => False) hs hx rfl (fun _ hk => hk.elim) (fun _ _ => trivial) HO HB hbase (by omega) (fun v1 w1 h1 h2 _ _ => h v1 w1 h1 h2)
end
theorem R_one_i64 (w : World) (x : Int) {base : Nat} (hb : base ≤ w.heap.size) : (Kd.int .i64).R 2 (w.alloc (.cells #[.int .i64 x] 2 (0, 0))) base (fun _ => True) (.slice (some ⟨w.heap.size, 0, none⟩) 1 1) [x] :=
 ⟨fun _ _ => trivial, [.int .i64 x], ⟨rfl, .inr ⟨w.heap.size, 1, _, rfl, hb, blk_new w _, Nat.le_refl _, by decide, rfl, rfl⟩⟩, Reps.one rfl (Reps.none _ _)⟩
set_option maxRecDepth 100000 in
set_option maxHeartbeats 4000000 in
theorem vals_calls (k : Int) (v : V) (A3 : Option Addr) (c3 : Nat) (A4 : Option Addr) (c4 : Nat) (w : World) (hl : v.f3.length ≤ 1000000000000) (g3 : k51.C w A3 v.f3.length v.f3) :
 Calls Tryz.prog 92 #[.int .i64 k, vArg v A3 c3 A4 c4] w (ValsQ (valsR k v) w) := by
 have HG := Aside0.mk g3
 have nv := blk_new w (.cells #[.int .i64 v.f0, .int .i64 v.f1, .string v.f2, .slice A3 v.f3.length c3, .slice A4 v.f4.length c4] 51 (0, 0))
 have HB0 := Aside0.mk ((Below.refl w.heap.size w).alloc (Nat.le_refl _) (.cells #[.int .i64 v.f0, .int .i64 v.f1, .string v.f2, .slice A3 v.f3.length c3, .slice A4 v.f4.length c4] 51 (0, 0)))
 have HR := Aside0.mk (show valsR k v = if k = 6 ∨ k = 7 then (if v.f3.all (fun x => decide (x.f0 = 3)) = true then (v.f3.map (·.f1), decide (v.f0 = 5)) else ([], false))
  else if v.f0 = 3 then ([v.f1], true) else if v.f0 = 1 then ([], decide (k = 5)) else ([], false) from rfl)
 generalize valsR k v = res at *
 unfold vArg
 have NV := Aside0.mk nv
 clear g3 nv
 have hk41 : Tryz.prog.underlying 41 = some (.slice 2) := Tryz.underlying41
 have z0 := blk_cell NV.out 0
 have z1 := blk_cell NV.out 1
 have z3 := blk_cell NV.out 3
 by_cases h67 : k = 6 ∨ k = 7
 · have HE := Aside0.mk (show res = (if v.f3.all (fun x => decide (x.f0 = 3)) = true then (v.f3.map (·.f1), decide (v.f0 = 5)) else ([], false)) by rw [HR.out, if_pos h67])
   clear HR
   have HL := Aside0.mk hl
   have hlI : (v.f3.length : Int) ≤ 1000000000000 := by omega
   clear hl
   obtain ⟨b6, b7, e6, e7, eb⟩ : ∃ b6 b7, (k == 6) = b6 ∧ (k == 7) = b7 ∧ (b6 = true ∨ (b6 = false ∧ b7 = true)) := by
    refine ⟨_, _, rfl, rfl, ?_⟩
    rcases h67 with h | h
    · exact .inl (by simp [h])
    · exact .inr (by simp [h])
   clear h67
   rcases eb with rfl | ⟨rfl, rfl⟩
   all_goals
    go_enter Tryz.func92, Tryz.ntmps92
    go_wp2
    generalize w.alloc (.cells #[.int .i64 v.f0, .int .i64 v.f1, .string v.f2, .slice A3 v.f3.length c3, .slice A4 v.f4.length c4] 51 (0, 0)) = W2 at *
    go_loopg [6, 8, 18] v.f3.length (fun kq v6 v8 v18 w2 => ∃ k : Nat, k + kq = v.f3.length ∧ v18 = .int .i64 k ∧ W2.heap.size ≤ w2.heap.size ∧ Aside0 (Below W2.heap.size W2 w2) ∧ Aside0 ((Kd.int .i64).R 2 w2 W2.heap.size (fun _ => True) v6 ((v.f3.take k).map (·.f1))) ∧ Aside0 (∀ x ∈ v.f3.take k, x.f0 = 3))
    case atStart => exact ⟨0, by omega, rfl, Nat.le_refl _, Aside0.mk (Below.refl _ _), Aside0.mk (Kd.R_nil _ _ _ _ _), Aside0.mk (by simp)⟩
    case round =>
     obtain ⟨k, hk, rfl, hsr, HBW, HRW, HAL⟩ := hrel
     have HWW := Aside0.mk (HB0.out.trans (HBW.out.mono HB0.out.size))
     cases gk with
     | zero =>
      have hge : ¬ ((k : Nat) : Int) < (v.f3.length : Int) := by omega
      have HT := Aside0.mk (show v.f3.take k = v.f3 from List.take_of_length_le (by omega))
      rw [HT.out] at HRW HAL
      clear HT
      have hr := (HBW.out.block _ (blk_lt NV.out)).trans NV.out
      have y0 := blk_cell hr 0
      clear hr
      have HE2 := Aside0.mk (show res = (v.f3.map (·.f1), decide (v.f0 = 5)) by rw [HE.out, if_pos (List.all_eq_true.2 fun x hx => decide_eq_true (HAL.out x hx))])
      go_wp2
      go_quiet (fail)
      go_wp2
      go_ret2
      rw [HE2.out]
      exact ⟨pw_below_drewN HWW.out _, _, by rw [show decide (v.f0 = 5) = (v.f0 == 5) by by_cases h : v.f0 = 5 <;> simp [h]]; rfl, Kd.R_lower (Kd.R_drewN HRW.out _) HB0.out.size⟩
     | succ k1 =>
      have hlt : ((k : Nat) : Int) < (v.f3.length : Int) := by omega
      have hlt' : k < v.f3.length := by omega
      obtain ⟨ad, B3, e3, B4, e4, e, r0, r1, r2, r3, r4, m3, g3, m4, g4⟩ := at_T51 (Kd.C_below HG.out HWW.out) k (by omega) hlt
      cases e
      have hrd : rd_T51 v.f3 k = v.f3[k] := by simp [rd_T51, List.getD, List.getElem?_eq_getElem hlt']
      rw [hrd] at r0 r1 r2 r3 r4 m3 g3 m4 g4
      rw [Int.toNat_natCast] at r0 r1 r2 r3 r4
      have HSN := Aside0.mk (show (v.f3.take k).map (·.f1) ++ [v.f3[k].f1] = (v.f3.take (k + 1)).map (·.f1) by
       rw [List.take_add_one, List.map_append, List.getElem?_eq_getElem hlt']
       rfl)
      have HTK := Aside0.mk (show v.f3.take (k + 1) = v.f3.take k ++ [v.f3[k]] from List.take_succ_eq_append_getElem hlt')
      have HM := Aside0.mk (List.getElem_mem hlt')
      clear hrd m3 g3 m4 g4
      generalize v.f3[k] = x at *
      have hb3 := (Below.refl wr.heap.size wr).alloc (Nat.le_refl _) (.cells #[.int .i64 x.f0, .int .i64 x.f1, .string x.f2, .slice B3 x.f3.length e3, .slice B4 x.f4.length e4] 51 (0, 0))
      have HB3 := Aside0.mk hb3
      have nx := blk_new wr (.cells #[.int .i64 x.f0, .int .i64 x.f1, .string x.f2, .slice B3 x.f3.length e3, .slice B4 x.f4.length e4] 51 (0, 0))
      have HNX := Aside0.mk nx
      clear hb3 nx
      by_cases hx : x.f0 = 3
      · have qx : (x.f0 != 3) = false := by simp [hx]
        have HX := Aside0.mk hx
        clear hx
        have hk9 : k ≤ 1000000000000 := by omega
        go_wp2_with (first | (with_reducible refine gate_builtin (b := .append) (xs := #[.tmp 25, .tmp 28]) rfl ?_); at_builtin; refine R_append_i64 (w0 := W2) W2.heap.size rfl (.tmp 25) (.tmp 28) rfl u6 ((v.f3.take k).map (·.f1)) x.f1 rfl (by first | (go_simp; done) | (go_simp; rfl)) ?aO ?aB ?aS ?aL ?_; (case aO => exact Kd.R_below HRW.out HB3.out); (case aB => exact HBW.out.trans (HB3.out.mono HBW.out.size)); (case aS => exact Nat.le_trans HBW.out.size HB3.out.size); (case aL => rw [List.length_map, List.length_take]; omega); intro v1 w1 ho hb1; rw [HSN.out] at ho; have HO1 := Aside0.mk ho; have HB1 := Aside0.mk hb1; clear ho hb1)
        go_roundg k1
        case measure => omega
        case rel => exact ⟨k + 1, by omega, by go_num, HB1.out.size, HB1, HO1, Aside0.mk (by rw [HTK.out]; intro y hy; rcases List.mem_append.1 hy with h | h; exact HAL.out y h; rw [List.mem_singleton.1 h]; exact HX.out)⟩
      · have qx : (x.f0 != 3) = true := by simp [hx]
        have HE2 := Aside0.mk (show res = ([], false) by
         rw [HE.out, if_neg]
         intro h
         exact hx (by simpa using List.all_eq_true.1 h x HM.out))
        go_wp2
        go_ret2
        rw [HE2.out]
        exact ⟨HWW.out.trans (HB3.out.mono HWW.out.size), _, rfl, Kd.R_nil _ _ _ _ _⟩
 · have q6 : (k == 6) = false := by simp; omega
   have q7 : (k == 7) = false := by simp; omega
   by_cases h3 : v.f0 = 3
   · have HE2 := Aside0.mk (show res = ([v.f1], true) by rw [HR.out, if_neg h67, if_pos h3])
     have p3 : (v.f0 == 3) = true := by simp [h3]
     clear h67 h3
     go_enter Tryz.func92, Tryz.ntmps92
     go_wp2
     go_ret2
     rw [HE2.out]
     exact ⟨HB0.out.trans (((Below.refl _ _).alloc (Nat.le_refl _) _).mono HB0.out.size), _, rfl, by have h := R_one_i64 (w.alloc (.cells #[.int .i64 v.f0, .int .i64 v.f1, .string v.f2, .slice A3 v.f3.length c3, .slice A4 v.f4.length c4] 51 (0, 0))) v.f1 HB0.out.size; rw [World.size_alloc] at h; exact h⟩
   · have p3 : (v.f0 == 3) = false := by simp [h3]
     by_cases h1 : v.f0 = 1
     · have HE2 := Aside0.mk (show res = ([], decide (k = 5)) by rw [HR.out, if_neg h67, if_neg h3, if_pos h1])
       have p1 : (v.f0 == 1) = true := by simp [h1]
       have p5 : (k == 5) = decide (k = 5) := by by_cases h : k = 5 <;> simp [h]
       clear h67 h3 h1
       go_enter Tryz.func92, Tryz.ntmps92
       go_wp2
       go_ret2
       rw [HE2.out]
       exact ⟨HB0.out, _, by rw [← p5]; rfl, Kd.R_nil _ _ _ _ _⟩
     · have HE2 := Aside0.mk (show res = ([], false) by rw [HR.out, if_neg h67, if_neg h3, if_neg h1])
       have p1 : (v.f0 == 1) = false := by simp [h1]
       clear h67 h3 h1
       go_enter Tryz.func92, Tryz.ntmps92
       go_wp2
       go_ret2
       rw [HE2.out]
       exact ⟨HB0.out, _, rfl, Kd.R_nil _ _ _ _ _⟩
end Go.Proofs.YtamcicojockhpaaGreatDoor.Wi
end
section
set_option linter.unusedVariables false
set_option linter.unusedSimpArgs false
namespace Go.Proofs.YtamcicojockhpaaGreatDoor.Wi
open Go.RowKit Go.Proofs.YtamcicojockhpaaGreatDoorW.PrintWords Go.Proofs.YtamcicojockhpaaGreatDoorW.PrintLast Go.Proofs.YtamcicojockhpaaGreatDoorW.PrintMore
open Go.Proofs.YtamcicojockhpaaGreatDoor.Lx Go.Proofs.YtamcicojockhpaaGreatDoor.PS Go.Proofs.YtamcicojockhpaaGreatDoor.Tr
def atL (s : ByteArray) : Int := Lib.index lettersB.data.toList s.data.toList
def chkC (c : Cl) (ev : Int) : Option Cl := if soundC c ev = true then some c else none
def callR (v : V) (ev : Int) : Option Cl :=
 if v.f0 ≠ 5 ∨ v.f3.length < 2 then none
 else if (v.f3.getD 0 zV).f0 ≠ 4 ∨ (v.f3.getD 1 zV).f0 ≠ 4 then none
 else if (v.f3.getD 0 zV).f2.size ≠ 1 ∨ atL (v.f3.getD 0 zV).f2 < 0 then none
 else if atL (v.f3.getD 0 zV).f2 + 1 ≤ 4 then (if v.f3.length ≠ 3 ∨ (v.f3.getD 2 zV).f0 ≠ 3 then none else chkC ⟨atL (v.f3.getD 0 zV).f2 + 1, (v.f3.getD 1 zV).f2, (v.f3.getD 2 zV).f1, false, []⟩ ev)
 else if ev = 1 then (if v.f3.length ≠ 3 then none else if (valsR (atL (v.f3.getD 0 zV).f2 + 1) (v.f3.getD 2 zV)).2 = true then chkC ⟨atL (v.f3.getD 0 zV).f2 + 1, (v.f3.getD 1 zV).f2, 0, true, (valsR (atL (v.f3.getD 0 zV).f2 + 1) (v.f3.getD 2 zV)).1⟩ ev else none)
 else (if v.f3.length ≠ 2 then none else chkC ⟨atL (v.f3.getD 0 zV).f2 + 1, (v.f3.getD 1 zV).f2, 0, false, []⟩ ev)
def CallQ (r : Option Cl) (w : World) (e : Ending) (w' : World) : Prop :=
 Below w.heap.size w w' ∧ ∃ (c : Cl) (v4 : Value), e = .returned (.tuple #[.agg #[.int .i64 c.f0, .string c.f1, .int .i64 c.f2, .bool c.f3, v4], .bool r.isSome]) ∧
  (Kd.int .i64).R 2 w' w.heap.size (fun _ => True) v4 c.f4 ∧ ∀ x, r = some x → x = c
theorem CallQ_none {w w' : World} (h : Below w.heap.size w w') : CallQ none w (.returned (.tuple #[.agg #[.int .i64 0, .string ⟨#[]⟩, .int .i64 0, .bool false, .slice none 0 0], .bool false])) w' :=
 ⟨h, ⟨0, ⟨#[]⟩, 0, false, []⟩, _, rfl, Kd.R_nil _ _ _ _ _, fun _ h => by cases h⟩
theorem res_call (tmps : Array Value) (w : World) (b : Nat) (v0 v1 v2 v3 v4 z : Value) (h4 : tmps.getD 4 undef = .pointer (some ⟨b, 0, none⟩)) (h5 : tmps.getD 5 undef = z) (hb : w.heap[b]? = some (.cells #[v0, v1, v2, v3, v4] 43 (0, 0))) :
 (results Tryz.f56 tmps).run Tryz.prog w = .ok (.tuple #[.agg #[v0, v1, v2, v3, v4], z]) w := by
 have c0 := blk_cell hb 0
 have c1 := blk_cell hb 1
 have c2 := blk_cell hb 2
 have c3 := blk_cell hb 3
 have c4 := blk_cell hb 4
 rw [Array.getD_eq_getD_getElem?] at h4 h5
 simp at c0 c1 c2 c3 c4
 simp [results, Tryz.results56, go_sem, h4, h5, c0, c1, c2, c3, c4]
theorem add_00 (ad : Addr) : ad.add ((0 : Int).toNat * 5) = ad := by
 show ad.add 0 = ad
 unfold Addr.add
 split <;> simp_all
theorem add_15 (ad : Addr) : ad.add ((1 : Int).toNat * 5) = ⟨ad.block, ad.off + 5, none⟩ := rfl
theorem add_25 (ad : Addr) : ad.add ((2 : Int).toNat * 5) = ⟨ad.block, ad.off + 10, none⟩ := rfl
theorem atL_le (s : ByteArray) (h1 : s.size = 1) (h0 : 0 ≤ atL s) : atL s ≤ 7 := by
 have h := Lib.index_room _ _ h0
 have h2 : (s.data.toList.length : Int) = 1 := by
  have : s.data.toList.length = s.size := Array.length_toList
  omega
 have h3 : (lettersB.data.toList.length : Int) = 8 := rfl
 unfold atL
 omega
theorem valsR_len (k : Int) (v : V) (h : v.f3.length ≤ 1000000000000) : (valsR k v).1.length ≤ 1000000000000 := by
 unfold valsR
 (repeat' split) <;> simp <;> omega
theorem CallQ_chk {w w' : World} (c : Cl) (v4 : Value) (ev : Int) (hb : Below w.heap.size w w') (hr : (Kd.int .i64).R 2 w' w.heap.size (fun _ => True) v4 c.f4) :
 CallQ (chkC c ev) w (.returned (.tuple #[.agg #[.int .i64 c.f0, .string c.f1, .int .i64 c.f2, .bool c.f3, v4], .bool (soundC c ev)])) w' := by
 refine ⟨hb, c, v4, ?_, hr, ?_⟩
 · unfold chkC
   cases soundC c ev <;> rfl
 · intro x hx
   unfold chkC at hx
   split at hx
   · exact (Option.some.inj hx).symm
   · cases hx
theorem CallQ_no {w w' : World} (c : Cl) (v4 : Value) (hb : Below w.heap.size w w') (hr : (Kd.int .i64).R 2 w' w.heap.size (fun _ => True) v4 c.f4) :
 CallQ none w (.returned (.tuple #[.agg #[.int .i64 c.f0, .string c.f1, .int .i64 c.f2, .bool c.f3, v4], .bool false])) w' := ⟨hb, c, v4, rfl, hr, fun _ h => by cases h⟩
set_option maxRecDepth 100000 in
set_option maxHeartbeats 16000000 in
theorem call_calls (v : V) (ev : Int) (A3 : Option Addr) (c3 : Nat) (A4 : Option Addr) (c4 : Nat) (m : Int) (w : World) (hl : v.f3.length ≤ 1000000000000) (l3 : v.f3.length ≤ c3) (g3 : k51.C w A3 v.f3.length v.f3)
 (hf : ∀ x ∈ v.f3, x.f3.length ≤ 1000000000000) (hm : w.cell? ⟨2, 0, none⟩ = some (.int .i64 m)) :
 Calls Tryz.prog 56 #[vArg v A3 c3 A4 c4, .int .i64 ev] w (CallQ (callR v ev) w) := by
 have HG := Aside0.mk g3
 have nv := blkA (blk_new w (.cells #[.int .i64 v.f0, .int .i64 v.f1, .string v.f2, .slice A3 v.f3.length c3, .slice A4 v.f4.length c4] 51 (0, 0))) (.cells #[.int .i64 0, .string ⟨#[]⟩, .int .i64 0, .bool false, .slice none 0 0] 43 (0, 0))
 have nz := blk_new (w.alloc (.cells #[.int .i64 v.f0, .int .i64 v.f1, .string v.f2, .slice A3 v.f3.length c3, .slice A4 v.f4.length c4] 51 (0, 0))) (.cells #[.int .i64 0, .string ⟨#[]⟩, .int .i64 0, .bool false, .slice none 0 0] 43 (0, 0))
 rw [show (w.alloc (.cells #[.int .i64 v.f0, .int .i64 v.f1, .string v.f2, .slice A3 v.f3.length c3, .slice A4 v.f4.length c4] 51 (0, 0))).heap.size = w.heap.size + 1 by simp] at nz
 have hb0 : Below w.heap.size w ((w.alloc (.cells #[.int .i64 v.f0, .int .i64 v.f1, .string v.f2, .slice A3 v.f3.length c3, .slice A4 v.f4.length c4] 51 (0, 0))).alloc (.cells #[.int .i64 0, .string ⟨#[]⟩, .int .i64 0, .bool false, .slice none 0 0] 43 (0, 0))) := ((Below.refl _ _).alloc (Nat.le_refl _) _).alloc (by simp) _
 have hs2 : ((w.alloc (.cells #[.int .i64 v.f0, .int .i64 v.f1, .string v.f2, .slice A3 v.f3.length c3, .slice A4 v.f4.length c4] 51 (0, 0))).alloc (.cells #[.int .i64 0, .string ⟨#[]⟩, .int .i64 0, .bool false, .slice none 0 0] 43 (0, 0))).heap.size = w.heap.size + 2 := by simp
 have HMx := Aside0.mk (cell_below' hb0 hm)
 have NV := Aside0.mk nv
 have NZ := Aside0.mk nz
 have HB0 := Aside0.mk hb0
 have HS := Aside0.mk hs2
 have HF := Aside0.mk hf
 have HR := Aside0.mk (Eq.refl (callR v ev))
 have hlI : (v.f3.length : Int) ≤ 1000000000000 := by omega
 have l3I : (v.f3.length : Int) ≤ (c3 : Int) := by omega
 unfold vArg
 clear g3 nv nz hb0 hs2 hf hm
 by_cases h1 : v.f0 ≠ 5
 · have HE : Aside0 (callR v ev = none) := Aside0.mk (by unfold callR; rw [if_pos (.inl h1)])
   have q1 : (v.f0 != 5) = true := by simpa using h1
   rw [HE.out]
   clear HE h1 HR
   have HM : True := trivial
   go_enter Tryz.func56, Tryz.ntmps56
   go_wp2_with (first | ((with_reducible refine gate_dst (N := 11) rfl ?_); clear HM; generalize (w.alloc (.cells #[.int .i64 v.f0, .int .i64 v.f1, .string v.f2, .slice A3 v.f3.length c3, .slice A4 v.f4.length c4] 51 (0, 0))).alloc (.cells #[.int .i64 0, .string ⟨#[]⟩, .int .i64 0, .bool false, .slice none 0 0] 43 (0, 0)) = W2 at *; have z0 := blk_cell NV.out 0; have z3 := blk_cell NV.out 3; have yf := blk_frozen NZ.out; have y0 := blk_cell NZ.out 0; have y1 := blk_cell NZ.out 1; have y2 := blk_cell NZ.out 2; have y3 := blk_cell NZ.out 3; have y4 := blk_cell NZ.out 4) | fail)
   refine bodyPost_ret (res_call _ _ (w.heap.size + 1) _ _ _ _ _ _ rfl rfl (zst NZ.out _ _ _ _ _)) rfl ?_
   exact CallQ_none (HB0.out.trans (put5_below (by omega) _ _ _ _ _))
 · have q1 : (v.f0 != 5) = false := by simpa using h1
   by_cases h2 : v.f3.length < 2
   · have HE : Aside0 (callR v ev = none) := Aside0.mk (by unfold callR; rw [if_pos (.inr h2)])
     have q2 : decide ((v.f3.length : Int) < 2) = true := by simp; omega
     have q2' : decide (v.f3.length < 2) = true := by simpa using h2
     rw [HE.out]
     clear HE h1 HR
     have HM : True := trivial
     go_enter Tryz.func56, Tryz.ntmps56
     go_wp2_with (first | ((with_reducible refine gate_dst (N := 11) rfl ?_); clear HM; generalize (w.alloc (.cells #[.int .i64 v.f0, .int .i64 v.f1, .string v.f2, .slice A3 v.f3.length c3, .slice A4 v.f4.length c4] 51 (0, 0))).alloc (.cells #[.int .i64 0, .string ⟨#[]⟩, .int .i64 0, .bool false, .slice none 0 0] 43 (0, 0)) = W2 at *; have z0 := blk_cell NV.out 0; have z3 := blk_cell NV.out 3; have yf := blk_frozen NZ.out; have y0 := blk_cell NZ.out 0; have y1 := blk_cell NZ.out 1; have y2 := blk_cell NZ.out 2; have y3 := blk_cell NZ.out 3; have y4 := blk_cell NZ.out 4) | fail)
     refine bodyPost_ret (res_call _ _ (w.heap.size + 1) _ _ _ _ _ _ rfl rfl (zst NZ.out _ _ _ _ _)) rfl ?_
     exact CallQ_none (HB0.out.trans (put5_below (by omega) _ _ _ _ _))
   · have q2 : decide ((v.f3.length : Int) < 2) = false := by simp; omega
     have q2' : decide (v.f3.length < 2) = false := by simp; omega
     have i0 : (0 : Int) < (v.f3.length : Int) := by omega
     have i1 : (1 : Int) < (v.f3.length : Int) := by omega
     obtain ⟨ad, B3, e3, B4, e4, e, r0, r1, r2, r3, r4, m3, g3, m4, g4⟩ := at_T51 (Kd.C_below HG.out HB0.out) (0 : Int) (by omega) i0
     cases e
     obtain ⟨ad', D3, d3, D4, d4, e, t0, t1, t2, t3, t4, n3, p3, n4, p4⟩ := at_T51 (Kd.C_below HG.out HB0.out) (1 : Int) (by omega) i1
     cases e
     have E01 := Aside0.mk (And.intro r0 (And.intro r2 (And.intro t0 t2)))
     clear r0 r1 r2 r3 r4 m3 g3 m4 g4 t0 t1 t2 t3 t4 n3 p3 n4 p4
     have h12 : ¬ (v.f0 ≠ 5 ∨ v.f3.length < 2) := by omega
     have HD0 : rd_T51 v.f3 (0 : Int) = v.f3.getD 0 zV := rfl
     have HD1 : rd_T51 v.f3 (1 : Int) = v.f3.getD 1 zV := rfl
     rw [HD0, HD1, add_00, add_15] at E01
     clear HD0 HD1
     by_cases h3 : (v.f3.getD 0 zV).f0 ≠ 4
     · have HE : Aside0 (callR v ev = none) := Aside0.mk (by unfold callR; rw [if_neg h12, if_pos (.inl h3)])
       have q3 : ((v.f3.getD 0 zV).f0 != 4) = true := by simpa using h3
       rw [HE.out]
       clear HE h12 h3 HR
       generalize v.f3.getD 0 zV = a at *
       generalize v.f3.getD 1 zV = b at *
       have HM : True := trivial
       go_enter Tryz.func56, Tryz.ntmps56
       go_wp2_with (first | ((with_reducible refine gate_dst (N := 11) rfl ?_); clear HM; generalize (w.alloc (.cells #[.int .i64 v.f0, .int .i64 v.f1, .string v.f2, .slice (some ad) v.f3.length c3, .slice A4 v.f4.length c4] 51 (0, 0))).alloc (.cells #[.int .i64 0, .string ⟨#[]⟩, .int .i64 0, .bool false, .slice none 0 0] 43 (0, 0)) = W2 at *; have z0 := blk_cell NV.out 0; have z3 := blk_cell NV.out 3; have yf := blk_frozen NZ.out; have y0 := blk_cell NZ.out 0; have y1 := blk_cell NZ.out 1; have y2 := blk_cell NZ.out 2; have y3 := blk_cell NZ.out 3; have y4 := blk_cell NZ.out 4; obtain ⟨r0, r2, t0, t2⟩ := E01.out) | fail)
       refine bodyPost_ret (res_call _ _ (w.heap.size + 1) _ _ _ _ _ _ rfl rfl (zst NZ.out _ _ _ _ _)) rfl ?_
       exact CallQ_none (HB0.out.trans (put5_below (by omega) _ _ _ _ _))
     · have q3 : ((v.f3.getD 0 zV).f0 != 4) = false := by simpa using h3
       by_cases h4 : (v.f3.getD 1 zV).f0 ≠ 4
       · have HE : Aside0 (callR v ev = none) := Aside0.mk (by unfold callR; rw [if_neg h12, if_pos (.inr h4)])
         have q4 : ((v.f3.getD 1 zV).f0 != 4) = true := by simpa using h4
         rw [HE.out]
         clear HE h12 h3 h4 HR
         generalize v.f3.getD 0 zV = a at *
         generalize v.f3.getD 1 zV = b at *
         have HM : True := trivial
         go_enter Tryz.func56, Tryz.ntmps56
         go_wp2_with (first | ((with_reducible refine gate_dst (N := 11) rfl ?_); clear HM; generalize (w.alloc (.cells #[.int .i64 v.f0, .int .i64 v.f1, .string v.f2, .slice (some ad) v.f3.length c3, .slice A4 v.f4.length c4] 51 (0, 0))).alloc (.cells #[.int .i64 0, .string ⟨#[]⟩, .int .i64 0, .bool false, .slice none 0 0] 43 (0, 0)) = W2 at *; have z0 := blk_cell NV.out 0; have z3 := blk_cell NV.out 3; have yf := blk_frozen NZ.out; have y0 := blk_cell NZ.out 0; have y1 := blk_cell NZ.out 1; have y2 := blk_cell NZ.out 2; have y3 := blk_cell NZ.out 3; have y4 := blk_cell NZ.out 4; obtain ⟨r0, r2, t0, t2⟩ := E01.out) | fail)
         refine bodyPost_ret (res_call _ _ (w.heap.size + 1) _ _ _ _ _ _ rfl rfl (zst NZ.out _ _ _ _ _)) rfl ?_
         exact CallQ_none (HB0.out.trans (put5_below (by omega) _ _ _ _ _))
       · have q4 : ((v.f3.getD 1 zV).f0 != 4) = false := by simpa using h4
         have h34 : ¬ ((v.f3.getD 0 zV).f0 ≠ 4 ∨ (v.f3.getD 1 zV).f0 ≠ 4) := by omega
         have HIX := Aside0.mk (Tryz.strings_Index ⟨#[119, 97, 43, 105, 114, 108, 115, 99]⟩ (v.f3.getD 0 zV).f2 m _ (by decide) HMx.out)
         rw [show Lib.index (ByteArray.mk #[119, 97, 43, 105, 114, 108, 115, 99]).data.toList (v.f3.getD 0 zV).f2.data.toList = atL (v.f3.getD 0 zV).f2 from rfl] at HIX
         by_cases h5 : (v.f3.getD 0 zV).f2.size ≠ 1
         · have HE : Aside0 (callR v ev = none) := Aside0.mk (by unfold callR; rw [if_neg h12, if_neg h34, if_pos (.inl h5)])
           have q5 : (((v.f3.getD 0 zV).f2.size : Int) != 1) = true := bne_iff_ne.2 (by omega)
           rw [HE.out]
           clear HE h12 h3 h4 h5 h34 HR
           generalize v.f3.getD 0 zV = a at *
           generalize v.f3.getD 1 zV = b at *
           generalize atL a.f2 = k at *
           have HM : True := trivial
           go_enter Tryz.func56, Tryz.ntmps56
           go_wp2_with (first | ((with_reducible refine gate_dst (N := 11) rfl ?_); clear HM; generalize (w.alloc (.cells #[.int .i64 v.f0, .int .i64 v.f1, .string v.f2, .slice (some ad) v.f3.length c3, .slice A4 v.f4.length c4] 51 (0, 0))).alloc (.cells #[.int .i64 0, .string ⟨#[]⟩, .int .i64 0, .bool false, .slice none 0 0] 43 (0, 0)) = W2 at *; have z0 := blk_cell NV.out 0; have z3 := blk_cell NV.out 3; have yf := blk_frozen NZ.out; have y0 := blk_cell NZ.out 0; have y1 := blk_cell NZ.out 1; have y2 := blk_cell NZ.out 2; have y3 := blk_cell NZ.out 3; have y4 := blk_cell NZ.out 4; obtain ⟨r0, r2, t0, t2⟩ := E01.out) | fail)
           refine HIX.out.mono ?_
           rintro e1 w1 ⟨rfl, hw⟩
           rw [hw]
           clear hw w1
           go_wp2
           refine bodyPost_ret (res_call _ _ (w.heap.size + 1) _ _ _ _ _ _ rfl rfl (zst NZ.out _ _ _ _ _)) rfl ?_
           exact CallQ_none (HB0.out.trans (put5_below (by omega) _ _ _ _ _))
         · have q5 : (((v.f3.getD 0 zV).f2.size : Int) != 1) = false := by rw [bne_eq_false_iff_eq]; omega
           by_cases h6 : atL (v.f3.getD 0 zV).f2 < 0
           · have HE : Aside0 (callR v ev = none) := Aside0.mk (by unfold callR; rw [if_neg h12, if_neg h34, if_pos (.inr h6)])
             have q6 : decide (atL (v.f3.getD 0 zV).f2 < 0) = true := by simpa using h6
             rw [HE.out]
             clear HE h12 h3 h4 h5 h34 HR
             generalize v.f3.getD 0 zV = a at *
             generalize v.f3.getD 1 zV = b at *
             generalize atL a.f2 = k at *
             have HM : True := trivial
             go_enter Tryz.func56, Tryz.ntmps56
             go_wp2_with (first | ((with_reducible refine gate_dst (N := 11) rfl ?_); clear HM; generalize (w.alloc (.cells #[.int .i64 v.f0, .int .i64 v.f1, .string v.f2, .slice (some ad) v.f3.length c3, .slice A4 v.f4.length c4] 51 (0, 0))).alloc (.cells #[.int .i64 0, .string ⟨#[]⟩, .int .i64 0, .bool false, .slice none 0 0] 43 (0, 0)) = W2 at *; have z0 := blk_cell NV.out 0; have z3 := blk_cell NV.out 3; have yf := blk_frozen NZ.out; have y0 := blk_cell NZ.out 0; have y1 := blk_cell NZ.out 1; have y2 := blk_cell NZ.out 2; have y3 := blk_cell NZ.out 3; have y4 := blk_cell NZ.out 4; obtain ⟨r0, r2, t0, t2⟩ := E01.out) | fail)
             refine HIX.out.mono ?_
             rintro e1 w1 ⟨rfl, hw⟩
             rw [hw]
             clear hw w1
             go_wp2
             refine bodyPost_ret (res_call _ _ (w.heap.size + 1) _ _ _ _ _ _ rfl rfl (zst NZ.out _ _ _ _ _)) rfl ?_
             exact CallQ_none (HB0.out.trans (put5_below (by omega) _ _ _ _ _))
           · have q6 : decide (atL (v.f3.getD 0 zV).f2 < 0) = false := by simpa using h6
             have h56 : ¬ ((v.f3.getD 0 zV).f2.size ≠ 1 ∨ atL (v.f3.getD 0 zV).f2 < 0) := by omega
             have hk0 : 0 ≤ atL (v.f3.getD 0 zV).f2 := by omega
             have hk7 : atL (v.f3.getD 0 zV).f2 ≤ 7 := atL_le _ (by omega) hk0
             have HK : Aside0 _ := Aside0.mk (And.intro hk0 hk7)
             by_cases h7 : atL (v.f3.getD 0 zV).f2 + 1 ≤ 4
             · have q7 : decide (atL (v.f3.getD 0 zV).f2 + 1 ≤ 4) = true := decide_eq_true h7
               by_cases h8 : v.f3.length ≠ 3
               · have HE : Aside0 (callR v ev = none) := Aside0.mk (by unfold callR; rw [if_neg h12, if_neg h34, if_neg h56, if_pos h7, if_pos (.inl h8)])
                 rw [HE.out]
                 clear HE h12 h3 h4 h5 h34 h56 HR HK h7 h6
                 generalize v.f3.getD 0 zV = a at *
                 generalize v.f3.getD 1 zV = b at *
                 generalize atL a.f2 = k at *
                 have HM : True := trivial
                 go_enter Tryz.func56, Tryz.ntmps56
                 go_wp2_with (first | ((with_reducible refine gate_dst (N := 11) rfl ?_); clear HM; generalize (w.alloc (.cells #[.int .i64 v.f0, .int .i64 v.f1, .string v.f2, .slice (some ad) v.f3.length c3, .slice A4 v.f4.length c4] 51 (0, 0))).alloc (.cells #[.int .i64 0, .string ⟨#[]⟩, .int .i64 0, .bool false, .slice none 0 0] 43 (0, 0)) = W2 at *; have z0 := blk_cell NV.out 0; have z3 := blk_cell NV.out 3; have yf := blk_frozen NZ.out; have y0 := blk_cell NZ.out 0; have y1 := blk_cell NZ.out 1; have y2 := blk_cell NZ.out 2; have y3 := blk_cell NZ.out 3; have y4 := blk_cell NZ.out 4; obtain ⟨r0, r2, t0, t2⟩ := E01.out) | fail)
                 refine HIX.out.mono ?_
                 rintro e1 w1 ⟨rfl, hw⟩
                 rw [hw]
                 clear hw w1
                 have q8 : (((v.f3.length - 2 : Nat) : Int) != 1) = true := bne_iff_ne.2 (by omega)
                 have HM2 : True := trivial
                 have w61 : wrap64 (k + 1) = k + 1 := w64 _ (by omega) (by omega)
                 go_wp2_with (first | ((with_reducible refine gate_dst (N := 60) rfl ?_); clear HM2 z0 z3 y0 y1 y2 y3 y4 yf r0 r2 t0 t2; have NC := Aside0.mk (blk_new W2 (.cells #[.int .i64 (k + 1), .string b.f2, .int .i64 0, .bool false, .slice none 0 0] 43 (0, 0))); have NV3 := Aside0.mk (blkA NV.out (.cells #[.int .i64 (k + 1), .string b.f2, .int .i64 0, .bool false, .slice none 0 0] 43 (0, 0))); have NZ3 := Aside0.mk (blkA NZ.out (.cells #[.int .i64 (k + 1), .string b.f2, .int .i64 0, .bool false, .slice none 0 0] 43 (0, 0))); have HB3 := Aside0.mk (HB0.out.trans (((Below.refl W2.heap.size W2).alloc (Nat.le_refl _) (.cells #[.int .i64 (k + 1), .string b.f2, .int .i64 0, .bool false, .slice none 0 0] 43 (0, 0))).mono HB0.out.size)); generalize W2.alloc (.cells #[.int .i64 (k + 1), .string b.f2, .int .i64 0, .bool false, .slice none 0 0] 43 (0, 0)) = W3 at *; have z3 := blk_cell NV3.out 3; have yf := blk_frozen NZ3.out; have y0 := blk_cell NZ3.out 0; have y1 := blk_cell NZ3.out 1; have y2 := blk_cell NZ3.out 2; have y3 := blk_cell NZ3.out 3; have y4 := blk_cell NZ3.out 4; have x0 := blk_cell NC.out 0; have x1 := blk_cell NC.out 1; have x2 := blk_cell NC.out 2; have x3 := blk_cell NC.out 3; have x4 := blk_cell NC.out 4; have xf := blk_frozen NC.out) | fail)
                 all_goals
                  refine bodyPost_ret (res_call _ _ (w.heap.size + 1) _ _ _ _ _ _ rfl rfl (zst NZ3.out _ _ _ _ _)) rfl ?_
                  exact CallQ_none (HB3.out.trans (put5_below (by omega) _ _ _ _ _))
               · have h8' : v.f3.length = 3 := by omega
                 have i2 : (2 : Int) < (v.f3.length : Int) := by omega
                 have q8 : (((v.f3.length - 2 : Nat) : Int) != 1) = false := by rw [bne_eq_false_iff_eq]; omega
                 have j0 : (0 : Int) < ((v.f3.length - 2 : Nat) : Int) := by omega
                 have j1 : 0 < v.f3.length - 2 := by omega
                 have H83 := Aside0.mk h8'
                 clear h8'
                 by_cases h9 : (v.f3.getD 2 zV).f0 ≠ 3
                 · have HE : Aside0 (callR v ev = none) := Aside0.mk (by unfold callR; rw [if_neg h12, if_neg h34, if_neg h56, if_pos h7, if_pos (.inr h9)])
                   have q9 : ((v.f3.getD 2 zV).f0 != 3) = true := by simpa using h9
                   rw [HE.out]
                   clear HE h12 h3 h4 h5 h34 h56 HR HK h7 h6 h9 h8
                   obtain ⟨ad', B5, e5, B6, e6, e, r0, r1, r2, r3, r4, m3, g3, m4, g4⟩ := at_T51 (Kd.C_below HG.out HB0.out) (2 : Int) (by omega) i2
                   cases e
                   have EX := Aside0.mk (And.intro r0 (And.intro r1 (And.intro r2 (And.intro r3 r4))))
                   have EG := Aside0.mk g3
                   rw [show rd_T51 v.f3 (2 : Int) = v.f3.getD 2 zV from rfl, add_25] at EX
                   rw [show rd_T51 v.f3 (2 : Int) = v.f3.getD 2 zV from rfl] at EG
                   clear r0 r1 r2 r3 r4 m3 g3 m4 g4
                   generalize v.f3.getD 0 zV = a at *
                   generalize v.f3.getD 1 zV = b at *
                   generalize v.f3.getD 2 zV = x at *
                   generalize atL a.f2 = k at *
                   have HM : True := trivial
                   go_enter Tryz.func56, Tryz.ntmps56
                   go_wp2_with (first | ((with_reducible refine gate_dst (N := 11) rfl ?_); clear HM; generalize (w.alloc (.cells #[.int .i64 v.f0, .int .i64 v.f1, .string v.f2, .slice (some ad) v.f3.length c3, .slice A4 v.f4.length c4] 51 (0, 0))).alloc (.cells #[.int .i64 0, .string ⟨#[]⟩, .int .i64 0, .bool false, .slice none 0 0] 43 (0, 0)) = W2 at *; have z0 := blk_cell NV.out 0; have z3 := blk_cell NV.out 3; have yf := blk_frozen NZ.out; have y0 := blk_cell NZ.out 0; have y1 := blk_cell NZ.out 1; have y2 := blk_cell NZ.out 2; have y3 := blk_cell NZ.out 3; have y4 := blk_cell NZ.out 4; obtain ⟨r0, r2, t0, t2⟩ := E01.out) | fail)
                   refine HIX.out.mono ?_
                   rintro e1 w1 ⟨rfl, hw⟩
                   rw [hw]
                   clear hw w1
                   have HM2 : True := trivial
                   have w61 : wrap64 (k + 1) = k + 1 := w64 _ (by omega) (by omega)
                   go_wp2_with (first | ((with_reducible refine gate_dst (N := 60) rfl ?_); clear HM2 z0 z3 y0 y1 y2 y3 y4 yf r0 r2 t0 t2; have NC := Aside0.mk (blk_new W2 (.cells #[.int .i64 (k + 1), .string b.f2, .int .i64 0, .bool false, .slice none 0 0] 43 (0, 0))); have NV3 := Aside0.mk (blkA NV.out (.cells #[.int .i64 (k + 1), .string b.f2, .int .i64 0, .bool false, .slice none 0 0] 43 (0, 0))); have NZ3 := Aside0.mk (blkA NZ.out (.cells #[.int .i64 (k + 1), .string b.f2, .int .i64 0, .bool false, .slice none 0 0] 43 (0, 0))); have HB3 := Aside0.mk (HB0.out.trans (((Below.refl W2.heap.size W2).alloc (Nat.le_refl _) (.cells #[.int .i64 (k + 1), .string b.f2, .int .i64 0, .bool false, .slice none 0 0] 43 (0, 0))).mono HB0.out.size)); have EX3 := Aside0.mk (And.intro (cell_below' ((Below.refl W2.heap.size W2).alloc (Nat.le_refl _) (.cells #[.int .i64 (k + 1), .string b.f2, .int .i64 0, .bool false, .slice none 0 0] 43 (0, 0))) EX.out.1) (And.intro (cell_below' ((Below.refl W2.heap.size W2).alloc (Nat.le_refl _) (.cells #[.int .i64 (k + 1), .string b.f2, .int .i64 0, .bool false, .slice none 0 0] 43 (0, 0))) EX.out.2.1) (And.intro (cell_below' ((Below.refl W2.heap.size W2).alloc (Nat.le_refl _) (.cells #[.int .i64 (k + 1), .string b.f2, .int .i64 0, .bool false, .slice none 0 0] 43 (0, 0))) EX.out.2.2.1) (And.intro (cell_below' ((Below.refl W2.heap.size W2).alloc (Nat.le_refl _) (.cells #[.int .i64 (k + 1), .string b.f2, .int .i64 0, .bool false, .slice none 0 0] 43 (0, 0))) EX.out.2.2.2.1) (cell_below' ((Below.refl W2.heap.size W2).alloc (Nat.le_refl _) (.cells #[.int .i64 (k + 1), .string b.f2, .int .i64 0, .bool false, .slice none 0 0] 43 (0, 0))) EX.out.2.2.2.2))))); generalize W2.alloc (.cells #[.int .i64 (k + 1), .string b.f2, .int .i64 0, .bool false, .slice none 0 0] 43 (0, 0)) = W3 at *; have z3 := blk_cell NV3.out 3; have yf := blk_frozen NZ3.out; have y0 := blk_cell NZ3.out 0; have y1 := blk_cell NZ3.out 1; have y2 := blk_cell NZ3.out 2; have y3 := blk_cell NZ3.out 3; have y4 := blk_cell NZ3.out 4; have x0 := blk_cell NC.out 0; have x1 := blk_cell NC.out 1; have x2 := blk_cell NC.out 2; have x3 := blk_cell NC.out 3; have x4 := blk_cell NC.out 4; obtain ⟨r0, r1, r2, r3, r4⟩ := EX3.out; have xf := blk_frozen NC.out) | fail)
                   all_goals
                    refine bodyPost_ret (res_call _ _ (w.heap.size + 1) _ _ _ _ _ _ rfl rfl (zst NZ3.out _ _ _ _ _)) rfl ?_
                    exact CallQ_none (HB3.out.trans (put5_below (by omega) _ _ _ _ _))
                 · have q9 : ((v.f3.getD 2 zV).f0 != 3) = false := by simpa using h9
                   have HE : Aside0 (callR v ev = chkC ⟨atL (v.f3.getD 0 zV).f2 + 1, (v.f3.getD 1 zV).f2, (v.f3.getD 2 zV).f1, false, []⟩ ev) := Aside0.mk (by unfold callR; rw [if_neg h12, if_neg h34, if_neg h56, if_pos h7, if_neg (by have := H83.out; omega)])
                   rw [HE.out]
                   clear HE h12 h3 h4 h5 h34 h56 HR HK h7 h6 h9 h8
                   obtain ⟨ad', B5, e5, B6, e6, e, r0, r1, r2, r3, r4, m3, g3, m4, g4⟩ := at_T51 (Kd.C_below HG.out HB0.out) (2 : Int) (by omega) i2
                   cases e
                   have EX := Aside0.mk (And.intro r0 (And.intro r1 (And.intro r2 (And.intro r3 r4))))
                   have EG := Aside0.mk g3
                   rw [show rd_T51 v.f3 (2 : Int) = v.f3.getD 2 zV from rfl, add_25] at EX
                   rw [show rd_T51 v.f3 (2 : Int) = v.f3.getD 2 zV from rfl] at EG
                   clear r0 r1 r2 r3 r4 m3 g3 m4 g4
                   generalize v.f3.getD 0 zV = a at *
                   generalize v.f3.getD 1 zV = b at *
                   generalize v.f3.getD 2 zV = x at *
                   generalize atL a.f2 = k at *
                   have HM : True := trivial
                   go_enter Tryz.func56, Tryz.ntmps56
                   go_wp2_with (first | ((with_reducible refine gate_dst (N := 11) rfl ?_); clear HM; generalize (w.alloc (.cells #[.int .i64 v.f0, .int .i64 v.f1, .string v.f2, .slice (some ad) v.f3.length c3, .slice A4 v.f4.length c4] 51 (0, 0))).alloc (.cells #[.int .i64 0, .string ⟨#[]⟩, .int .i64 0, .bool false, .slice none 0 0] 43 (0, 0)) = W2 at *; have z0 := blk_cell NV.out 0; have z3 := blk_cell NV.out 3; have yf := blk_frozen NZ.out; have y0 := blk_cell NZ.out 0; have y1 := blk_cell NZ.out 1; have y2 := blk_cell NZ.out 2; have y3 := blk_cell NZ.out 3; have y4 := blk_cell NZ.out 4; obtain ⟨r0, r2, t0, t2⟩ := E01.out) | fail)
                   refine HIX.out.mono ?_
                   rintro e1 w1 ⟨rfl, hw⟩
                   rw [hw]
                   clear hw w1
                   have HM2 : True := trivial
                   have w61 : wrap64 (k + 1) = k + 1 := w64 _ (by omega) (by omega)
                   go_wp2_with (first | ((with_reducible refine gate_dst (N := 60) rfl ?_); clear HM2 z0 z3 y0 y1 y2 y3 y4 yf r0 r2 t0 t2; have NC := Aside0.mk (blk_new W2 (.cells #[.int .i64 (k + 1), .string b.f2, .int .i64 0, .bool false, .slice none 0 0] 43 (0, 0))); have NV3 := Aside0.mk (blkA NV.out (.cells #[.int .i64 (k + 1), .string b.f2, .int .i64 0, .bool false, .slice none 0 0] 43 (0, 0))); have NZ3 := Aside0.mk (blkA NZ.out (.cells #[.int .i64 (k + 1), .string b.f2, .int .i64 0, .bool false, .slice none 0 0] 43 (0, 0))); have HB3 := Aside0.mk (HB0.out.trans (((Below.refl W2.heap.size W2).alloc (Nat.le_refl _) (.cells #[.int .i64 (k + 1), .string b.f2, .int .i64 0, .bool false, .slice none 0 0] 43 (0, 0))).mono HB0.out.size)); have EX3 := Aside0.mk (And.intro (cell_below' ((Below.refl W2.heap.size W2).alloc (Nat.le_refl _) (.cells #[.int .i64 (k + 1), .string b.f2, .int .i64 0, .bool false, .slice none 0 0] 43 (0, 0))) EX.out.1) (And.intro (cell_below' ((Below.refl W2.heap.size W2).alloc (Nat.le_refl _) (.cells #[.int .i64 (k + 1), .string b.f2, .int .i64 0, .bool false, .slice none 0 0] 43 (0, 0))) EX.out.2.1) (And.intro (cell_below' ((Below.refl W2.heap.size W2).alloc (Nat.le_refl _) (.cells #[.int .i64 (k + 1), .string b.f2, .int .i64 0, .bool false, .slice none 0 0] 43 (0, 0))) EX.out.2.2.1) (And.intro (cell_below' ((Below.refl W2.heap.size W2).alloc (Nat.le_refl _) (.cells #[.int .i64 (k + 1), .string b.f2, .int .i64 0, .bool false, .slice none 0 0] 43 (0, 0))) EX.out.2.2.2.1) (cell_below' ((Below.refl W2.heap.size W2).alloc (Nat.le_refl _) (.cells #[.int .i64 (k + 1), .string b.f2, .int .i64 0, .bool false, .slice none 0 0] 43 (0, 0))) EX.out.2.2.2.2))))); generalize W2.alloc (.cells #[.int .i64 (k + 1), .string b.f2, .int .i64 0, .bool false, .slice none 0 0] 43 (0, 0)) = W3 at *; have z3 := blk_cell NV3.out 3; have yf := blk_frozen NZ3.out; have y0 := blk_cell NZ3.out 0; have y1 := blk_cell NZ3.out 1; have y2 := blk_cell NZ3.out 2; have y3 := blk_cell NZ3.out 3; have y4 := blk_cell NZ3.out 4; have x0 := blk_cell NC.out 0; have x1 := blk_cell NC.out 1; have x2 := blk_cell NC.out 2; have x3 := blk_cell NC.out 3; have x4 := blk_cell NC.out 4; obtain ⟨r0, r1, r2, r3, r4⟩ := EX3.out; have xf := blk_frozen NC.out) | fail)
                   have NC4 := Aside0.mk (show (W3.setCell ⟨W2.heap.size, 2, none⟩ (.int .i64 x.f1)).heap[W2.heap.size]? = some (.cells #[.int .i64 (k + 1), .string b.f2, .int .i64 x.f1, .bool false, .slice none 0 0] 43 (0, 0)) from Tr.blk_set NC.out 2 _)
                   have NZ4 := Aside0.mk ((Below.heap_setCell W3 ⟨W2.heap.size, 2, none⟩ (.int .i64 x.f1) (w.heap.size + 1) (by have := HS.out; show w.heap.size + 1 ≠ W2.heap.size; omega)).trans NZ3.out)
                   have HB4 := Aside0.mk (HB3.out.setCell (p := ⟨W2.heap.size, 2, none⟩) HB0.out.size (.int .i64 x.f1))
                   generalize W3.setCell ⟨W2.heap.size, 2, none⟩ (.int .i64 x.f1) = W4 at *
                   have R4 := Aside0.mk (Kd.R_nil (Kd.int .i64) 2 W4 w.heap.size (fun k => k ≠ w.heap.size + 1))
                   clear z3 y0 y1 y2 y3 y4 yf x0 x1 x2 x3 x4 xf r0 r1 r2 r3 r4
                   refine start_ (n := 9) (S := (fun w' => w'.cell? ⟨W2.heap.size, 0, none⟩ = some (.int .i64 (k + 1)) ∧ w'.cell? ⟨W2.heap.size, 1, none⟩ = some (.string b.f2) ∧ w'.cell? ⟨W2.heap.size, 2, none⟩ = some (.int .i64 (x.f1)) ∧ w'.cell? ⟨W2.heap.size, 3, none⟩ = some (.bool false) ∧ w'.cell? ⟨W2.heap.size, 4, none⟩ = some (.slice none 0 0) ∧ Below W4.drew.heap.size W4.drew w')) (ds := [7]) #[fF, fF, fF, fF, fF, fF, fF, fF, fF] (by kernel_rfl) rfl rfl ⟨blk_cell (w := W4.drew) NC4.out 0, blk_cell (w := W4.drew) NC4.out 1, blk_cell (w := W4.drew) NC4.out 2, blk_cell (w := W4.drew) NC4.out 3, blk_cell (w := W4.drew) NC4.out 4, Below.refl _ _⟩ (fun hHeld => ?_)
                   refine take_ (i := 0) (N := some 104) (v := ?_) (a' := ?_) #[tT, fF, fF, fF, fF, fF, fF, fF, fF] rfl rfl (by kernel_rfl) (fun _ _ _ h => h) (Or.inl ⟨by rfl, ?_⟩) hHeld ?_ ?_
                   rotate_left
                   · rintro w' ⟨s0, s1, s2, s3, s4, _⟩
                     go_simp
                     with_reducible rfl
                   rotate_left
                   · simp only [Act.put, sA, sZ, sS, i64_w, i32_w]
                     rfl
                   refine pure_ (i := 1) (N := some 105) (v := ?_) (a' := ?_) #[tT, tT, fF, fF, fF, fF, fF, fF, fF] rfl rfl (by kernel_rfl) (fun _ _ _ h => h) (Or.inl ⟨by rfl, ?_⟩) ?_ ?_
                   rotate_left
                   · intro w'
                     go_simp
                     with_reducible rfl
                   rotate_left
                   · simp only [Act.put, sA, sZ, sS, i64_w, i32_w]
                     rfl
                   refine pure_ (i := 2) (N := some 106) (v := ?_) (a' := ?_) #[tT, tT, tT, fF, fF, fF, fF, fF, fF] rfl rfl (by kernel_rfl) (fun _ _ _ h => h) (Or.inl ⟨by rfl, ?_⟩) ?_ ?_
                   rotate_left
                   · intro w'
                     go_simp
                     with_reducible rfl
                   rotate_left
                   · simp only [Act.put, sA, sZ, sS, i64_w, i32_w]
                     rfl
                   refine take_ (i := 3) (N := some 107) (v := ?_) (a' := ?_) #[tT, tT, tT, tT, fF, fF, fF, fF, fF] rfl rfl (by kernel_rfl) (fun _ _ _ h => h) (Or.inl ⟨by rfl, ?_⟩) hHeld ?_ ?_
                   rotate_left
                   · rintro w' ⟨s0, s1, s2, s3, s4, _⟩
                     go_simp
                     with_reducible rfl
                   rotate_left
                   · simp only [Act.put, sA, sZ, sS, i64_w, i32_w]
                     rfl
                   refine pure_ (i := 4) (N := some 108) (v := ?_) (a' := ?_) #[tT, tT, tT, tT, tT, fF, fF, fF, fF] rfl rfl (by kernel_rfl) (fun _ _ _ h => h) (Or.inl ⟨by rfl, ?_⟩) ?_ ?_
                   rotate_left
                   · intro w'
                     go_simp
                     with_reducible rfl
                   rotate_left
                   · simp only [Act.put, sA, sZ, sS, i64_w, i32_w]
                     rfl
                   have HDr := Aside0.mk (⟨rfl, rfl, rfl, Nat.le_refl _, fun _ _ => rfl⟩ : Below W4.heap.size W4 W4.drew)
                   have NCd := Aside0.mk (show W4.drew.heap[W2.heap.size]? = some (.cells #[.int .i64 (k + 1), .string b.f2, .int .i64 (x.f1), .bool false, .slice none 0 0] 43 (0, 0)) from NC4.out)
                   have NZd := Aside0.mk (show W4.drew.heap[w.heap.size + 1]? = some (.cells #[.int .i64 0, .string ⟨#[]⟩, .int .i64 0, .bool false, .slice none 0 0] 43 (0, 0)) from NZ4.out)
                   have HBd := Aside0.mk (HB4.out.trans (HDr.out.mono HB4.out.size))
                   have RVd := Aside0.mk (Kd.R_below R4.out HDr.out)
                   generalize W4.drew = Wd at *
                   have S20 : ∀ w', Below Wd.heap.size Wd w' → (fun w' => w'.cell? ⟨W2.heap.size, 0, none⟩ = some (.int .i64 (k + 1)) ∧ w'.cell? ⟨W2.heap.size, 1, none⟩ = some (.string b.f2) ∧ w'.cell? ⟨W2.heap.size, 2, none⟩ = some (.int .i64 (x.f1)) ∧ w'.cell? ⟨W2.heap.size, 3, none⟩ = some (.bool false) ∧ w'.cell? ⟨W2.heap.size, 4, none⟩ = some (.slice none 0 0) ∧ Below Wd.heap.size Wd w') w' := fun w' hb =>
                    have q1 := (hb.block _ (blk_lt NCd.out)).trans NCd.out
                    ⟨blk_cell q1 0, blk_cell q1 1, blk_cell q1 2, blk_cell q1 3, blk_cell q1 4, hb⟩
                   obtain ⟨A9, c9, e9, l9, g9⟩ := Kd.R_reads RVd.out
                   cases e9
                   have HSN := wire_sound.calls (2 * ([]).length + 8) (k + 1) b.f2 (x.f1) false none 0 [] ev (soundC (⟨k + 1, b.f2, x.f1, false, []⟩ : Cl) ev) Wd g9 l9 (sound_pure (⟨k + 1, b.f2, x.f1, false, []⟩ : Cl) ev (by first | exact HLL.out | exact Nat.zero_le _) _ (Nat.le_refl _))
                   refine one_ (i := 5) (N := some 109) #[tT, tT, tT, tT, tT, tT, fF, fF, fF] rfl rfl (by kernel_rfl) (by decide) (fun K hK => ?_)
                   refine goes_ Tryz.func41 (by kernel_rfl) rfl #[.agg #[.int .i64 (k + 1), .string b.f2, .int .i64 (x.f1), .bool false, .slice none 0 0], .int .i64 ev] (by rfl) rfl rfl (by simp only [List.map_toArray, List.map_cons, List.map_nil]; rfl) ?_
                   refine HSN.mono ?_
                   clear HSN
                   rintro e9 w9 ⟨rfl, hb9⟩
                   refine ⟨_, rfl, ?_⟩
                   refine hK.out _ _ (S20 w9 hb9) fun hHeld => ?_
                   clear hK K
                   refine norm_ (a' := ?_) ?_ ?_
                   rotate_left
                   · show Act.put _ (some 109) _ = _
                     simp only [Act.put, sA, sZ, sS, i64_w, i32_w]
                     rfl
                   generalize hsc : soundC (⟨k + 1, b.f2, x.f1, false, []⟩ : Cl) ev = r9 at *
                   refine pure_ (i := 6) (N := some 110) (v := ?_) (a' := ?_) #[tT, tT, tT, tT, tT, tT, tT, fF, fF] rfl rfl (by kernel_rfl) (fun _ _ _ h => h) (Or.inl ⟨by rfl, ?_⟩) ?_ ?_
                   rotate_left
                   · intro w'
                     go_simp
                     with_reducible rfl
                   rotate_left
                   · simp only [Act.put, sA, sZ, sS, i64_w, i32_w]
                     rfl
                   have NZ9 := Aside0.mk ((hb9.block _ (blk_lt NZd.out)).trans NZd.out)
                   have v0 := blk_cell NZ9.out 0
                   have v1 := blk_cell NZ9.out 1
                   have v2 := blk_cell NZ9.out 2
                   have v3 := blk_cell NZ9.out 3
                   have v4 := blk_cell NZ9.out 4
                   have vf := blk_frozen NZ9.out
                   refine last_ (i := 7) (N := none) #[tT, tT, tT, tT, tT, tT, tT, tT, fF] rfl rfl (by kernel_rfl) (by decide) (fun K hK => ?_)
                   rw [if_pos (by rfl)]
                   unfold Oper.wp
                   go_simp
                   refine hK.out _ _ ?_
                   clear hK K
                   refine pure_ (i := 8) (N := some 5) (v := ?_) (a' := ?_) #[tT, tT, tT, tT, tT, tT, tT, tT, tT] rfl rfl (by kernel_rfl) (fun _ _ _ h => h) (Or.inl ⟨by rfl, ?_⟩) ?_ ?_
                   rotate_left
                   · intro w'
                     go_simp
                     with_reducible rfl
                   rotate_left
                   · simp only [Act.put, sA, sZ, sS, i64_w, i32_w]
                     rfl
                   refine done_ (by kernel_rfl) ?_
                   have HP9 := Aside0.mk (HBd.out.trans ((hb9.mono HBd.out.size).trans (put5_below (g := w.heap.size + 1) (k := 0) (by omega) (.int .i64 (k + 1)) (.string b.f2) (.int .i64 (x.f1)) (.bool false) (.slice none 0 0))))
                   go_wp2
                   refine bodyPost_ret (res_call _ _ (w.heap.size + 1) _ _ _ _ _ _ rfl rfl (zst NZ9.out _ _ _ _ _)) rfl ?_
                   subst hsc

                   exact CallQ_chk (⟨k + 1, b.f2, x.f1, false, []⟩ : Cl) _ ev HP9.out (Kd.R_mono (Kd.R_step (Kd.R_below RVd.out hb9) (fun k hk _ => put5_far hk _ _ _ _ _)) (fun _ _ => trivial))
             · have q7 : decide (atL (v.f3.getD 0 zV).f2 + 1 ≤ 4) = false := decide_eq_false h7
               by_cases h10 : ev = 1
               · have q10 : (ev == 1) = true := by simp [h10]
                 by_cases h8 : v.f3.length ≠ 3
                 · have HE : Aside0 (callR v ev = none) := Aside0.mk (by unfold callR; rw [if_neg h12, if_neg h34, if_neg h56, if_neg h7, if_pos h10, if_pos h8])
                   have q8 : (((v.f3.length - 2 : Nat) : Int) != 1) = true := bne_iff_ne.2 (by omega)
                   rw [HE.out]
                   clear HE h12 h3 h4 h5 h34 h56 HR HK h7 h6 h10 h8
                   generalize v.f3.getD 0 zV = a at *
                   generalize v.f3.getD 1 zV = b at *
                   generalize atL a.f2 = k at *
                   have HM : True := trivial
                   go_enter Tryz.func56, Tryz.ntmps56
                   go_wp2_with (first | ((with_reducible refine gate_dst (N := 11) rfl ?_); clear HM; generalize (w.alloc (.cells #[.int .i64 v.f0, .int .i64 v.f1, .string v.f2, .slice (some ad) v.f3.length c3, .slice A4 v.f4.length c4] 51 (0, 0))).alloc (.cells #[.int .i64 0, .string ⟨#[]⟩, .int .i64 0, .bool false, .slice none 0 0] 43 (0, 0)) = W2 at *; have z0 := blk_cell NV.out 0; have z3 := blk_cell NV.out 3; have yf := blk_frozen NZ.out; have y0 := blk_cell NZ.out 0; have y1 := blk_cell NZ.out 1; have y2 := blk_cell NZ.out 2; have y3 := blk_cell NZ.out 3; have y4 := blk_cell NZ.out 4; obtain ⟨r0, r2, t0, t2⟩ := E01.out) | fail)
                   refine HIX.out.mono ?_
                   rintro e1 w1 ⟨rfl, hw⟩
                   rw [hw]
                   clear hw w1
                   have HM2 : True := trivial
                   have w61 : wrap64 (k + 1) = k + 1 := w64 _ (by omega) (by omega)
                   go_wp2_with (first | ((with_reducible refine gate_dst (N := 60) rfl ?_); clear HM2 z0 z3 y0 y1 y2 y3 y4 yf r0 r2 t0 t2; have NC := Aside0.mk (blk_new W2 (.cells #[.int .i64 (k + 1), .string b.f2, .int .i64 0, .bool false, .slice none 0 0] 43 (0, 0))); have NV3 := Aside0.mk (blkA NV.out (.cells #[.int .i64 (k + 1), .string b.f2, .int .i64 0, .bool false, .slice none 0 0] 43 (0, 0))); have NZ3 := Aside0.mk (blkA NZ.out (.cells #[.int .i64 (k + 1), .string b.f2, .int .i64 0, .bool false, .slice none 0 0] 43 (0, 0))); have HB3 := Aside0.mk (HB0.out.trans (((Below.refl W2.heap.size W2).alloc (Nat.le_refl _) (.cells #[.int .i64 (k + 1), .string b.f2, .int .i64 0, .bool false, .slice none 0 0] 43 (0, 0))).mono HB0.out.size)); generalize W2.alloc (.cells #[.int .i64 (k + 1), .string b.f2, .int .i64 0, .bool false, .slice none 0 0] 43 (0, 0)) = W3 at *; have z3 := blk_cell NV3.out 3; have yf := blk_frozen NZ3.out; have y0 := blk_cell NZ3.out 0; have y1 := blk_cell NZ3.out 1; have y2 := blk_cell NZ3.out 2; have y3 := blk_cell NZ3.out 3; have y4 := blk_cell NZ3.out 4; have x0 := blk_cell NC.out 0; have x1 := blk_cell NC.out 1; have x2 := blk_cell NC.out 2; have x3 := blk_cell NC.out 3; have x4 := blk_cell NC.out 4; have xf := blk_frozen NC.out) | fail)
                   all_goals
                    refine bodyPost_ret (res_call _ _ (w.heap.size + 1) _ _ _ _ _ _ rfl rfl (zst NZ3.out _ _ _ _ _)) rfl ?_
                    exact CallQ_none (HB3.out.trans (put5_below (by omega) _ _ _ _ _))
                 · have h8' : v.f3.length = 3 := by omega
                   have i2 : (2 : Int) < (v.f3.length : Int) := by omega
                   have q8 : (((v.f3.length - 2 : Nat) : Int) != 1) = false := by rw [bne_eq_false_iff_eq]; omega
                   have j0 : (0 : Int) < ((v.f3.length - 2 : Nat) : Int) := by omega
                   have j1 : 0 < v.f3.length - 2 := by omega
                   have HE := Aside0.mk (show callR v ev = if (valsR (atL (v.f3.getD 0 zV).f2 + 1) (v.f3.getD 2 zV)).2 = true then chkC ⟨atL (v.f3.getD 0 zV).f2 + 1, (v.f3.getD 1 zV).f2, 0, true, (valsR (atL (v.f3.getD 0 zV).f2 + 1) (v.f3.getD 2 zV)).1⟩ ev else none by unfold callR; rw [if_neg h12, if_neg h34, if_neg h56, if_neg h7, if_pos h10, if_neg h8])
                   have HXF := Aside0.mk (show (v.f3.getD 2 zV).f3.length ≤ 1000000000000 from HF.out _ (by rw [List.getD_eq_getElem?_getD, List.getElem?_eq_getElem (by omega : 2 < v.f3.length)]; exact List.getElem_mem _))
                   have HRX := Aside0.mk (show rd_T51 v.f3 (2 : Int) = v.f3.getD 2 zV from rfl)
                   clear h12 h3 h4 h5 h34 h56 HR HK h7 h6 h8 h8' h10
                   generalize v.f3.getD 0 zV = a at *
                   generalize v.f3.getD 1 zV = b at *
                   generalize v.f3.getD 2 zV = x at *
                   generalize atL a.f2 = k at *
                   generalize callR v ev = res at *
                   have HM : True := trivial
                   go_enter Tryz.func56, Tryz.ntmps56
                   go_wp2_with (first | ((with_reducible refine gate_dst (N := 11) rfl ?_); clear HM; generalize (w.alloc (.cells #[.int .i64 v.f0, .int .i64 v.f1, .string v.f2, .slice (some ad) v.f3.length c3, .slice A4 v.f4.length c4] 51 (0, 0))).alloc (.cells #[.int .i64 0, .string ⟨#[]⟩, .int .i64 0, .bool false, .slice none 0 0] 43 (0, 0)) = W2 at *; have z0 := blk_cell NV.out 0; have z3 := blk_cell NV.out 3; have yf := blk_frozen NZ.out; have y0 := blk_cell NZ.out 0; have y1 := blk_cell NZ.out 1; have y2 := blk_cell NZ.out 2; have y3 := blk_cell NZ.out 3; have y4 := blk_cell NZ.out 4; obtain ⟨r0, r2, t0, t2⟩ := E01.out) | fail)
                   refine HIX.out.mono ?_
                   rintro e1 w1 ⟨rfl, hw⟩
                   rw [hw]
                   clear hw w1
                   have HM2 : True := trivial
                   have w61 : wrap64 (k + 1) = k + 1 := w64 _ (by omega) (by omega)
                   go_wp2_with (first | ((with_reducible refine gate_dst (N := 60) rfl ?_); clear HM2 z0 z3 y0 y1 y2 y3 y4 yf r0 r2 t0 t2; have NC := Aside0.mk (blk_new W2 (.cells #[.int .i64 (k + 1), .string b.f2, .int .i64 0, .bool false, .slice none 0 0] 43 (0, 0))); have NV3 := Aside0.mk (blkA NV.out (.cells #[.int .i64 (k + 1), .string b.f2, .int .i64 0, .bool false, .slice none 0 0] 43 (0, 0))); have NZ3 := Aside0.mk (blkA NZ.out (.cells #[.int .i64 (k + 1), .string b.f2, .int .i64 0, .bool false, .slice none 0 0] 43 (0, 0))); have HB3 := Aside0.mk (HB0.out.trans (((Below.refl W2.heap.size W2).alloc (Nat.le_refl _) (.cells #[.int .i64 (k + 1), .string b.f2, .int .i64 0, .bool false, .slice none 0 0] 43 (0, 0))).mono HB0.out.size)); generalize W2.alloc (.cells #[.int .i64 (k + 1), .string b.f2, .int .i64 0, .bool false, .slice none 0 0] 43 (0, 0)) = W3 at *; have z3 := blk_cell NV3.out 3; have yf := blk_frozen NZ3.out; have y0 := blk_cell NZ3.out 0; have y1 := blk_cell NZ3.out 1; have y2 := blk_cell NZ3.out 2; have y3 := blk_cell NZ3.out 3; have y4 := blk_cell NZ3.out 4; have x0 := blk_cell NC.out 0; have x1 := blk_cell NC.out 1; have x2 := blk_cell NC.out 2; have x3 := blk_cell NC.out 3; have x4 := blk_cell NC.out 4; have xf := blk_frozen NC.out) | fail)
                   all_goals
                    have NC5 := Aside0.mk (show (W3.setCell ⟨W2.heap.size, 3, none⟩ (.bool true)).heap[W2.heap.size]? = some (.cells #[.int .i64 (k + 1), .string b.f2, .int .i64 0, .bool true, .slice none 0 0] 43 (0, 0)) from Tr.blk_set NC.out 3 _)
                    have NZ5 := Aside0.mk ((Below.heap_setCell W3 ⟨W2.heap.size, 3, none⟩ (.bool true) (w.heap.size + 1) (by have := HS.out; show w.heap.size + 1 ≠ W2.heap.size; omega)).trans NZ3.out)
                    have HB5 := Aside0.mk (HB3.out.setCell (p := ⟨W2.heap.size, 3, none⟩) HB0.out.size (.bool true))
                    generalize W3.setCell ⟨W2.heap.size, 3, none⟩ (.bool true) = W5 at *
                    clear z3 y0 y1 y2 y3 y4 yf x0 x1 x2 x3 x4 xf
                    obtain ⟨ad', B7, e7, B8, e8, e, r0, r1, r2, r3, r4, m3, g3, m4, g4⟩ := at_T51 (Kd.C_below HG.out HB5.out) (2 : Int) (by omega) i2
                    cases e
                    rw [HRX.out] at r0 r1 r2 r3 r4 g3
                    rw [add_25] at r0 r1 r2 r3 r4
                    clear m3 m4 g4
                    refine start_ (n := 12) (S := (fun w' => w'.cell? ⟨W2.heap.size, 0, none⟩ = some (.int .i64 (k + 1)) ∧ w'.cell? ⟨ad.block, ad.off + 10, none⟩ = some (.int .i64 x.f0) ∧ w'.cell? ⟨ad.block, ad.off + 10 + 1, none⟩ = some (.int .i64 x.f1) ∧ w'.cell? ⟨ad.block, ad.off + 10 + 2, none⟩ = some (.string x.f2) ∧ w'.cell? ⟨ad.block, ad.off + 10 + 3, none⟩ = some (.slice B7 x.f3.length e7) ∧ w'.cell? ⟨ad.block, ad.off + 10 + 4, none⟩ = some (.slice B8 x.f4.length e8) ∧ Below W5.drew.heap.size W5.drew w')) (ds := [10]) #[fF, fF, fF, fF, fF, fF, fF, fF, fF, fF, fF, fF] (by kernel_rfl) rfl rfl ⟨blk_cell (w := W5.drew) NC5.out 0, r0, r1, r2, r3, r4, Below.refl _ _⟩ (fun hHeld => ?_)
                    refine pure_ (i := 0) (N := some 95) (v := ?_) (a' := ?_) #[tT, fF, fF, fF, fF, fF, fF, fF, fF, fF, fF, fF] rfl rfl (by kernel_rfl) (fun _ _ _ h => h) (Or.inl ⟨by rfl, ?_⟩) ?_ ?_
                    rotate_left
                    · intro w'
                      go_simp
                      with_reducible rfl
                    rotate_left
                    · simp only [Act.put, sA, sZ, sS, i64_w, i32_w]
                      rfl
                    refine take_ (i := 1) (N := some 96) (v := ?_) (a' := ?_) #[tT, tT, fF, fF, fF, fF, fF, fF, fF, fF, fF, fF] rfl rfl (by kernel_rfl) (fun _ _ _ h => h) (Or.inl ⟨by rfl, ?_⟩) hHeld ?_ ?_
                    rotate_left
                    · rintro w' ⟨s0, s1, s2, s3, s4, s5, _⟩
                      go_simp
                      with_reducible rfl
                    rotate_left
                    · simp only [Act.put, sA, sZ, sS, i64_w, i32_w]
                      rfl
                    refine pure_ (i := 2) (N := some 97) (v := ?_) (a' := ?_) #[tT, tT, tT, fF, fF, fF, fF, fF, fF, fF, fF, fF] rfl rfl (by kernel_rfl) (fun _ _ _ h => h) (Or.inl ⟨by rfl, ?_⟩) ?_ ?_
                    rotate_left
                    · intro w'
                      go_simp
                      with_reducible rfl
                    rotate_left
                    · simp only [Act.put, sA, sZ, sS, i64_w, i32_w]
                      rfl
                    refine pure_ (i := 3) (N := some 98) (v := ?_) (a' := ?_) #[tT, tT, tT, tT, fF, fF, fF, fF, fF, fF, fF, fF] rfl rfl (by kernel_rfl) (fun _ _ _ h => h) (Or.inl ⟨by rfl, ?_⟩) ?_ ?_
                    rotate_left
                    · intro w'
                      go_simp
                      with_reducible rfl
                    rotate_left
                    · simp only [Act.put, sA, sZ, sS, i64_w, i32_w]
                      rfl
                    refine take_ (i := 4) (N := some 99) (v := ?_) (a' := ?_) #[tT, tT, tT, tT, tT, fF, fF, fF, fF, fF, fF, fF] rfl rfl (by kernel_rfl) (fun _ _ _ h => h) (Or.inl ⟨by rfl, ?_⟩) hHeld ?_ ?_
                    rotate_left
                    · rintro w' ⟨s0, s1, s2, s3, s4, s5, _⟩
                      go_simp
                      with_reducible rfl
                    rotate_left
                    · simp only [Act.put, sA, sZ, sS, i64_w, i32_w]
                      rfl
                    have HDr5 := Aside0.mk (⟨rfl, rfl, rfl, Nat.le_refl _, fun _ _ => rfl⟩ : Below W5.heap.size W5 W5.drew)
                    have NC6 := Aside0.mk (show W5.drew.heap[W2.heap.size]? = some (.cells #[.int .i64 (k + 1), .string b.f2, .int .i64 0, .bool true, .slice none 0 0] 43 (0, 0)) from NC5.out)
                    have NZ6 := Aside0.mk (show W5.drew.heap[w.heap.size + 1]? = some (.cells #[.int .i64 0, .string ⟨#[]⟩, .int .i64 0, .bool false, .slice none 0 0] 43 (0, 0)) from NZ5.out)
                    have HB6 := Aside0.mk (HB5.out.trans (HDr5.out.mono HB5.out.size))
                    have EX6 := Aside0.mk (show W5.drew.cell? ⟨ad.block, ad.off + 10, none⟩ = some (.int .i64 x.f0) ∧ W5.drew.cell? ⟨ad.block, ad.off + 10 + 1, none⟩ = some (.int .i64 x.f1) ∧ W5.drew.cell? ⟨ad.block, ad.off + 10 + 2, none⟩ = some (.string x.f2) ∧ W5.drew.cell? ⟨ad.block, ad.off + 10 + 3, none⟩ = some (.slice B7 x.f3.length e7) ∧ W5.drew.cell? ⟨ad.block, ad.off + 10 + 4, none⟩ = some (.slice B8 x.f4.length e8) from ⟨r0, r1, r2, r3, r4⟩)
                    have HC6 := Aside0.mk (Kd.C_below g3 HDr5.out)
                    clear r0 r1 r2 r3 r4 g3
                    generalize W5.drew = WD at *
                    have S19 : ∀ w', Below WD.heap.size WD w' → (fun w' => w'.cell? ⟨W2.heap.size, 0, none⟩ = some (.int .i64 (k + 1)) ∧ w'.cell? ⟨ad.block, ad.off + 10, none⟩ = some (.int .i64 x.f0) ∧ w'.cell? ⟨ad.block, ad.off + 10 + 1, none⟩ = some (.int .i64 x.f1) ∧ w'.cell? ⟨ad.block, ad.off + 10 + 2, none⟩ = some (.string x.f2) ∧ w'.cell? ⟨ad.block, ad.off + 10 + 3, none⟩ = some (.slice B7 x.f3.length e7) ∧ w'.cell? ⟨ad.block, ad.off + 10 + 4, none⟩ = some (.slice B8 x.f4.length e8) ∧ Below WD.heap.size WD w') w' := fun w' hb =>
                     have q1 := (hb.block _ (blk_lt NC6.out)).trans NC6.out
                     ⟨blk_cell q1 0, cell_below' hb EX6.out.1, cell_below' hb EX6.out.2.1, cell_below' hb EX6.out.2.2.1, cell_below' hb EX6.out.2.2.2.1, cell_below' hb EX6.out.2.2.2.2, hb⟩
                    have HV := vals_calls (k + 1) x B7 e7 B8 e8 WD HXF.out HC6.out
                    have HLL := Aside0.mk (valsR_len (k + 1) x HXF.out)
                    generalize valsR (k + 1) x = rv at *
                    obtain ⟨rl, rb⟩ := rv
                    unfold ValsQ vArg at HV
                    dsimp only at HV HLL HE
                    refine one_ (i := 5) (N := some 100) #[tT, tT, tT, tT, tT, tT, fF, fF, fF, fF, fF, fF] rfl rfl (by kernel_rfl) (by decide) (fun K hK => ?_)
                    refine goes_ Tryz.func92 (by kernel_rfl) rfl #[.int .i64 (k + 1), .agg #[.int .i64 x.f0, .int .i64 x.f1, .string x.f2, .slice B7 x.f3.length e7, .slice B8 x.f4.length e8]] (by rfl) rfl rfl (by simp only [List.map_toArray, List.map_cons, List.map_nil]; rfl) ?_
                    refine HV.mono ?_
                    clear HV
                    rintro e6 w6 ⟨hb6, v6, rfl, hr6⟩
                    obtain ⟨A7, c7, rfl⟩ := Kd.R_slice hr6
                    have HR6 := Aside0.mk hr6
                    clear hr6
                    refine ⟨_, rfl, ?_⟩
                    refine hK.out _ _ (S19 w6 hb6) fun hHeld => ?_
                    clear hK K
                    refine norm_ (a' := ?_) ?_ ?_
                    rotate_left
                    · show Act.put _ (some 100) _ = _
                      simp only [Act.put, sA, sZ, sS, i64_w, i32_w]
                      rfl
                    refine pure_ (i := 6) (N := some 94) (v := ?_) (a' := ?_) #[tT, tT, tT, tT, tT, tT, tT, fF, fF, fF, fF, fF] rfl rfl (by kernel_rfl) (fun _ _ _ h => h) (Or.inl ⟨by rfl, ?_⟩) ?_ ?_
                    rotate_left
                    · intro w'
                      go_simp
                      with_reducible rfl
                    rotate_left
                    · simp only [Act.put, sA, sZ, sS, i64_w, i32_w]
                      rfl
                    refine pure_ (i := 7) (N := some 101) (v := ?_) (a' := ?_) #[tT, tT, tT, tT, tT, tT, tT, tT, fF, fF, fF, fF] rfl rfl (by kernel_rfl) (fun _ _ _ h => h) (Or.inl ⟨by rfl, ?_⟩) ?_ ?_
                    rotate_left
                    · intro w'
                      go_simp
                      with_reducible rfl
                    rotate_left
                    · simp only [Act.put, sA, sZ, sS, i64_w, i32_w]
                      rfl
                    refine pure_ (i := 8) (N := some 102) (v := ?_) (a' := ?_) #[tT, tT, tT, tT, tT, tT, tT, tT, tT, fF, fF, fF] rfl rfl (by kernel_rfl) (fun _ _ _ h => h) (Or.inl ⟨by rfl, ?_⟩) ?_ ?_
                    rotate_left
                    · intro w'
                      go_simp
                      with_reducible rfl
                    rotate_left
                    · simp only [Act.put, sA, sZ, sS, i64_w, i32_w]
                      rfl
                    refine pure_ (i := 9) (N := some 103) (v := ?_) (a' := ?_) #[tT, tT, tT, tT, tT, tT, tT, tT, tT, tT, fF, fF] rfl rfl (by kernel_rfl) (fun _ _ _ h => h) (Or.inl ⟨by rfl, ?_⟩) ?_ ?_
                    rotate_left
                    · intro w'
                      go_simp
                      with_reducible rfl
                    rotate_left
                    · simp only [Act.put, sA, sZ, sS, i64_w, i32_w]
                      rfl
                    have NC7 := Aside0.mk ((hb6.block _ (blk_lt NC6.out)).trans NC6.out)
                    have NZ7 := Aside0.mk ((hb6.block _ (blk_lt NZ6.out)).trans NZ6.out)
                    have v4 := blk_cell NC7.out 4
                    have vf := blk_frozen NC7.out
                    refine last_ (i := 10) (N := none) #[tT, tT, tT, tT, tT, tT, tT, tT, tT, tT, tT, fF] rfl rfl (by kernel_rfl) (by decide) (fun K hK => ?_)
                    rw [if_pos (by rfl)]
                    unfold Oper.wp
                    go_simp
                    refine hK.out _ _ ?_
                    clear hK K v4 vf hHeld
                    refine pure_ (i := 11) (N := some 10) (v := ?_) (a' := ?_) #[tT, tT, tT, tT, tT, tT, tT, tT, tT, tT, tT, tT] rfl rfl (by kernel_rfl) (fun _ _ _ h => h) (Or.inl ⟨by rfl, ?_⟩) ?_ ?_
                    rotate_left
                    · intro w'
                      go_simp
                      with_reducible rfl
                    rotate_left
                    · simp only [Act.put, sA, sZ, sS, i64_w, i32_w]
                      rfl
                    refine done_ (by kernel_rfl) ?_
                    have HB7 := Aside0.mk (HB6.out.trans (hb6.mono HB6.out.size))
                    have NC4 := Aside0.mk (show (w6.setCell ⟨W2.heap.size, 4, none⟩ (.slice A7 rl.length c7)).heap[W2.heap.size]? = some (.cells #[.int .i64 (k + 1), .string b.f2, .int .i64 0, .bool true, .slice A7 rl.length c7] 43 (0, 0)) from Tr.blk_set NC7.out 4 _)
                    have NZ4 := Aside0.mk ((Below.heap_setCell w6 ⟨W2.heap.size, 4, none⟩ (.slice A7 rl.length c7) (w.heap.size + 1) (by have := HS.out; show w.heap.size + 1 ≠ W2.heap.size; omega)).trans NZ7.out)
                    have HB4 := Aside0.mk (HB7.out.setCell (p := ⟨W2.heap.size, 4, none⟩) HB0.out.size (.slice A7 rl.length c7))
                    have hl1 := blk_lt NC6.out
                    have hl2 := blk_lt NZ6.out
                    have R4 := Aside0.mk (Kd.R_mono (Kd.R_lower (Kd.R_move (Kd.R_bound HR6.out) (fun k hk => Below.heap_setCell w6 ⟨W2.heap.size, 4, none⟩ (.slice A7 rl.length c7) k (by have := hk.2.1; intro e; have e' : k = W2.heap.size := e; omega))) HB6.out.size) (fun k hk => show k ≠ w.heap.size + 1 by have := hk.2.1; omega))
                    clear NC7 NZ7 hl1 hl2 S19
                    generalize w6.setCell ⟨W2.heap.size, 4, none⟩ (.slice A7 rl.length c7) = W4 at *
                    go_wp2
                    cases rb with
                    | false =>
                     refine start_ (n := 9) (S := (fun w' => w'.cell? ⟨W2.heap.size, 0, none⟩ = some (.int .i64 (k + 1)) ∧ w'.cell? ⟨W2.heap.size, 1, none⟩ = some (.string b.f2) ∧ w'.cell? ⟨W2.heap.size, 2, none⟩ = some (.int .i64 (0)) ∧ w'.cell? ⟨W2.heap.size, 3, none⟩ = some (.bool true) ∧ w'.cell? ⟨W2.heap.size, 4, none⟩ = some (.slice A7 rl.length c7) ∧ Below W4.drew.heap.size W4.drew w')) (ds := [7]) #[fF, fF, fF, fF, fF, fF, fF, fF, fF] (by kernel_rfl) rfl rfl ⟨blk_cell (w := W4.drew) NC4.out 0, blk_cell (w := W4.drew) NC4.out 1, blk_cell (w := W4.drew) NC4.out 2, blk_cell (w := W4.drew) NC4.out 3, blk_cell (w := W4.drew) NC4.out 4, Below.refl _ _⟩ (fun hHeld => ?_)
                     refine take_ (i := 0) (N := some 104) (v := ?_) (a' := ?_) #[tT, fF, fF, fF, fF, fF, fF, fF, fF] rfl rfl (by kernel_rfl) (fun _ _ _ h => h) (Or.inl ⟨by rfl, ?_⟩) hHeld ?_ ?_
                     rotate_left
                     · rintro w' ⟨s0, s1, s2, s3, s4, _⟩
                       go_simp
                       with_reducible rfl
                     rotate_left
                     · simp only [Act.put, sA, sZ, sS, i64_w, i32_w]
                       rfl
                     refine pure_ (i := 1) (N := some 105) (v := ?_) (a' := ?_) #[tT, tT, fF, fF, fF, fF, fF, fF, fF] rfl rfl (by kernel_rfl) (fun _ _ _ h => h) (Or.inl ⟨by rfl, ?_⟩) ?_ ?_
                     rotate_left
                     · intro w'
                       go_simp
                       with_reducible rfl
                     rotate_left
                     · simp only [Act.put, sA, sZ, sS, i64_w, i32_w]
                       rfl
                     refine pure_ (i := 2) (N := some 106) (v := ?_) (a' := ?_) #[tT, tT, tT, fF, fF, fF, fF, fF, fF] rfl rfl (by kernel_rfl) (fun _ _ _ h => h) (Or.inl ⟨by rfl, ?_⟩) ?_ ?_
                     rotate_left
                     · intro w'
                       go_simp
                       with_reducible rfl
                     rotate_left
                     · simp only [Act.put, sA, sZ, sS, i64_w, i32_w]
                       rfl
                     refine pure_ (i := 3) (N := some 107) (v := undef) (a' := ?_) #[tT, tT, tT, tT, fF, fF, fF, fF, fF] rfl rfl (by kernel_rfl) (fun _ _ _ h => h) (Or.inr ⟨by rfl, rfl⟩) ?_ ?_
                     rotate_left
                     · simp only [Act.put, sA, sZ, sS, i64_w, i32_w]
                       rfl
                     refine pure_ (i := 4) (N := some 108) (v := undef) (a' := ?_) #[tT, tT, tT, tT, tT, fF, fF, fF, fF] rfl rfl (by kernel_rfl) (fun _ _ _ h => h) (Or.inr ⟨by rfl, rfl⟩) ?_ ?_
                     rotate_left
                     · simp only [Act.put, sA, sZ, sS, i64_w, i32_w]
                       rfl
                     refine pure_ (i := 5) (N := some 109) (v := undef) (a' := ?_) #[tT, tT, tT, tT, tT, tT, fF, fF, fF] rfl rfl (by kernel_rfl) (fun _ _ _ h => h) (Or.inr ⟨by rfl, rfl⟩) ?_ ?_
                     rotate_left
                     · simp only [Act.put, sA, sZ, sS, i64_w, i32_w]
                       rfl
                     have HDr := Aside0.mk (⟨rfl, rfl, rfl, Nat.le_refl _, fun _ _ => rfl⟩ : Below W4.heap.size W4 W4.drew)
                     have NCd := Aside0.mk (show W4.drew.heap[W2.heap.size]? = some (.cells #[.int .i64 (k + 1), .string b.f2, .int .i64 (0), .bool true, .slice A7 rl.length c7] 43 (0, 0)) from NC4.out)
                     have NZd := Aside0.mk (show W4.drew.heap[w.heap.size + 1]? = some (.cells #[.int .i64 0, .string ⟨#[]⟩, .int .i64 0, .bool false, .slice none 0 0] 43 (0, 0)) from NZ4.out)
                     have HBd := Aside0.mk (HB4.out.trans (HDr.out.mono HB4.out.size))
                     have RVd := Aside0.mk (Kd.R_below R4.out HDr.out)
                     generalize W4.drew = Wd at *
                     have S20 : ∀ w', Below Wd.heap.size Wd w' → (fun w' => w'.cell? ⟨W2.heap.size, 0, none⟩ = some (.int .i64 (k + 1)) ∧ w'.cell? ⟨W2.heap.size, 1, none⟩ = some (.string b.f2) ∧ w'.cell? ⟨W2.heap.size, 2, none⟩ = some (.int .i64 (0)) ∧ w'.cell? ⟨W2.heap.size, 3, none⟩ = some (.bool true) ∧ w'.cell? ⟨W2.heap.size, 4, none⟩ = some (.slice A7 rl.length c7) ∧ Below Wd.heap.size Wd w') w' := fun w' hb =>
                      have q1 := (hb.block _ (blk_lt NCd.out)).trans NCd.out
                      ⟨blk_cell q1 0, blk_cell q1 1, blk_cell q1 2, blk_cell q1 3, blk_cell q1 4, hb⟩
                     have hb9 := Below.refl Wd.heap.size Wd
                     refine pure_ (i := 6) (N := some 110) (v := ?_) (a' := ?_) #[tT, tT, tT, tT, tT, tT, tT, fF, fF] rfl rfl (by kernel_rfl) (fun _ _ _ h => h) (Or.inl ⟨by rfl, ?_⟩) ?_ ?_
                     rotate_left
                     · intro w'
                       go_simp
                       with_reducible rfl
                     rotate_left
                     · simp only [Act.put, sA, sZ, sS, i64_w, i32_w]
                       rfl
                     have NZ9 := Aside0.mk ((hb9.block _ (blk_lt NZd.out)).trans NZd.out)
                     have v0 := blk_cell NZ9.out 0
                     have v1 := blk_cell NZ9.out 1
                     have v2 := blk_cell NZ9.out 2
                     have v3 := blk_cell NZ9.out 3
                     have v4 := blk_cell NZ9.out 4
                     have vf := blk_frozen NZ9.out
                     refine last_ (i := 7) (N := none) #[tT, tT, tT, tT, tT, tT, tT, tT, fF] rfl rfl (by kernel_rfl) (by decide) (fun K hK => ?_)
                     rw [if_pos (by rfl)]
                     unfold Oper.wp
                     go_simp
                     refine hK.out _ _ ?_
                     clear hK K
                     refine pure_ (i := 8) (N := some 5) (v := ?_) (a' := ?_) #[tT, tT, tT, tT, tT, tT, tT, tT, tT] rfl rfl (by kernel_rfl) (fun _ _ _ h => h) (Or.inl ⟨by rfl, ?_⟩) ?_ ?_
                     rotate_left
                     · intro w'
                       go_simp
                       with_reducible rfl
                     rotate_left
                     · simp only [Act.put, sA, sZ, sS, i64_w, i32_w]
                       rfl
                     refine done_ (by kernel_rfl) ?_
                     have HP9 := Aside0.mk (HBd.out.trans ((hb9.mono HBd.out.size).trans (put5_below (g := w.heap.size + 1) (k := 0) (by omega) (.int .i64 (k + 1)) (.string b.f2) (.int .i64 (0)) (.bool true) (.slice A7 rl.length c7))))
                     go_wp2
                     refine bodyPost_ret (res_call _ _ (w.heap.size + 1) _ _ _ _ _ _ rfl rfl (zst NZ9.out _ _ _ _ _)) rfl ?_

                     rw [HE.out, if_neg (by decide)]
                     exact CallQ_no (⟨k + 1, b.f2, 0, true, rl⟩ : Cl) _ HP9.out (Kd.R_mono (Kd.R_step (Kd.R_below RVd.out hb9) (fun k hk _ => put5_far hk _ _ _ _ _)) (fun _ _ => trivial))
                    | true =>
                     refine start_ (n := 9) (S := (fun w' => w'.cell? ⟨W2.heap.size, 0, none⟩ = some (.int .i64 (k + 1)) ∧ w'.cell? ⟨W2.heap.size, 1, none⟩ = some (.string b.f2) ∧ w'.cell? ⟨W2.heap.size, 2, none⟩ = some (.int .i64 (0)) ∧ w'.cell? ⟨W2.heap.size, 3, none⟩ = some (.bool true) ∧ w'.cell? ⟨W2.heap.size, 4, none⟩ = some (.slice A7 rl.length c7) ∧ Below W4.drew.heap.size W4.drew w')) (ds := [7]) #[fF, fF, fF, fF, fF, fF, fF, fF, fF] (by kernel_rfl) rfl rfl ⟨blk_cell (w := W4.drew) NC4.out 0, blk_cell (w := W4.drew) NC4.out 1, blk_cell (w := W4.drew) NC4.out 2, blk_cell (w := W4.drew) NC4.out 3, blk_cell (w := W4.drew) NC4.out 4, Below.refl _ _⟩ (fun hHeld => ?_)
                     refine take_ (i := 0) (N := some 104) (v := ?_) (a' := ?_) #[tT, fF, fF, fF, fF, fF, fF, fF, fF] rfl rfl (by kernel_rfl) (fun _ _ _ h => h) (Or.inl ⟨by rfl, ?_⟩) hHeld ?_ ?_
                     rotate_left
                     · rintro w' ⟨s0, s1, s2, s3, s4, _⟩
                       go_simp
                       with_reducible rfl
                     rotate_left
                     · simp only [Act.put, sA, sZ, sS, i64_w, i32_w]
                       rfl
                     refine pure_ (i := 1) (N := some 105) (v := ?_) (a' := ?_) #[tT, tT, fF, fF, fF, fF, fF, fF, fF] rfl rfl (by kernel_rfl) (fun _ _ _ h => h) (Or.inl ⟨by rfl, ?_⟩) ?_ ?_
                     rotate_left
                     · intro w'
                       go_simp
                       with_reducible rfl
                     rotate_left
                     · simp only [Act.put, sA, sZ, sS, i64_w, i32_w]
                       rfl
                     refine pure_ (i := 2) (N := some 106) (v := ?_) (a' := ?_) #[tT, tT, tT, fF, fF, fF, fF, fF, fF] rfl rfl (by kernel_rfl) (fun _ _ _ h => h) (Or.inl ⟨by rfl, ?_⟩) ?_ ?_
                     rotate_left
                     · intro w'
                       go_simp
                       with_reducible rfl
                     rotate_left
                     · simp only [Act.put, sA, sZ, sS, i64_w, i32_w]
                       rfl
                     refine take_ (i := 3) (N := some 107) (v := ?_) (a' := ?_) #[tT, tT, tT, tT, fF, fF, fF, fF, fF] rfl rfl (by kernel_rfl) (fun _ _ _ h => h) (Or.inl ⟨by rfl, ?_⟩) hHeld ?_ ?_
                     rotate_left
                     · rintro w' ⟨s0, s1, s2, s3, s4, _⟩
                       go_simp
                       with_reducible rfl
                     rotate_left
                     · simp only [Act.put, sA, sZ, sS, i64_w, i32_w]
                       rfl
                     refine pure_ (i := 4) (N := some 108) (v := ?_) (a' := ?_) #[tT, tT, tT, tT, tT, fF, fF, fF, fF] rfl rfl (by kernel_rfl) (fun _ _ _ h => h) (Or.inl ⟨by rfl, ?_⟩) ?_ ?_
                     rotate_left
                     · intro w'
                       go_simp
                       with_reducible rfl
                     rotate_left
                     · simp only [Act.put, sA, sZ, sS, i64_w, i32_w]
                       rfl
                     have HDr := Aside0.mk (⟨rfl, rfl, rfl, Nat.le_refl _, fun _ _ => rfl⟩ : Below W4.heap.size W4 W4.drew)
                     have NCd := Aside0.mk (show W4.drew.heap[W2.heap.size]? = some (.cells #[.int .i64 (k + 1), .string b.f2, .int .i64 (0), .bool true, .slice A7 rl.length c7] 43 (0, 0)) from NC4.out)
                     have NZd := Aside0.mk (show W4.drew.heap[w.heap.size + 1]? = some (.cells #[.int .i64 0, .string ⟨#[]⟩, .int .i64 0, .bool false, .slice none 0 0] 43 (0, 0)) from NZ4.out)
                     have HBd := Aside0.mk (HB4.out.trans (HDr.out.mono HB4.out.size))
                     have RVd := Aside0.mk (Kd.R_below R4.out HDr.out)
                     generalize W4.drew = Wd at *
                     have S20 : ∀ w', Below Wd.heap.size Wd w' → (fun w' => w'.cell? ⟨W2.heap.size, 0, none⟩ = some (.int .i64 (k + 1)) ∧ w'.cell? ⟨W2.heap.size, 1, none⟩ = some (.string b.f2) ∧ w'.cell? ⟨W2.heap.size, 2, none⟩ = some (.int .i64 (0)) ∧ w'.cell? ⟨W2.heap.size, 3, none⟩ = some (.bool true) ∧ w'.cell? ⟨W2.heap.size, 4, none⟩ = some (.slice A7 rl.length c7) ∧ Below Wd.heap.size Wd w') w' := fun w' hb =>
                      have q1 := (hb.block _ (blk_lt NCd.out)).trans NCd.out
                      ⟨blk_cell q1 0, blk_cell q1 1, blk_cell q1 2, blk_cell q1 3, blk_cell q1 4, hb⟩
                     obtain ⟨A9, c9, e9, l9, g9⟩ := Kd.R_reads RVd.out
                     cases e9
                     have HSN := wire_sound.calls (2 * (rl).length + 8) (k + 1) b.f2 (0) true A7 c7 rl ev (soundC (⟨k + 1, b.f2, 0, true, rl⟩ : Cl) ev) Wd g9 l9 (sound_pure (⟨k + 1, b.f2, 0, true, rl⟩ : Cl) ev (by first | exact HLL.out | exact Nat.zero_le _) _ (Nat.le_refl _))
                     refine one_ (i := 5) (N := some 109) #[tT, tT, tT, tT, tT, tT, fF, fF, fF] rfl rfl (by kernel_rfl) (by decide) (fun K hK => ?_)
                     refine goes_ Tryz.func41 (by kernel_rfl) rfl #[.agg #[.int .i64 (k + 1), .string b.f2, .int .i64 (0), .bool true, .slice A7 rl.length c7], .int .i64 ev] (by rfl) rfl rfl (by simp only [List.map_toArray, List.map_cons, List.map_nil]; rfl) ?_
                     refine HSN.mono ?_
                     clear HSN
                     rintro e9 w9 ⟨rfl, hb9⟩
                     refine ⟨_, rfl, ?_⟩
                     refine hK.out _ _ (S20 w9 hb9) fun hHeld => ?_
                     clear hK K
                     refine norm_ (a' := ?_) ?_ ?_
                     rotate_left
                     · show Act.put _ (some 109) _ = _
                       simp only [Act.put, sA, sZ, sS, i64_w, i32_w]
                       rfl
                     generalize hsc : soundC (⟨k + 1, b.f2, 0, true, rl⟩ : Cl) ev = r9 at *
                     refine pure_ (i := 6) (N := some 110) (v := ?_) (a' := ?_) #[tT, tT, tT, tT, tT, tT, tT, fF, fF] rfl rfl (by kernel_rfl) (fun _ _ _ h => h) (Or.inl ⟨by rfl, ?_⟩) ?_ ?_
                     rotate_left
                     · intro w'
                       go_simp
                       with_reducible rfl
                     rotate_left
                     · simp only [Act.put, sA, sZ, sS, i64_w, i32_w]
                       rfl
                     have NZ9 := Aside0.mk ((hb9.block _ (blk_lt NZd.out)).trans NZd.out)
                     have v0 := blk_cell NZ9.out 0
                     have v1 := blk_cell NZ9.out 1
                     have v2 := blk_cell NZ9.out 2
                     have v3 := blk_cell NZ9.out 3
                     have v4 := blk_cell NZ9.out 4
                     have vf := blk_frozen NZ9.out
                     refine last_ (i := 7) (N := none) #[tT, tT, tT, tT, tT, tT, tT, tT, fF] rfl rfl (by kernel_rfl) (by decide) (fun K hK => ?_)
                     rw [if_pos (by rfl)]
                     unfold Oper.wp
                     go_simp
                     refine hK.out _ _ ?_
                     clear hK K
                     refine pure_ (i := 8) (N := some 5) (v := ?_) (a' := ?_) #[tT, tT, tT, tT, tT, tT, tT, tT, tT] rfl rfl (by kernel_rfl) (fun _ _ _ h => h) (Or.inl ⟨by rfl, ?_⟩) ?_ ?_
                     rotate_left
                     · intro w'
                       go_simp
                       with_reducible rfl
                     rotate_left
                     · simp only [Act.put, sA, sZ, sS, i64_w, i32_w]
                       rfl
                     refine done_ (by kernel_rfl) ?_
                     have HP9 := Aside0.mk (HBd.out.trans ((hb9.mono HBd.out.size).trans (put5_below (g := w.heap.size + 1) (k := 0) (by omega) (.int .i64 (k + 1)) (.string b.f2) (.int .i64 (0)) (.bool true) (.slice A7 rl.length c7))))
                     go_wp2
                     refine bodyPost_ret (res_call _ _ (w.heap.size + 1) _ _ _ _ _ _ rfl rfl (zst NZ9.out _ _ _ _ _)) rfl ?_
                     subst hsc
                     rw [HE.out]; simp only [if_true]
                     exact CallQ_chk (⟨k + 1, b.f2, 0, true, rl⟩ : Cl) _ ev HP9.out (Kd.R_mono (Kd.R_step (Kd.R_below RVd.out hb9) (fun k hk _ => put5_far hk _ _ _ _ _)) (fun _ _ => trivial))
               · have q10 : (ev == 1) = false := by simp [h10]
                 by_cases h8 : v.f3.length ≠ 2
                 · have HE : Aside0 (callR v ev = none) := Aside0.mk (by unfold callR; rw [if_neg h12, if_neg h34, if_neg h56, if_neg h7, if_neg h10, if_pos h8])
                   have q8 : (((v.f3.length - 2 : Nat) : Int) == 0) = false := by rw [beq_eq_false_iff_ne]; omega
                   have q8' : ((v.f3.length - 2 : Nat) == 0) = false := by rw [beq_eq_false_iff_ne]; omega
                   rw [HE.out]
                   clear HE h12 h3 h4 h5 h34 h56 HR HK h7 h6 h10 h8
                   generalize v.f3.getD 0 zV = a at *
                   generalize v.f3.getD 1 zV = b at *
                   generalize atL a.f2 = k at *
                   have HM : True := trivial
                   go_enter Tryz.func56, Tryz.ntmps56
                   go_wp2_with (first | ((with_reducible refine gate_dst (N := 11) rfl ?_); clear HM; generalize (w.alloc (.cells #[.int .i64 v.f0, .int .i64 v.f1, .string v.f2, .slice (some ad) v.f3.length c3, .slice A4 v.f4.length c4] 51 (0, 0))).alloc (.cells #[.int .i64 0, .string ⟨#[]⟩, .int .i64 0, .bool false, .slice none 0 0] 43 (0, 0)) = W2 at *; have z0 := blk_cell NV.out 0; have z3 := blk_cell NV.out 3; have yf := blk_frozen NZ.out; have y0 := blk_cell NZ.out 0; have y1 := blk_cell NZ.out 1; have y2 := blk_cell NZ.out 2; have y3 := blk_cell NZ.out 3; have y4 := blk_cell NZ.out 4; obtain ⟨r0, r2, t0, t2⟩ := E01.out) | fail)
                   refine HIX.out.mono ?_
                   rintro e1 w1 ⟨rfl, hw⟩
                   rw [hw]
                   clear hw w1
                   have HM2 : True := trivial
                   have w61 : wrap64 (k + 1) = k + 1 := w64 _ (by omega) (by omega)
                   go_wp2_with (first | ((with_reducible refine gate_dst (N := 60) rfl ?_); clear HM2 z0 z3 y0 y1 y2 y3 y4 yf r0 r2 t0 t2; have NC := Aside0.mk (blk_new W2 (.cells #[.int .i64 (k + 1), .string b.f2, .int .i64 0, .bool false, .slice none 0 0] 43 (0, 0))); have NV3 := Aside0.mk (blkA NV.out (.cells #[.int .i64 (k + 1), .string b.f2, .int .i64 0, .bool false, .slice none 0 0] 43 (0, 0))); have NZ3 := Aside0.mk (blkA NZ.out (.cells #[.int .i64 (k + 1), .string b.f2, .int .i64 0, .bool false, .slice none 0 0] 43 (0, 0))); have HB3 := Aside0.mk (HB0.out.trans (((Below.refl W2.heap.size W2).alloc (Nat.le_refl _) (.cells #[.int .i64 (k + 1), .string b.f2, .int .i64 0, .bool false, .slice none 0 0] 43 (0, 0))).mono HB0.out.size)); generalize W2.alloc (.cells #[.int .i64 (k + 1), .string b.f2, .int .i64 0, .bool false, .slice none 0 0] 43 (0, 0)) = W3 at *; have z3 := blk_cell NV3.out 3; have yf := blk_frozen NZ3.out; have y0 := blk_cell NZ3.out 0; have y1 := blk_cell NZ3.out 1; have y2 := blk_cell NZ3.out 2; have y3 := blk_cell NZ3.out 3; have y4 := blk_cell NZ3.out 4; have x0 := blk_cell NC.out 0; have x1 := blk_cell NC.out 1; have x2 := blk_cell NC.out 2; have x3 := blk_cell NC.out 3; have x4 := blk_cell NC.out 4; have xf := blk_frozen NC.out) | fail)
                   all_goals
                    have NC4 := NC
                    have NZ4 := NZ3
                    have HB4 := HB3
                    have R4 := Aside0.mk (Kd.R_nil (Kd.int .i64) 2 W3 w.heap.size (fun k => k ≠ w.heap.size + 1))
                    clear z3 y0 y1 y2 y3 y4 yf x0 x1 x2 x3 x4 xf
                    refine start_ (n := 9) (S := (fun w' => w'.cell? ⟨W2.heap.size, 0, none⟩ = some (.int .i64 (k + 1)) ∧ w'.cell? ⟨W2.heap.size, 1, none⟩ = some (.string b.f2) ∧ w'.cell? ⟨W2.heap.size, 2, none⟩ = some (.int .i64 (0)) ∧ w'.cell? ⟨W2.heap.size, 3, none⟩ = some (.bool false) ∧ w'.cell? ⟨W2.heap.size, 4, none⟩ = some (.slice none 0 0) ∧ Below W3.drew.heap.size W3.drew w')) (ds := [7]) #[fF, fF, fF, fF, fF, fF, fF, fF, fF] (by kernel_rfl) rfl rfl ⟨blk_cell (w := W3.drew) NC4.out 0, blk_cell (w := W3.drew) NC4.out 1, blk_cell (w := W3.drew) NC4.out 2, blk_cell (w := W3.drew) NC4.out 3, blk_cell (w := W3.drew) NC4.out 4, Below.refl _ _⟩ (fun hHeld => ?_)
                    refine take_ (i := 0) (N := some 104) (v := ?_) (a' := ?_) #[tT, fF, fF, fF, fF, fF, fF, fF, fF] rfl rfl (by kernel_rfl) (fun _ _ _ h => h) (Or.inl ⟨by rfl, ?_⟩) hHeld ?_ ?_
                    rotate_left
                    · rintro w' ⟨s0, s1, s2, s3, s4, _⟩
                      go_simp
                      with_reducible rfl
                    rotate_left
                    · simp only [Act.put, sA, sZ, sS, i64_w, i32_w]
                      rfl
                    refine pure_ (i := 1) (N := some 105) (v := ?_) (a' := ?_) #[tT, tT, fF, fF, fF, fF, fF, fF, fF] rfl rfl (by kernel_rfl) (fun _ _ _ h => h) (Or.inl ⟨by rfl, ?_⟩) ?_ ?_
                    rotate_left
                    · intro w'
                      go_simp
                      with_reducible rfl
                    rotate_left
                    · simp only [Act.put, sA, sZ, sS, i64_w, i32_w]
                      rfl
                    refine pure_ (i := 2) (N := some 106) (v := ?_) (a' := ?_) #[tT, tT, tT, fF, fF, fF, fF, fF, fF] rfl rfl (by kernel_rfl) (fun _ _ _ h => h) (Or.inl ⟨by rfl, ?_⟩) ?_ ?_
                    rotate_left
                    · intro w'
                      go_simp
                      with_reducible rfl
                    rotate_left
                    · simp only [Act.put, sA, sZ, sS, i64_w, i32_w]
                      rfl
                    refine pure_ (i := 3) (N := some 107) (v := undef) (a' := ?_) #[tT, tT, tT, tT, fF, fF, fF, fF, fF] rfl rfl (by kernel_rfl) (fun _ _ _ h => h) (Or.inr ⟨by rfl, rfl⟩) ?_ ?_
                    rotate_left
                    · simp only [Act.put, sA, sZ, sS, i64_w, i32_w]
                      rfl
                    refine pure_ (i := 4) (N := some 108) (v := undef) (a' := ?_) #[tT, tT, tT, tT, tT, fF, fF, fF, fF] rfl rfl (by kernel_rfl) (fun _ _ _ h => h) (Or.inr ⟨by rfl, rfl⟩) ?_ ?_
                    rotate_left
                    · simp only [Act.put, sA, sZ, sS, i64_w, i32_w]
                      rfl
                    refine pure_ (i := 5) (N := some 109) (v := undef) (a' := ?_) #[tT, tT, tT, tT, tT, tT, fF, fF, fF] rfl rfl (by kernel_rfl) (fun _ _ _ h => h) (Or.inr ⟨by rfl, rfl⟩) ?_ ?_
                    rotate_left
                    · simp only [Act.put, sA, sZ, sS, i64_w, i32_w]
                      rfl
                    have HDr := Aside0.mk (⟨rfl, rfl, rfl, Nat.le_refl _, fun _ _ => rfl⟩ : Below W3.heap.size W3 W3.drew)
                    have NCd := Aside0.mk (show W3.drew.heap[W2.heap.size]? = some (.cells #[.int .i64 (k + 1), .string b.f2, .int .i64 (0), .bool false, .slice none 0 0] 43 (0, 0)) from NC4.out)
                    have NZd := Aside0.mk (show W3.drew.heap[w.heap.size + 1]? = some (.cells #[.int .i64 0, .string ⟨#[]⟩, .int .i64 0, .bool false, .slice none 0 0] 43 (0, 0)) from NZ4.out)
                    have HBd := Aside0.mk (HB4.out.trans (HDr.out.mono HB4.out.size))
                    have RVd := Aside0.mk (Kd.R_below R4.out HDr.out)
                    generalize W3.drew = Wd at *
                    have S20 : ∀ w', Below Wd.heap.size Wd w' → (fun w' => w'.cell? ⟨W2.heap.size, 0, none⟩ = some (.int .i64 (k + 1)) ∧ w'.cell? ⟨W2.heap.size, 1, none⟩ = some (.string b.f2) ∧ w'.cell? ⟨W2.heap.size, 2, none⟩ = some (.int .i64 (0)) ∧ w'.cell? ⟨W2.heap.size, 3, none⟩ = some (.bool false) ∧ w'.cell? ⟨W2.heap.size, 4, none⟩ = some (.slice none 0 0) ∧ Below Wd.heap.size Wd w') w' := fun w' hb =>
                     have q1 := (hb.block _ (blk_lt NCd.out)).trans NCd.out
                     ⟨blk_cell q1 0, blk_cell q1 1, blk_cell q1 2, blk_cell q1 3, blk_cell q1 4, hb⟩
                    have hb9 := Below.refl Wd.heap.size Wd
                    refine pure_ (i := 6) (N := some 110) (v := ?_) (a' := ?_) #[tT, tT, tT, tT, tT, tT, tT, fF, fF] rfl rfl (by kernel_rfl) (fun _ _ _ h => h) (Or.inl ⟨by rfl, ?_⟩) ?_ ?_
                    rotate_left
                    · intro w'
                      go_simp
                      with_reducible rfl
                    rotate_left
                    · simp only [Act.put, sA, sZ, sS, i64_w, i32_w]
                      rfl
                    have NZ9 := Aside0.mk ((hb9.block _ (blk_lt NZd.out)).trans NZd.out)
                    have v0 := blk_cell NZ9.out 0
                    have v1 := blk_cell NZ9.out 1
                    have v2 := blk_cell NZ9.out 2
                    have v3 := blk_cell NZ9.out 3
                    have v4 := blk_cell NZ9.out 4
                    have vf := blk_frozen NZ9.out
                    refine last_ (i := 7) (N := none) #[tT, tT, tT, tT, tT, tT, tT, tT, fF] rfl rfl (by kernel_rfl) (by decide) (fun K hK => ?_)
                    rw [if_pos (by rfl)]
                    unfold Oper.wp
                    go_simp
                    refine hK.out _ _ ?_
                    clear hK K
                    refine pure_ (i := 8) (N := some 5) (v := ?_) (a' := ?_) #[tT, tT, tT, tT, tT, tT, tT, tT, tT] rfl rfl (by kernel_rfl) (fun _ _ _ h => h) (Or.inl ⟨by rfl, ?_⟩) ?_ ?_
                    rotate_left
                    · intro w'
                      go_simp
                      with_reducible rfl
                    rotate_left
                    · simp only [Act.put, sA, sZ, sS, i64_w, i32_w]
                      rfl
                    refine done_ (by kernel_rfl) ?_
                    have HP9 := Aside0.mk (HBd.out.trans ((hb9.mono HBd.out.size).trans (put5_below (g := w.heap.size + 1) (k := 0) (by omega) (.int .i64 (k + 1)) (.string b.f2) (.int .i64 (0)) (.bool false) (.slice none 0 0))))
                    go_wp2
                    refine bodyPost_ret (res_call _ _ (w.heap.size + 1) _ _ _ _ _ _ rfl rfl (zst NZ9.out _ _ _ _ _)) rfl ?_


                    exact CallQ_no (⟨k + 1, b.f2, 0, false, []⟩ : Cl) _ HP9.out (Kd.R_mono (Kd.R_step (Kd.R_below RVd.out hb9) (fun k hk _ => put5_far hk _ _ _ _ _)) (fun _ _ => trivial))
                 · have HE : Aside0 (callR v ev = chkC ⟨atL (v.f3.getD 0 zV).f2 + 1, (v.f3.getD 1 zV).f2, 0, false, []⟩ ev) := Aside0.mk (by unfold callR; rw [if_neg h12, if_neg h34, if_neg h56, if_neg h7, if_neg h10, if_neg h8])
                   have q8 : (((v.f3.length - 2 : Nat) : Int) == 0) = true := by rw [beq_iff_eq]; omega
                   have q8' : ((v.f3.length - 2 : Nat) == 0) = true := by rw [beq_iff_eq]; omega
                   rw [HE.out]
                   clear HE h12 h3 h4 h5 h34 h56 HR HK h7 h6 h10 h8
                   generalize v.f3.getD 0 zV = a at *
                   generalize v.f3.getD 1 zV = b at *
                   generalize atL a.f2 = k at *
                   have HM : True := trivial
                   go_enter Tryz.func56, Tryz.ntmps56
                   go_wp2_with (first | ((with_reducible refine gate_dst (N := 11) rfl ?_); clear HM; generalize (w.alloc (.cells #[.int .i64 v.f0, .int .i64 v.f1, .string v.f2, .slice (some ad) v.f3.length c3, .slice A4 v.f4.length c4] 51 (0, 0))).alloc (.cells #[.int .i64 0, .string ⟨#[]⟩, .int .i64 0, .bool false, .slice none 0 0] 43 (0, 0)) = W2 at *; have z0 := blk_cell NV.out 0; have z3 := blk_cell NV.out 3; have yf := blk_frozen NZ.out; have y0 := blk_cell NZ.out 0; have y1 := blk_cell NZ.out 1; have y2 := blk_cell NZ.out 2; have y3 := blk_cell NZ.out 3; have y4 := blk_cell NZ.out 4; obtain ⟨r0, r2, t0, t2⟩ := E01.out) | fail)
                   refine HIX.out.mono ?_
                   rintro e1 w1 ⟨rfl, hw⟩
                   rw [hw]
                   clear hw w1
                   have HM2 : True := trivial
                   have w61 : wrap64 (k + 1) = k + 1 := w64 _ (by omega) (by omega)
                   go_wp2_with (first | ((with_reducible refine gate_dst (N := 60) rfl ?_); clear HM2 z0 z3 y0 y1 y2 y3 y4 yf r0 r2 t0 t2; have NC := Aside0.mk (blk_new W2 (.cells #[.int .i64 (k + 1), .string b.f2, .int .i64 0, .bool false, .slice none 0 0] 43 (0, 0))); have NV3 := Aside0.mk (blkA NV.out (.cells #[.int .i64 (k + 1), .string b.f2, .int .i64 0, .bool false, .slice none 0 0] 43 (0, 0))); have NZ3 := Aside0.mk (blkA NZ.out (.cells #[.int .i64 (k + 1), .string b.f2, .int .i64 0, .bool false, .slice none 0 0] 43 (0, 0))); have HB3 := Aside0.mk (HB0.out.trans (((Below.refl W2.heap.size W2).alloc (Nat.le_refl _) (.cells #[.int .i64 (k + 1), .string b.f2, .int .i64 0, .bool false, .slice none 0 0] 43 (0, 0))).mono HB0.out.size)); generalize W2.alloc (.cells #[.int .i64 (k + 1), .string b.f2, .int .i64 0, .bool false, .slice none 0 0] 43 (0, 0)) = W3 at *; have z3 := blk_cell NV3.out 3; have yf := blk_frozen NZ3.out; have y0 := blk_cell NZ3.out 0; have y1 := blk_cell NZ3.out 1; have y2 := blk_cell NZ3.out 2; have y3 := blk_cell NZ3.out 3; have y4 := blk_cell NZ3.out 4; have x0 := blk_cell NC.out 0; have x1 := blk_cell NC.out 1; have x2 := blk_cell NC.out 2; have x3 := blk_cell NC.out 3; have x4 := blk_cell NC.out 4; have xf := blk_frozen NC.out) | fail)
                   all_goals
                    have NC4 := NC
                    have NZ4 := NZ3
                    have HB4 := HB3
                    have R4 := Aside0.mk (Kd.R_nil (Kd.int .i64) 2 W3 w.heap.size (fun k => k ≠ w.heap.size + 1))
                    clear z3 y0 y1 y2 y3 y4 yf x0 x1 x2 x3 x4 xf
                    refine start_ (n := 9) (S := (fun w' => w'.cell? ⟨W2.heap.size, 0, none⟩ = some (.int .i64 (k + 1)) ∧ w'.cell? ⟨W2.heap.size, 1, none⟩ = some (.string b.f2) ∧ w'.cell? ⟨W2.heap.size, 2, none⟩ = some (.int .i64 (0)) ∧ w'.cell? ⟨W2.heap.size, 3, none⟩ = some (.bool false) ∧ w'.cell? ⟨W2.heap.size, 4, none⟩ = some (.slice none 0 0) ∧ Below W3.drew.heap.size W3.drew w')) (ds := [7]) #[fF, fF, fF, fF, fF, fF, fF, fF, fF] (by kernel_rfl) rfl rfl ⟨blk_cell (w := W3.drew) NC4.out 0, blk_cell (w := W3.drew) NC4.out 1, blk_cell (w := W3.drew) NC4.out 2, blk_cell (w := W3.drew) NC4.out 3, blk_cell (w := W3.drew) NC4.out 4, Below.refl _ _⟩ (fun hHeld => ?_)
                    refine take_ (i := 0) (N := some 104) (v := ?_) (a' := ?_) #[tT, fF, fF, fF, fF, fF, fF, fF, fF] rfl rfl (by kernel_rfl) (fun _ _ _ h => h) (Or.inl ⟨by rfl, ?_⟩) hHeld ?_ ?_
                    rotate_left
                    · rintro w' ⟨s0, s1, s2, s3, s4, _⟩
                      go_simp
                      with_reducible rfl
                    rotate_left
                    · simp only [Act.put, sA, sZ, sS, i64_w, i32_w]
                      rfl
                    refine pure_ (i := 1) (N := some 105) (v := ?_) (a' := ?_) #[tT, tT, fF, fF, fF, fF, fF, fF, fF] rfl rfl (by kernel_rfl) (fun _ _ _ h => h) (Or.inl ⟨by rfl, ?_⟩) ?_ ?_
                    rotate_left
                    · intro w'
                      go_simp
                      with_reducible rfl
                    rotate_left
                    · simp only [Act.put, sA, sZ, sS, i64_w, i32_w]
                      rfl
                    refine pure_ (i := 2) (N := some 106) (v := ?_) (a' := ?_) #[tT, tT, tT, fF, fF, fF, fF, fF, fF] rfl rfl (by kernel_rfl) (fun _ _ _ h => h) (Or.inl ⟨by rfl, ?_⟩) ?_ ?_
                    rotate_left
                    · intro w'
                      go_simp
                      with_reducible rfl
                    rotate_left
                    · simp only [Act.put, sA, sZ, sS, i64_w, i32_w]
                      rfl
                    refine take_ (i := 3) (N := some 107) (v := ?_) (a' := ?_) #[tT, tT, tT, tT, fF, fF, fF, fF, fF] rfl rfl (by kernel_rfl) (fun _ _ _ h => h) (Or.inl ⟨by rfl, ?_⟩) hHeld ?_ ?_
                    rotate_left
                    · rintro w' ⟨s0, s1, s2, s3, s4, _⟩
                      go_simp
                      with_reducible rfl
                    rotate_left
                    · simp only [Act.put, sA, sZ, sS, i64_w, i32_w]
                      rfl
                    refine pure_ (i := 4) (N := some 108) (v := ?_) (a' := ?_) #[tT, tT, tT, tT, tT, fF, fF, fF, fF] rfl rfl (by kernel_rfl) (fun _ _ _ h => h) (Or.inl ⟨by rfl, ?_⟩) ?_ ?_
                    rotate_left
                    · intro w'
                      go_simp
                      with_reducible rfl
                    rotate_left
                    · simp only [Act.put, sA, sZ, sS, i64_w, i32_w]
                      rfl
                    have HDr := Aside0.mk (⟨rfl, rfl, rfl, Nat.le_refl _, fun _ _ => rfl⟩ : Below W3.heap.size W3 W3.drew)
                    have NCd := Aside0.mk (show W3.drew.heap[W2.heap.size]? = some (.cells #[.int .i64 (k + 1), .string b.f2, .int .i64 (0), .bool false, .slice none 0 0] 43 (0, 0)) from NC4.out)
                    have NZd := Aside0.mk (show W3.drew.heap[w.heap.size + 1]? = some (.cells #[.int .i64 0, .string ⟨#[]⟩, .int .i64 0, .bool false, .slice none 0 0] 43 (0, 0)) from NZ4.out)
                    have HBd := Aside0.mk (HB4.out.trans (HDr.out.mono HB4.out.size))
                    have RVd := Aside0.mk (Kd.R_below R4.out HDr.out)
                    generalize W3.drew = Wd at *
                    have S20 : ∀ w', Below Wd.heap.size Wd w' → (fun w' => w'.cell? ⟨W2.heap.size, 0, none⟩ = some (.int .i64 (k + 1)) ∧ w'.cell? ⟨W2.heap.size, 1, none⟩ = some (.string b.f2) ∧ w'.cell? ⟨W2.heap.size, 2, none⟩ = some (.int .i64 (0)) ∧ w'.cell? ⟨W2.heap.size, 3, none⟩ = some (.bool false) ∧ w'.cell? ⟨W2.heap.size, 4, none⟩ = some (.slice none 0 0) ∧ Below Wd.heap.size Wd w') w' := fun w' hb =>
                     have q1 := (hb.block _ (blk_lt NCd.out)).trans NCd.out
                     ⟨blk_cell q1 0, blk_cell q1 1, blk_cell q1 2, blk_cell q1 3, blk_cell q1 4, hb⟩
                    obtain ⟨A9, c9, e9, l9, g9⟩ := Kd.R_reads RVd.out
                    cases e9
                    have HSN := wire_sound.calls (2 * ([]).length + 8) (k + 1) b.f2 (0) false none 0 [] ev (soundC (⟨k + 1, b.f2, 0, false, []⟩ : Cl) ev) Wd g9 l9 (sound_pure (⟨k + 1, b.f2, 0, false, []⟩ : Cl) ev (by first | exact HLL.out | exact Nat.zero_le _) _ (Nat.le_refl _))
                    refine one_ (i := 5) (N := some 109) #[tT, tT, tT, tT, tT, tT, fF, fF, fF] rfl rfl (by kernel_rfl) (by decide) (fun K hK => ?_)
                    refine goes_ Tryz.func41 (by kernel_rfl) rfl #[.agg #[.int .i64 (k + 1), .string b.f2, .int .i64 (0), .bool false, .slice none 0 0], .int .i64 ev] (by rfl) rfl rfl (by simp only [List.map_toArray, List.map_cons, List.map_nil]; rfl) ?_
                    refine HSN.mono ?_
                    clear HSN
                    rintro e9 w9 ⟨rfl, hb9⟩
                    refine ⟨_, rfl, ?_⟩
                    refine hK.out _ _ (S20 w9 hb9) fun hHeld => ?_
                    clear hK K
                    refine norm_ (a' := ?_) ?_ ?_
                    rotate_left
                    · show Act.put _ (some 109) _ = _
                      simp only [Act.put, sA, sZ, sS, i64_w, i32_w]
                      rfl
                    generalize hsc : soundC (⟨k + 1, b.f2, 0, false, []⟩ : Cl) ev = r9 at *
                    refine pure_ (i := 6) (N := some 110) (v := ?_) (a' := ?_) #[tT, tT, tT, tT, tT, tT, tT, fF, fF] rfl rfl (by kernel_rfl) (fun _ _ _ h => h) (Or.inl ⟨by rfl, ?_⟩) ?_ ?_
                    rotate_left
                    · intro w'
                      go_simp
                      with_reducible rfl
                    rotate_left
                    · simp only [Act.put, sA, sZ, sS, i64_w, i32_w]
                      rfl
                    have NZ9 := Aside0.mk ((hb9.block _ (blk_lt NZd.out)).trans NZd.out)
                    have v0 := blk_cell NZ9.out 0
                    have v1 := blk_cell NZ9.out 1
                    have v2 := blk_cell NZ9.out 2
                    have v3 := blk_cell NZ9.out 3
                    have v4 := blk_cell NZ9.out 4
                    have vf := blk_frozen NZ9.out
                    refine last_ (i := 7) (N := none) #[tT, tT, tT, tT, tT, tT, tT, tT, fF] rfl rfl (by kernel_rfl) (by decide) (fun K hK => ?_)
                    rw [if_pos (by rfl)]
                    unfold Oper.wp
                    go_simp
                    refine hK.out _ _ ?_
                    clear hK K
                    refine pure_ (i := 8) (N := some 5) (v := ?_) (a' := ?_) #[tT, tT, tT, tT, tT, tT, tT, tT, tT] rfl rfl (by kernel_rfl) (fun _ _ _ h => h) (Or.inl ⟨by rfl, ?_⟩) ?_ ?_
                    rotate_left
                    · intro w'
                      go_simp
                      with_reducible rfl
                    rotate_left
                    · simp only [Act.put, sA, sZ, sS, i64_w, i32_w]
                      rfl
                    refine done_ (by kernel_rfl) ?_
                    have HP9 := Aside0.mk (HBd.out.trans ((hb9.mono HBd.out.size).trans (put5_below (g := w.heap.size + 1) (k := 0) (by omega) (.int .i64 (k + 1)) (.string b.f2) (.int .i64 (0)) (.bool false) (.slice none 0 0))))
                    go_wp2
                    refine bodyPost_ret (res_call _ _ (w.heap.size + 1) _ _ _ _ _ _ rfl rfl (zst NZ9.out _ _ _ _ _)) rfl ?_
                    subst hsc

                    exact CallQ_chk (⟨k + 1, b.f2, 0, false, []⟩ : Cl) _ ev HP9.out (Kd.R_mono (Kd.R_step (Kd.R_below RVd.out hb9) (fun k hk _ => put5_far hk _ _ _ _ _)) (fun _ _ => trivial))
end Go.Proofs.YtamcicojockhpaaGreatDoor.Wi
end
section
set_option linter.unusedVariables false
set_option linter.unusedSimpArgs false
namespace Go.Proofs.YtamcicojockhpaaGreatDoor.Wi
open Go.RowKit Go.Proofs.YtamcicojockhpaaGreatDoorW.PrintWords Go.Proofs.YtamcicojockhpaaGreatDoorW.PrintLast Go.Proofs.YtamcicojockhpaaGreatDoorW.PrintMore
open Go.Proofs.YtamcicojockhpaaGreatDoor.Lx Go.Proofs.YtamcicojockhpaaGreatDoor.PS Go.Proofs.YtamcicojockhpaaGreatDoor.Tr
def kup (s : ByteArray) : Nat → Int
 | 0 => -1
 | k + 1 => if kindT k = s then (k : Int) else kup s k
def callsR (l : List V) (K : Int) : Option (List Cl) := if l.all (fun x => (callR x K).isSome) = true then some (l.filterMap fun x => callR x K) else none
def evF (n : Nat) (p t f : V × Bool) : Option Ev :=
 if p.2 = true ∧ t.2 = true ∧ f.2 = true ∧ n = 3 ∧ p.1.f0 = 3 ∧ t.1.f0 = 4 ∧ f.1.f0 = 5 ∧ f.1.f3.length ≤ 16 then
  (if kup t.1.f2 4 < 0 then none else (callsR f.1.f3 (kup t.1.f2 4)).map fun cs => ⟨p.1.f1, kup t.1.f2 4, cs⟩)
 else none
def eventR (v : V) : Option Ev := evF v.f4.length (getR v ⟨#[112]⟩) (getR v ⟨#[116]⟩) (getR v ⟨#[102]⟩)
def EvQ (r : Option Ev) (w : World) (e : Ending) (w' : World) : Prop :=
 Below w.heap.size w w' ∧ ∃ (x : Ev) (v2 : Value), e = .returned (.tuple #[.agg #[.int .i64 x.f0, .int .i64 x.f1, v2], .bool r.isSome]) ∧
  k43.R 43 w' w.heap.size (fun _ => True) v2 x.f2 ∧ ∀ y, r = some y → y = x
theorem EvQ_no {w w' : World} (x : Ev) (v2 : Value) (hb : Below w.heap.size w w') (hr : k43.R 43 w' w.heap.size (fun _ => True) v2 x.f2) :
 EvQ none w (.returned (.tuple #[.agg #[.int .i64 x.f0, .int .i64 x.f1, v2], .bool false])) w' := ⟨hb, x, v2, rfl, hr, fun _ h => by cases h⟩
theorem EvQ_ok {w w' : World} (x : Ev) (v2 : Value) (hb : Below w.heap.size w w') (hr : k43.R 43 w' w.heap.size (fun _ => True) v2 x.f2) :
 EvQ (some x) w (.returned (.tuple #[.agg #[.int .i64 x.f0, .int .i64 x.f1, v2], .bool true])) w' := ⟨hb, x, v2, rfl, hr, fun _ h => (Option.some.inj h).symm⟩
theorem res_event (tmps : Array Value) (w : World) (b : Nat) (v0 v1 v2 z : Value) (h4 : tmps.getD 2 undef = .pointer (some ⟨b, 0, none⟩)) (h5 : tmps.getD 3 undef = z) (hb : w.heap[b]? = some (.cells #[v0, v1, v2] 39 (0, 0))) :
 (results Tryz.f21 tmps).run Tryz.prog w = .ok (.tuple #[.agg #[v0, v1, v2], z]) w := by
 have c0 := blk_cell hb 0
 have c1 := blk_cell hb 1
 have c2 := blk_cell hb 2
 rw [Array.getD_eq_getD_getElem?] at h4 h5
 simp at c0 c1 c2
 simp [results, Tryz.results21, go_sem, h4, h5, c0, c1, c2]
theorem get_fits {d : Nat} {v : V} (h : fitsR (d + 1) v) (s : ByteArray) : fitsR d (getR v s).1 := by
 have hz : fitsR d zV := by cases d <;> simp [fitsR, zV]
 unfold getR
 split
 · split
   · rename_i i _
     show fitsR d (v.f3.getD i zV)
     rw [List.getD_eq_getElem?_getD]
     cases hi : v.f3[i]? with
     | none => exact hz
     | some y => exact h.2.2 y (List.mem_of_getElem? hi)
   · exact hz
 · exact hz
theorem ba_ext2 {a b : ByteArray} (h : a.toList = b.toList) : a = b := by
 rw [Lib.toList_data, Lib.toList_data] at h
 cases a
 cases b
 simpa using h
def put3 (w : World) (g : Nat) (a0 a1 a2 : Value) : World := ((w.setCell ⟨g, 0, none⟩ a0).setCell ⟨g, 1, none⟩ a1).setCell ⟨g, 2, none⟩ a2
theorem put3_blk {w : World} {b : Nat} {t : TypeId} {z0 z1 z2 : Value} (h : w.heap[b]? = some (.cells #[z0, z1, z2] t (0, 0))) (a0 a1 a2 : Value) : (put3 w b a0 a1 a2).heap[b]? = some (.cells #[a0, a1, a2] t (0, 0)) :=
 Tr.blk_set (Tr.blk_set (Tr.blk_set h 0 _) 1 _) 2 _
theorem put3_far {w : World} {g b : Nat} (h : b ≠ g) (a0 a1 a2 : Value) : (put3 w g a0 a1 a2).heap[b]? = w.heap[b]? := by
 unfold put3
 rw [Below.heap_setCell _ ⟨g, 2, none⟩ _ b h, Below.heap_setCell _ ⟨g, 1, none⟩ _ b h, Below.heap_setCell _ ⟨g, 0, none⟩ _ b h]
theorem put3_below {B g : Nat} {w : World} (hb : B ≤ g) (a0 a1 a2 : Value) : Below B w (put3 w g a0 a1 a2) :=
 (((Below.refl B w).setCell (p := ⟨g, 0, none⟩) hb a0).setCell (p := ⟨g, 1, none⟩) hb a1).setCell (p := ⟨g, 2, none⟩) hb a2
set_option maxRecDepth 100000 in
set_option maxHeartbeats 16000000 in
theorem event_calls (v : V) (A3 : Option Addr) (c3 : Nat) (A4 : Option Addr) (c4 : Nat) (m : Int) (w : World) (fx : fitsR 8 v) (l3 : v.f3.length ≤ c3) (g3 : k51.C w A3 v.f3.length v.f3) (l4 : v.f4.length ≤ c4) (g4 : Kd.string.C w A4 v.f4.length v.f4)
 (hm : w.cell? ⟨2, 0, none⟩ = some (.int .i64 m)) : Calls Tryz.prog 21 #[vArg v A3 c3 A4 c4] w (EvQ (eventR v) w) := by
 have nv := blkA (blkA (blk_new w (.cells #[.int .i64 v.f0, .int .i64 v.f1, .string v.f2, .slice A3 v.f3.length c3, .slice A4 v.f4.length c4] 51 (0, 0))) (.cells #[.int .i64 0, .int .i64 0, .slice none 0 0] 39 (0, 0))) (.cells #[.int .i64 0, .int .i64 0, .slice none 0 0] 39 (0, 0))
 have nr := blkA (blk_new (w.alloc (.cells #[.int .i64 v.f0, .int .i64 v.f1, .string v.f2, .slice A3 v.f3.length c3, .slice A4 v.f4.length c4] 51 (0, 0))) (.cells #[.int .i64 0, .int .i64 0, .slice none 0 0] 39 (0, 0))) (.cells #[.int .i64 0, .int .i64 0, .slice none 0 0] 39 (0, 0))
 have ne := blk_new ((w.alloc (.cells #[.int .i64 v.f0, .int .i64 v.f1, .string v.f2, .slice A3 v.f3.length c3, .slice A4 v.f4.length c4] 51 (0, 0))).alloc (.cells #[.int .i64 0, .int .i64 0, .slice none 0 0] 39 (0, 0))) (.cells #[.int .i64 0, .int .i64 0, .slice none 0 0] 39 (0, 0))
 rw [show (w.alloc (.cells #[.int .i64 v.f0, .int .i64 v.f1, .string v.f2, .slice A3 v.f3.length c3, .slice A4 v.f4.length c4] 51 (0, 0))).heap.size = w.heap.size + 1 by simp] at nr
 rw [show ((w.alloc (.cells #[.int .i64 v.f0, .int .i64 v.f1, .string v.f2, .slice A3 v.f3.length c3, .slice A4 v.f4.length c4] 51 (0, 0))).alloc (.cells #[.int .i64 0, .int .i64 0, .slice none 0 0] 39 (0, 0))).heap.size = w.heap.size + 1 + 1 by simp] at ne
 have hb0 : Below w.heap.size w (((w.alloc (.cells #[.int .i64 v.f0, .int .i64 v.f1, .string v.f2, .slice A3 v.f3.length c3, .slice A4 v.f4.length c4] 51 (0, 0))).alloc (.cells #[.int .i64 0, .int .i64 0, .slice none 0 0] 39 (0, 0))).alloc (.cells #[.int .i64 0, .int .i64 0, .slice none 0 0] 39 (0, 0))) := (((Below.refl _ _).alloc (Nat.le_refl _) _).alloc (by simp) _).alloc (by simp; omega) _
 have hs0 : (((w.alloc (.cells #[.int .i64 v.f0, .int .i64 v.f1, .string v.f2, .slice A3 v.f3.length c3, .slice A4 v.f4.length c4] 51 (0, 0))).alloc (.cells #[.int .i64 0, .int .i64 0, .slice none 0 0] 39 (0, 0))).alloc (.cells #[.int .i64 0, .int .i64 0, .slice none 0 0] 39 (0, 0))).heap.size = w.heap.size + 3 := by simp
 have HB0 := Aside0.mk hb0
 have HS0 := Aside0.mk hs0
 have HG3 := Aside0.mk g3
 have HG4 := Aside0.mk g4
 have HFX := Aside0.mk fx
 have HMX := Aside0.mk hm
 have HG1 := Aside0.mk (Get_calls v ⟨#[112]⟩ A3 c3 A4 c4 (((w.alloc (.cells #[.int .i64 v.f0, .int .i64 v.f1, .string v.f2, .slice A3 v.f3.length c3, .slice A4 v.f4.length c4] 51 (0, 0))).alloc (.cells #[.int .i64 0, .int .i64 0, .slice none 0 0] 39 (0, 0))).alloc (.cells #[.int .i64 0, .int .i64 0, .slice none 0 0] 39 (0, 0))) fx l3 (Kd.C_below g3 hb0) l4 (Kd.C_below g4 hb0))
 have HR := Aside0.mk (show eventR v = evF v.f4.length (getR v ⟨#[112]⟩) (getR v ⟨#[116]⟩) (getR v ⟨#[102]⟩) from rfl)
 have HPF := Aside0.mk (get_fits (d := 7) fx ⟨#[102]⟩)
 have GT := Aside0.mk (fun (W : World) (h : Below w.heap.size w W) => Get_calls v ⟨#[116]⟩ A3 c3 A4 c4 W fx l3 (Kd.C_below g3 h) l4 (Kd.C_below g4 h))
 have GF := Aside0.mk (fun (W : World) (h : Below w.heap.size w W) => Get_calls v ⟨#[102]⟩ A3 c3 A4 c4 W fx l3 (Kd.C_below g3 h) l4 (Kd.C_below g4 h))
 have hn : (v.f4.length : Int) ≤ 1000000000000 := by have := fx.2.1; omega
 have NV := Aside0.mk nv
 have NR := Aside0.mk nr
 have NE := Aside0.mk ne
 unfold vArg at *
 generalize eventR v = res at *
 generalize getR v ⟨#[112]⟩ = pr at *
 generalize getR v ⟨#[116]⟩ = tr at *
 generalize getR v ⟨#[102]⟩ = fr at *
 obtain ⟨p, pb⟩ := pr
 obtain ⟨t, tb⟩ := tr
 obtain ⟨f, fb⟩ := fr
 unfold GetQ at *
 dsimp only at HG1 GT GF HPF
 clear nv nr ne hb0 hs0 g3 g4 fx hm
 have HM0 : True := trivial
 go_enter Tryz.func21, Tryz.ntmps21
 go_wp2_with (first | ((with_reducible refine gate_dst (N := 17) rfl ?_); clear HM0; generalize (((w.alloc (.cells #[.int .i64 v.f0, .int .i64 v.f1, .string v.f2, .slice A3 v.f3.length c3, .slice A4 v.f4.length c4] 51 (0, 0))).alloc (.cells #[.int .i64 0, .int .i64 0, .slice none 0 0] 39 (0, 0))).alloc (.cells #[.int .i64 0, .int .i64 0, .slice none 0 0] 39 (0, 0))) = X0 at *; have z0 := blk_cell NV.out 0; have z1 := blk_cell NV.out 1; have z2 := blk_cell NV.out 2; have z3 := blk_cell NV.out 3; have z4 := blk_cell NV.out 4) | fail)
 refine HG1.out.mono ?_
 clear HG1
 rintro e1 w1 ⟨hb1, pv3, pv4, rfl, hp3, hp4⟩
 obtain ⟨P3, pq3, rfl⟩ := Kd.R_slice hp3
 obtain ⟨P4, pq4, rfl⟩ := Kd.R_slice hp4
 have HP1 := Aside0.mk (hb1.trans ((Below.refl w1.heap.size w1).alloc (Nat.le_refl _) (.cells #[.int .i64 p.f0, .int .i64 p.f1, .string p.f2, .slice P3 p.f3.length pq3, .slice P4 p.f4.length pq4] 51 (0, 0)) |>.mono hb1.size))
 have HB1 := Aside0.mk (HB0.out.trans (HP1.out.mono HB0.out.size))
 have NP := Aside0.mk (blk_new w1 (.cells #[.int .i64 p.f0, .int .i64 p.f1, .string p.f2, .slice P3 p.f3.length pq3, .slice P4 p.f4.length pq4] 51 (0, 0)))
 have HSZ1 := Aside0.mk (show X0.heap.size ≤ w1.heap.size from hb1.size)
 have HSX1 := Aside0.mk (show (w1.alloc (.cells #[.int .i64 p.f0, .int .i64 p.f1, .string p.f2, .slice P3 p.f3.length pq3, .slice P4 p.f4.length pq4] 51 (0, 0))).heap.size = w1.heap.size + 1 by simp)
 clear hp3 hp4
 replace NV := Aside0.mk ((HP1.out.block _ (blk_lt NV.out)).trans NV.out)
 replace NR := Aside0.mk ((HP1.out.block _ (blk_lt NR.out)).trans NR.out)
 replace NE := Aside0.mk ((HP1.out.block _ (blk_lt NE.out)).trans NE.out)
 have HM1 : True := trivial
 go_wp2_with (first | ((with_reducible refine gate_dst (N := 22) rfl ?_); clear HM1; generalize w1.alloc (.cells #[.int .i64 p.f0, .int .i64 p.f1, .string p.f2, .slice P3 p.f3.length pq3, .slice P4 p.f4.length pq4] 51 (0, 0)) = X1 at *; clear z0 z1 z2 z3 z4; have z0 := blk_cell NV.out 0; have z1 := blk_cell NV.out 1; have z2 := blk_cell NV.out 2; have z3 := blk_cell NV.out 3; have z4 := blk_cell NV.out 4) | fail)
 refine (GT.out X1 HB1.out).mono ?_
 clear GT
 rintro e2 w2 ⟨hb2, tv3, tv4, rfl, ht3, ht4⟩
 obtain ⟨T3, tq3, rfl⟩ := Kd.R_slice ht3
 obtain ⟨T4, tq4, rfl⟩ := Kd.R_slice ht4
 have HP2 := Aside0.mk (hb2.trans ((Below.refl w2.heap.size w2).alloc (Nat.le_refl _) (.cells #[.int .i64 t.f0, .int .i64 t.f1, .string t.f2, .slice T3 t.f3.length tq3, .slice T4 t.f4.length tq4] 51 (0, 0)) |>.mono hb2.size))
 have HB2 := Aside0.mk (HB1.out.trans (HP2.out.mono HB1.out.size))
 have NT := Aside0.mk (blk_new w2 (.cells #[.int .i64 t.f0, .int .i64 t.f1, .string t.f2, .slice T3 t.f3.length tq3, .slice T4 t.f4.length tq4] 51 (0, 0)))
 have HSZ2 := Aside0.mk (show X1.heap.size ≤ w2.heap.size from hb2.size)
 have HSX2 := Aside0.mk (show (w2.alloc (.cells #[.int .i64 t.f0, .int .i64 t.f1, .string t.f2, .slice T3 t.f3.length tq3, .slice T4 t.f4.length tq4] 51 (0, 0))).heap.size = w2.heap.size + 1 by simp)
 clear ht3 ht4
 replace NV := Aside0.mk ((HP2.out.block _ (blk_lt NV.out)).trans NV.out)
 replace NR := Aside0.mk ((HP2.out.block _ (blk_lt NR.out)).trans NR.out)
 replace NE := Aside0.mk ((HP2.out.block _ (blk_lt NE.out)).trans NE.out)
 replace NP := Aside0.mk ((HP2.out.block _ (blk_lt NP.out)).trans NP.out)
 have HM2 : True := trivial
 go_wp2_with (first | ((with_reducible refine gate_dst (N := 27) rfl ?_); clear HM2; generalize w2.alloc (.cells #[.int .i64 t.f0, .int .i64 t.f1, .string t.f2, .slice T3 t.f3.length tq3, .slice T4 t.f4.length tq4] 51 (0, 0)) = X2 at *; clear z0 z1 z2 z3 z4; have z0 := blk_cell NV.out 0; have z1 := blk_cell NV.out 1; have z2 := blk_cell NV.out 2; have z3 := blk_cell NV.out 3; have z4 := blk_cell NV.out 4) | fail)
 refine (GF.out X2 HB2.out).mono ?_
 clear GF
 rintro e3 w3 ⟨hb3, fv3, fv4, rfl, hf3, hf4⟩
 obtain ⟨F3, fq3, rfl⟩ := Kd.R_slice hf3
 obtain ⟨F4, fq4, rfl⟩ := Kd.R_slice hf4
 have HP3 := Aside0.mk (hb3.trans ((Below.refl w3.heap.size w3).alloc (Nat.le_refl _) (.cells #[.int .i64 f.f0, .int .i64 f.f1, .string f.f2, .slice F3 f.f3.length fq3, .slice F4 f.f4.length fq4] 51 (0, 0)) |>.mono hb3.size))
 have HB3 := Aside0.mk (HB2.out.trans (HP3.out.mono HB2.out.size))
 have NF := Aside0.mk (blk_new w3 (.cells #[.int .i64 f.f0, .int .i64 f.f1, .string f.f2, .slice F3 f.f3.length fq3, .slice F4 f.f4.length fq4] 51 (0, 0)))
 have HSZ3 := Aside0.mk (show X2.heap.size ≤ w3.heap.size from hb3.size)
 have HSX3 := Aside0.mk (show (w3.alloc (.cells #[.int .i64 f.f0, .int .i64 f.f1, .string f.f2, .slice F3 f.f3.length fq3, .slice F4 f.f4.length fq4] 51 (0, 0))).heap.size = w3.heap.size + 1 by simp)
 have RF := Aside0.mk (Kd.R_bound (Kd.R_below hf3 ((Below.refl w3.heap.size w3).alloc (Nat.le_refl _) (.cells #[.int .i64 f.f0, .int .i64 f.f1, .string f.f2, .slice F3 f.f3.length fq3, .slice F4 f.f4.length fq4] 51 (0, 0)))))
 clear hf3 hf4
 replace NV := Aside0.mk ((HP3.out.block _ (blk_lt NV.out)).trans NV.out)
 replace NR := Aside0.mk ((HP3.out.block _ (blk_lt NR.out)).trans NR.out)
 replace NE := Aside0.mk ((HP3.out.block _ (blk_lt NE.out)).trans NE.out)
 replace NP := Aside0.mk ((HP3.out.block _ (blk_lt NP.out)).trans NP.out)
 replace NT := Aside0.mk ((HP3.out.block _ (blk_lt NT.out)).trans NT.out)
 have HM3 : True := trivial
 go_wp2_with (first | ((with_reducible refine gate_dst (N := 32) rfl ?_); clear HM3; generalize w3.alloc (.cells #[.int .i64 f.f0, .int .i64 f.f1, .string f.f2, .slice F3 f.f3.length fq3, .slice F4 f.f4.length fq4] 51 (0, 0)) = X3 at *; clear z0 z1 z2 z3 z4; have z0 := blk_cell NV.out 0; have z1 := blk_cell NV.out 1; have z2 := blk_cell NV.out 2; have z3 := blk_cell NV.out 3; have z4 := blk_cell NV.out 4; refine Aside0.out ?_) | fail)
 have HPF8 := HPF
 have hf16 : (f.f3.length : Int) ≤ 1000000000000 := by have := (fitsR_len HPF.out).1; omega
 have y0 := blk_cell NE.out 0
 have y1 := blk_cell NE.out 1
 have y2 := blk_cell NE.out 2
 have yf := blk_frozen NE.out
 have r0 := blk_cell NR.out 0
 have r1 := blk_cell NR.out 1
 have r2 := blk_cell NR.out 2
 have rf := blk_frozen NR.out
 have a0 := blk_cell NP.out 0
 have a1 := blk_cell NP.out 1
 have b0 := blk_cell NT.out 0
 have b2 := blk_cell NT.out 2
 have d0 := blk_cell NF.out 0
 have d3 := blk_cell NF.out 3
 cases pb with
 | false =>
  have HE := Aside0.mk (show res = none by
   rw [HR.out]
   unfold evF
   rw [if_neg]
   rintro ⟨a1, a2, a3, a4, a5, a6, a7, a8⟩
   simp at a1)
  refine Aside0.mk ?_
  go_wp2
  refine bodyPost_ret (res_event _ _ (w.heap.size + 1) _ _ _ _ rfl rfl (put3_blk NR.out _ _ _)) rfl ?_
  rw [HE.out]
  exact EvQ_no ⟨0, 0, []⟩ _ (HB3.out.trans (put3_below (by omega) _ _ _)) (Kd.R_nil _ _ _ _ _)
 | true =>
  cases tb with
  | false =>
   have HE := Aside0.mk (show res = none by
    rw [HR.out]
    unfold evF
    rw [if_neg]
    rintro ⟨a1, a2, a3, a4, a5, a6, a7, a8⟩
    simp at a2)
   refine Aside0.mk ?_
   go_wp2
   refine bodyPost_ret (res_event _ _ (w.heap.size + 1) _ _ _ _ rfl rfl (put3_blk NR.out _ _ _)) rfl ?_
   rw [HE.out]
   exact EvQ_no ⟨0, 0, []⟩ _ (HB3.out.trans (put3_below (by omega) _ _ _)) (Kd.R_nil _ _ _ _ _)
  | true =>
   cases fb with
   | false =>
    have HE := Aside0.mk (show res = none by
     rw [HR.out]
     unfold evF
     rw [if_neg]
     rintro ⟨a1, a2, a3, a4, a5, a6, a7, a8⟩
     simp at a3)
    refine Aside0.mk ?_
    go_wp2
    refine bodyPost_ret (res_event _ _ (w.heap.size + 1) _ _ _ _ rfl rfl (put3_blk NR.out _ _ _)) rfl ?_
    rw [HE.out]
    exact EvQ_no ⟨0, 0, []⟩ _ (HB3.out.trans (put3_below (by omega) _ _ _)) (Kd.R_nil _ _ _ _ _)
   | true =>
    by_cases h4 : v.f4.length = 3
    rotate_left
    · have q4 : ((v.f4.length : Int) != 3) = true := bne_iff_ne.2 (by omega)
      have H4 := Aside0.mk h4
      clear h4
      have HE := Aside0.mk (show res = none by
       rw [HR.out]
       unfold evF
       rw [if_neg]
       rintro ⟨a1, a2, a3, a4, a5, a6, a7, a8⟩
       exact H4.out a4)
      refine Aside0.mk ?_
      go_wp2
      refine bodyPost_ret (res_event _ _ (w.heap.size + 1) _ _ _ _ rfl rfl (put3_blk NR.out _ _ _)) rfl ?_
      rw [HE.out]
      exact EvQ_no ⟨0, 0, []⟩ _ (HB3.out.trans (put3_below (by omega) _ _ _)) (Kd.R_nil _ _ _ _ _)
    have q4 : ((v.f4.length : Int) != 3) = false := by rw [bne_eq_false_iff_eq]; omega
    have H4 := Aside0.mk h4
    clear h4
    by_cases h5 : p.f0 = 3
    rotate_left
    · have q5 : (p.f0 != 3) = true := bne_iff_ne.2 (by omega)
      have H5 := Aside0.mk h5
      clear h5
      have HE := Aside0.mk (show res = none by
       rw [HR.out]
       unfold evF
       rw [if_neg]
       rintro ⟨a1, a2, a3, a4, a5, a6, a7, a8⟩
       exact H5.out a5)
      refine Aside0.mk ?_
      go_wp2
      refine bodyPost_ret (res_event _ _ (w.heap.size + 1) _ _ _ _ rfl rfl (put3_blk NR.out _ _ _)) rfl ?_
      rw [HE.out]
      exact EvQ_no ⟨0, 0, []⟩ _ (HB3.out.trans (put3_below (by omega) _ _ _)) (Kd.R_nil _ _ _ _ _)
    have q5 : (p.f0 != 3) = false := by rw [bne_eq_false_iff_eq]; omega
    have H5 := Aside0.mk h5
    clear h5
    by_cases h6 : t.f0 = 4
    rotate_left
    · have q6 : (t.f0 != 4) = true := bne_iff_ne.2 (by omega)
      have H6 := Aside0.mk h6
      clear h6
      have HE := Aside0.mk (show res = none by
       rw [HR.out]
       unfold evF
       rw [if_neg]
       rintro ⟨a1, a2, a3, a4, a5, a6, a7, a8⟩
       exact H6.out a6)
      refine Aside0.mk ?_
      go_wp2
      refine bodyPost_ret (res_event _ _ (w.heap.size + 1) _ _ _ _ rfl rfl (put3_blk NR.out _ _ _)) rfl ?_
      rw [HE.out]
      exact EvQ_no ⟨0, 0, []⟩ _ (HB3.out.trans (put3_below (by omega) _ _ _)) (Kd.R_nil _ _ _ _ _)
    have q6 : (t.f0 != 4) = false := by rw [bne_eq_false_iff_eq]; omega
    have H6 := Aside0.mk h6
    clear h6
    by_cases h7 : f.f0 = 5
    rotate_left
    · have q7 : (f.f0 != 5) = true := bne_iff_ne.2 (by omega)
      have H7 := Aside0.mk h7
      clear h7
      have HE := Aside0.mk (show res = none by
       rw [HR.out]
       unfold evF
       rw [if_neg]
       rintro ⟨a1, a2, a3, a4, a5, a6, a7, a8⟩
       exact H7.out a7)
      refine Aside0.mk ?_
      go_wp2
      refine bodyPost_ret (res_event _ _ (w.heap.size + 1) _ _ _ _ rfl rfl (put3_blk NR.out _ _ _)) rfl ?_
      rw [HE.out]
      exact EvQ_no ⟨0, 0, []⟩ _ (HB3.out.trans (put3_below (by omega) _ _ _)) (Kd.R_nil _ _ _ _ _)
    have q7 : (f.f0 != 5) = false := by rw [bne_eq_false_iff_eq]; omega
    have H7 := Aside0.mk h7
    clear h7
    by_cases h8 : f.f3.length ≤ 16
    rotate_left
    · have q8 : decide ((f.f3.length : Int) > 16) = true := decide_eq_true (by omega)
      have q8' : decide ((16 : Int) < (f.f3.length : Int)) = true := decide_eq_true (by omega)
      have q8n : decide (16 < f.f3.length) = true := decide_eq_true (by omega)
      have H8 := Aside0.mk h8
      clear h8
      have HE := Aside0.mk (show res = none by
       rw [HR.out]
       unfold evF
       rw [if_neg]
       rintro ⟨a1, a2, a3, a4, a5, a6, a7, a8⟩
       exact H8.out a8)
      refine Aside0.mk ?_
      go_wp2
      refine bodyPost_ret (res_event _ _ (w.heap.size + 1) _ _ _ _ rfl rfl (put3_blk NR.out _ _ _)) rfl ?_
      rw [HE.out]
      exact EvQ_no ⟨0, 0, []⟩ _ (HB3.out.trans (put3_below (by omega) _ _ _)) (Kd.R_nil _ _ _ _ _)
    have q8 : decide ((f.f3.length : Int) > 16) = false := decide_eq_false (by omega)
    have q8' : decide ((16 : Int) < (f.f3.length : Int)) = false := decide_eq_false (by omega)
    have q8n : decide (16 < f.f3.length) = false := decide_eq_false (by omega)
    have H8 := Aside0.mk h8
    clear h8
    have NE4 := Aside0.mk (show ((X3.setCell ⟨w.heap.size + 1 + 1, 0, none⟩ (.int .i64 p.f1)).setCell ⟨w.heap.size + 1 + 1, 1, none⟩ (.int .i64 (-1))).heap[w.heap.size + 1 + 1]? = some (.cells #[.int .i64 p.f1, .int .i64 (-1), .slice none 0 0] 39 (0, 0)) from Tr.blk_set (Tr.blk_set NE.out 0 _) 1 _)
    have HB4 := Aside0.mk ((HB3.out.setCell (p := ⟨w.heap.size + 1 + 1, 0, none⟩) (show w.heap.size ≤ w.heap.size + 1 + 1 by omega) (.int .i64 p.f1)).setCell (p := ⟨w.heap.size + 1 + 1, 1, none⟩) (show w.heap.size ≤ w.heap.size + 1 + 1 by omega) (.int .i64 (-1)))
    have HKB := Aside0.mk (((KeepBut.refl X3 (w.heap.size + 1 + 1) none).set_ 0 (.int .i64 p.f1)).set_ 1 (.int .i64 (-1)))
    refine Aside0.mk ?_
    go_wp2
    generalize (X3.setCell ⟨w.heap.size + 1 + 1, 0, none⟩ (.int .i64 p.f1)).setCell ⟨w.heap.size + 1 + 1, 1, none⟩ (.int .i64 (-1)) = X4 at *
    have HX1 := Aside0.mk (show w.heap.size + 3 ≤ w1.heap.size by have := HS0.out; have := HSZ1.out; omega)
    have HX2 := Aside0.mk (show w1.heap.size + 1 ≤ w2.heap.size by have := HSX1.out; have := HSZ2.out; omega)
    have HX3 := Aside0.mk (show w2.heap.size + 1 ≤ w3.heap.size by have := HSX2.out; have := HSZ3.out; omega)
    clear z0 z1 z2 z3 z4 y0 y1 y2 yf r0 r1 r2 rf a0 a1 b0 b2 d0 d3
    go_loopg [11] 4 (fun kq v11 w9 => ∃ k : Nat, k + kq = 4 ∧ v11 = .int .i64 k ∧ Aside0 (w9.heap[w.heap.size + 1 + 1]? = some (.cells #[.int .i64 p.f1, .int .i64 (kup t.f2 k), .slice none 0 0] 39 (0, 0))) ∧ Aside0 (KeepBut X3 w9 (w.heap.size + 1 + 1) none) ∧ Aside0 (Below w.heap.size w w9))
    case atStart => exact ⟨0, by omega, rfl, NE4, HKB, HB4⟩
    case round =>
     obtain ⟨k, hk, rfl, NEW, HKW, HBW⟩ := hrel
     have NTr := Aside0.mk ((HKW.out.2 w2.heap.size (blk_lt NT.out) (by have := HX1.out; have := HX2.out; omega) (fun e => by cases e)).trans NT.out)
     cases gk with
     | zero =>
      have hge : ¬ ((k : Nat) : Int) ≤ 3 := by omega
      have hk4 : k = 4 := by omega
      subst hk4
      have NRW := Aside0.mk ((HKW.out.2 (w.heap.size + 1) (blk_lt NR.out) (by omega) (fun e => by cases e)).trans NR.out)
      have NFW := Aside0.mk ((HKW.out.2 w3.heap.size (blk_lt NF.out) (by have := HX1.out; have := HX2.out; have := HX3.out; omega) (fun e => by cases e)).trans NF.out)
      have e0 := blk_cell NEW.out 0
      have e1 := blk_cell NEW.out 1
      have e2 := blk_cell NEW.out 2
      have r0 := blk_cell NRW.out 0
      have r1 := blk_cell NRW.out 1
      have r2 := blk_cell NRW.out 2
      have rf := blk_frozen NRW.out
      have d3 := blk_cell NFW.out 3
      have RFW := Aside0.mk (Kd.R_move RF.out (fun k hk => HKW.out.2 k (by have h1 := hk.2.2.1; have h2 := HSX3.out; omega) (by have h1 := hk.2.1; have := HSX2.out; have := HX1.out; have := HX2.out; omega) (fun e => by cases e)))
      by_cases hkd : kup t.f2 4 < 0
      · have HE := Aside0.mk (show res = none by
         rw [HR.out]
         unfold evF
         rw [if_pos ⟨rfl, rfl, rfl, H4.out, H5.out, H6.out, H7.out, H8.out⟩, if_pos hkd])
        have qk : decide (kup t.f2 4 < 0) = true := decide_eq_true hkd
        clear hkd
        go_wp2
        refine bodyPost_ret (res_event _ _ (w.heap.size + 1) _ _ _ _ rfl rfl (put3_blk NRW.out _ _ _)) rfl ?_
        rw [HE.out]
        exact EvQ_no ⟨p.f1, kup t.f2 4, []⟩ _ (HBW.out.trans (put3_below (by omega) _ _ _)) (Kd.R_nil _ _ _ _ _)
      · have HE := Aside0.mk (show res = (callsR f.f3 (kup t.f2 4)).map fun cs => ⟨p.f1, kup t.f2 4, cs⟩ by
         rw [HR.out]
         unfold evF
         rw [if_pos ⟨rfl, rfl, rfl, H4.out, H5.out, H6.out, H7.out, H8.out⟩, if_neg hkd])
        have qk : decide (kup t.f2 4 < 0) = false := decide_eq_false hkd
        clear hkd hge
        generalize kup t.f2 4 = K at *
        go_wp2
        clear e0 e1 e2 r0 r1 r2 rf d3
        obtain ⟨hfl, hff⟩ : f.f3.length ≤ 16 ∧ ∀ x ∈ f.f3, fitsR 6 x := ⟨H8.out, HPF.out.2.2⟩
        have HFF := Aside0.mk hff
        have hflI : (f.f3.length : Int) ≤ 16 := by omega
        clear hff
        have hwM : wr.heap.size ≤ wr.heap.size := Nat.le_refl _
        obtain ⟨X5, hX5⟩ : ∃ x, x = wr := ⟨_, rfl⟩
        rw [← hX5] at NRW NFW RFW NEW HKW HBW
        rw [← hX5]
        clear hwM NTr
        go_loopg [13, 14, 91] f.f3.length (fun kq v13 v14 v91 w9 => ∃ (j : Nat) (vr : Value), j + kq = f.f3.length ∧ v91 = .int .i64 j ∧ Aside0 (∀ x ∈ f.f3.take j, (callR x K).isSome = true) ∧ Aside0 (w9.heap[w.heap.size + 1 + 1]? = some (.cells #[.int .i64 p.f1, .int .i64 K, vr] 39 (0, 0))) ∧ Aside0 (KeepBut X5 w9 (w.heap.size + 1 + 1) none) ∧ Aside0 (Below w.heap.size w w9) ∧ Aside0 (k43.R 43 w9 X5.heap.size (fun _ => True) vr ((f.f3.take j).filterMap fun x => callR x K)))
        case atStart => exact ⟨0, _, by omega, rfl, Aside0.mk (by simp), NEW, Aside0.mk (KeepBut.refl _ _ _), HBW, Aside0.mk (Kd.R_nil _ _ _ _ _)⟩
        case round =>
         clear hX5
         obtain ⟨j, vr, hj, rfl, HAL, NE6, HK6, HB6, HR6⟩ := hrel
         have NR6 := Aside0.mk ((HK6.out.2 (w.heap.size + 1) (blk_lt NRW.out) (by omega) (fun e => by cases e)).trans NRW.out)
         obtain ⟨A6, c6, rfl⟩ := Kd.R_slice HR6.out
         cases gk with
         | zero =>
          have hge : ¬ ((j : Nat) : Int) < (f.f3.length : Int) := by omega
          have HT := Aside0.mk (show f.f3.take j = f.f3 from List.take_of_length_le (by omega))
          rw [HT.out] at HAL HR6 NE6
          have HE2 := Aside0.mk (show res = some ⟨p.f1, K, f.f3.filterMap fun x => callR x K⟩ by
           rw [HE.out]
           unfold callsR
           rw [if_pos (List.all_eq_true.2 HAL.out)]
           rfl)
          have e0 := blk_cell NE6.out 0
          have e1 := blk_cell NE6.out 1
          have e2 := blk_cell NE6.out 2
          have r0 := blk_cell NR6.out 0
          have r1 := blk_cell NR6.out 1
          have r2 := blk_cell NR6.out 2
          have rf := blk_frozen NR6.out
          have hlt6 := blk_lt NRW.out
          go_wp2
          refine bodyPost_ret (res_event _ _ (w.heap.size + 1) _ _ _ _ rfl rfl (put3_blk NR6.out _ _ _)) rfl ?_
          rw [HE2.out]
          exact EvQ_ok ⟨p.f1, K, f.f3.filterMap fun x => callR x K⟩ _ (HB6.out.trans (put3_below (by omega) _ _ _)) (Kd.R_lower (Kd.R_mono (Kd.R_step (Kd.R_bound HR6.out) (fun k hk _ => put3_far (by have := hk.2.1; omega) _ _ _)) (fun _ _ => trivial)) HBW.out.size)
         | succ j1 =>
          have hlt : ((j : Nat) : Int) < (f.f3.length : Int) := by omega
          have hlt' : j < f.f3.length := by omega
          have hx3 := HKW.out.1
          have hxb : w.heap.size + 1 + 1 < X3.heap.size := blk_lt NE.out
          have RF6 := Aside0.mk (Kd.R_move RFW.out (fun k hk => HK6.out.2 k (by have h1 := hk.2.2.1; omega) (by have h1 := hk.2.1; have := HSX2.out; have := HX1.out; have := HX2.out; omega) (fun e => by cases e)))
          obtain ⟨A7, c7, e7, l7, g7⟩ := Kd.R_reads RF6.out
          cases e7
          obtain ⟨ad, B3, e3, B4, e4, e, r0, r1, r2, r3, r4, m3, g3, m4, g4⟩ := at_T51 g7 j (by omega) hlt
          cases e
          have hrd : rd_T51 f.f3 j = f.f3[j] := by simp [rd_T51, List.getD, List.getElem?_eq_getElem hlt']
          rw [hrd] at r0 r1 r2 r3 r4 m3 g3 m4 g4
          rw [Int.toNat_natCast] at r0 r1 r2 r3 r4
          have HTJ := Aside0.mk (show f.f3.take (j + 1) = f.f3.take j ++ [f.f3[j]] from List.take_succ_eq_append_getElem hlt')
          have HMM := Aside0.mk (List.getElem_mem hlt')
          have HXF := Aside0.mk (HFF.out _ (List.getElem_mem hlt'))
          have HG7 := Aside0.mk (And.intro m3 g3)
          have HFL := Aside0.mk hfl
          clear hrd m3 g3 m4 g4 l7 g7 hfl hx3 hxb
          generalize f.f3[j] = x at *
          have HA6 := Aside0.mk ((Below.refl wr.heap.size wr).alloc (Nat.le_refl _) (.cells #[.int .i64 x.f0, .int .i64 x.f1, .string x.f2, .slice B3 x.f3.length e3, .slice B4 x.f4.length e4] 51 (0, 0)))
          have NX := Aside0.mk (blk_new wr (.cells #[.int .i64 x.f0, .int .i64 x.f1, .string x.f2, .slice B3 x.f3.length e3, .slice B4 x.f4.length e4] 51 (0, 0)))
          have HM7 : True := trivial
          go_wp2_with (first | ((with_reducible refine gate_dst (N := 96) rfl ?_); clear HM7 r0 r1 r2 r3 r4; generalize wr.alloc (.cells #[.int .i64 x.f0, .int .i64 x.f1, .string x.f2, .slice B3 x.f3.length e3, .slice B4 x.f4.length e4] 51 (0, 0)) = X6 at *; have z0 := blk_cell NX.out 0; have z1 := blk_cell NX.out 1; have z2 := blk_cell NX.out 2; have z3 := blk_cell NX.out 3; have z4 := blk_cell NX.out 4; have e1 := blk_cell ((HA6.out.block _ (blk_lt NE6.out)).trans NE6.out) 1) | fail)
          refine (call_calls x K B3 e3 B4 e4 m X6 (fitsR_len HXF.out).1 HG7.out.1 (Kd.C_below HG7.out.2 HA6.out) (fun y hy => (fitsR_len (HXF.out.2.2 y hy)).1) (cell_below' (HB6.out.trans (HA6.out.mono HB6.out.size)) HMX.out)).mono ?_
          clear z0 z1 z2 z3 z4 e1
          rintro e9 w9 ⟨hb9, c, cv, rfl, hcv, hce⟩
          obtain ⟨C4, k4, rfl⟩ := Kd.R_slice hcv
          have hb8 := HA6.out.trans ((hb9.trans ((Below.refl w9.heap.size w9).alloc (Nat.le_refl _) (.cells #[.int .i64 c.f0, .string c.f1, .int .i64 c.f2, .bool c.f3, .slice C4 c.f4.length k4] 43 (0, 0)) |>.mono hb9.size)).mono HA6.out.size)
          have NC := Aside0.mk (blk_new w9 (.cells #[.int .i64 c.f0, .string c.f1, .int .i64 c.f2, .bool c.f3, .slice C4 c.f4.length k4] 43 (0, 0)))
          have RC := Aside0.mk (Kd.R_below hcv ((Below.refl w9.heap.size w9).alloc (Nat.le_refl _) (.cells #[.int .i64 c.f0, .string c.f1, .int .i64 c.f2, .bool c.f3, .slice C4 c.f4.length k4] 43 (0, 0))))
          have HB8 := Aside0.mk hb8
          have NE8 := Aside0.mk ((hb8.block _ (blk_lt NE6.out)).trans NE6.out)
          have NR8 := Aside0.mk ((hb8.block _ (blk_lt NR6.out)).trans NR6.out)
          have R8 := Aside0.mk (Kd.R_below HR6.out hb8)
          have HOB := Aside0.mk (fun k (hk : (Value.slice A6 ((f.f3.take j).filterMap fun x => callR x K).length c6).ownBlock = some k) => ((Kd.R_bound HR6.out).1 k hk).2.2.1)
          have HS6 := HA6.out.size
          have HS5 := HK6.out.1
          have hxb := blk_lt NEW.out
          have hxr := blk_lt NRW.out
          clear hcv hb9 hb8
          have HM8 : True := trivial
          cases hro : callR x K with
          | none =>
           have HE2 := Aside0.mk (show res = none by
            rw [HE.out]
            unfold callsR
            rw [if_neg]
            · rfl
            · intro h
              have := List.all_eq_true.1 h x HMM.out
              rw [hro] at this
              cases this)
           clear hce
           go_wp2_with (first | ((with_reducible refine gate_dst (N := 103) rfl ?_); clear HM8; generalize w9.alloc (.cells #[.int .i64 c.f0, .string c.f1, .int .i64 c.f2, .bool c.f3, .slice C4 c.f4.length k4] 43 (0, 0)) = X8 at *; have e0 := blk_cell NE8.out 0; have e1 := blk_cell NE8.out 1; have e2 := blk_cell NE8.out 2; have r0 := blk_cell NR8.out 0; have r1 := blk_cell NR8.out 1; have r2 := blk_cell NR8.out 2; have rf := blk_frozen NR8.out) | fail)
           refine bodyPost_ret (res_event _ _ (w.heap.size + 1) _ _ _ _ rfl rfl (put3_blk NR8.out _ _ _)) rfl ?_
           rw [HE2.out]
           exact EvQ_no ⟨p.f1, K, (f.f3.take j).filterMap fun x => callR x K⟩ _ ((HB6.out.trans (HB8.out.mono HB6.out.size)).trans (put3_below (by omega) _ _ _)) (Kd.R_lower (Kd.R_mono (Kd.R_step (Kd.R_bound R8.out) (fun k hk _ => put3_far (by have := hk.2.1; omega) _ _ _)) (fun _ _ => trivial)) HBW.out.size)
          | some y =>
           have hy := hce y hro
           subst hy
           clear hce
           have HFM := Aside0.mk (show (f.f3.take (j + 1)).filterMap (fun x => callR x K) = (f.f3.take j).filterMap (fun x => callR x K) ++ [y] by
            rw [HTJ.out, List.filterMap_append]
            simp [hro])
           have HAL2 := Aside0.mk (show ∀ x ∈ f.f3.take (j + 1), (callR x K).isSome = true by
            rw [HTJ.out]
            intro z hz
            rcases List.mem_append.1 hz with h | h
            · exact HAL.out z h
            · rw [List.mem_singleton.1 h, hro]; rfl)
           have hl9 : ((f.f3.take j).filterMap fun x => callR x K).length ≤ 16 := by
            have h1 := List.length_filterMap_le (fun x => callR x K) (f.f3.take j)
            have h2 := HFL.out
            rw [List.length_take] at h1
            omega
           have HL9 := Aside0.mk hl9
           have HRO := Aside0.mk hro
           clear hl9 hro
           generalize (f.f3.take j).filterMap (fun x => callR x K) = cs at *
           have hl9 := HL9.out
           go_wp2_with (first | ((with_reducible refine gate_dst (N := 103) rfl ?_); clear HM8; generalize w9.alloc (.cells #[.int .i64 y.f0, .string y.f1, .int .i64 y.f2, .bool y.f3, .slice C4 y.f4.length k4] 43 (0, 0)) = X8 at *; have e0 := blk_cell NE8.out 0; have e1 := blk_cell NE8.out 1; have e2 := blk_cell NE8.out 2; have ef := blk_frozen NE8.out; have z0 := blk_cell NC.out 0; have z1 := blk_cell NC.out 1; have z2 := blk_cell NC.out 2; have z3 := blk_cell NC.out 3; have z4 := blk_cell NC.out 4) | ((with_reducible refine gate_builtin (b := .append) (xs := #[.tmp 106, .tmp 108]) rfl ?_); at_builtin; refine Kd.R_append k43 (w0 := wr) X5.heap.size rfl (.tmp 106) (.tmp 108) 37 43 (.agg #[.int .i64 0, .string ⟨#[]⟩, .int .i64 0, .bool false, .slice none 0 0]) 64 rfl Tryz.underlying37 info43 rfl (by decide) (by omega) (.slice A6 cs.length c6) cs y [.int .i64 y.f0, .string y.f1, .int .i64 y.f2, .bool y.f3, .slice C4 y.f4.length k4] (fun _ => True) (fun k => wr.heap.size ≤ k) rfl (by first | (go_simp; done) | (go_simp; rfl)) ?aP ?aK (fun _ _ => trivial) ?aO ?aB ?aS ?aL ?_; (case aP => exact k43_mkM _ _ _ y (Kd.R_lower (Kd.R_mono (Kd.R_bound RC.out) (fun k hk => by have := hk.2.1; omega)) (by omega))); (case aK => exact fun k hk => ⟨trivial, fun e => by have := HOB.out k e.symm; omega⟩); (case aO => exact R8.out); (case aB => exact HB8.out.mono HS5); (case aS => have := HB8.out.size; omega); (case aL => omega); intro v1 w1x ho hb1 hg hat; rw [← HFM.out] at ho; obtain ⟨A1, k1x, rfl⟩ := Kd.R_slice ho; have HO1 := Aside0.mk ho; have HB1 := Aside0.mk hb1; have NE1 := Aside0.mk ((hb1.block _ hxb).trans NE6.out); clear ho hb1 hg hat e0 e1 e2 ef z0 z1 z2 z3 z4; have e2 := blk_cell NE1.out 2; have ef := blk_frozen NE1.out))
           go_roundg j1
           case measure => omega
           case rel => exact ⟨j + 1, _, by omega, by go_num, HAL2, Aside0.mk (Tr.blk_set NE1.out 2 _), Aside0.mk (KeepBut.set_ ⟨Nat.le_trans HS5 HB1.out.size, fun i hi hne hr => (HB1.out.block i hi).trans (HK6.out.2 i hi hne hr)⟩ 2 _), Aside0.mk ((HB6.out.trans (HB1.out.mono HBW.out.size)).setCell (p := ⟨w.heap.size + 1 + 1, 2, none⟩) (by show w.heap.size ≤ w.heap.size + 1 + 1; omega) _), Aside0.mk (Kd.R_mono (Kd.R_move (Kd.R_bound HO1.out) (fun k hk => Below.heap_setCell w1x ⟨w.heap.size + 1 + 1, 2, none⟩ _ k (by intro e; have e' : k = w.heap.size + 1 + 1 := e; have := hk.2.1; omega))) (fun _ _ => trivial))⟩
     | succ k1 =>
      have hlt : ((k : Nat) : Int) ≤ 3 := by omega
      go_wp2
      refine start_ (n := 5) (S := (fun w' => w'.cell? ⟨w2.heap.size, 2, none⟩ = some (.string t.f2) ∧ Below wr.drew.heap.size wr.drew w')) (ds := []) #[fF, fF, fF, fF, fF] (by kernel_rfl) rfl rfl ⟨blk_cell (w := wr.drew) NTr.out 2, Below.refl _ _⟩ (fun hHeld => ?_)
      refine pure_ (i := 0) (N := some 77) (v := ?_) (a' := ?_) #[tT, fF, fF, fF, fF] rfl rfl (by kernel_rfl) (fun _ _ _ h => h) (Or.inl ⟨by rfl, ?_⟩) ?_ ?_
      rotate_left
      · intro w'
        go_simp
        with_reducible rfl
      rotate_left
      · simp only [Act.put, sA, sZ, sS, i64_w, i32_w]
        rfl
      refine pure_ (i := 2) (N := some 79) (v := ?_) (a' := ?_) #[tT, fF, tT, fF, fF] rfl rfl (by kernel_rfl) (fun _ _ _ h => h) (Or.inl ⟨by rfl, ?_⟩) ?_ ?_
      rotate_left
      · intro w'
        go_simp
        with_reducible rfl
      rotate_left
      · simp only [Act.put, sA, sZ, sS, i64_w, i32_w]
        rfl
      refine take_ (i := 3) (N := some 80) (v := ?_) (a' := ?_) #[tT, fF, tT, tT, fF] rfl rfl (by kernel_rfl) (fun _ _ _ h => h) (Or.inl ⟨by rfl, ?_⟩) hHeld ?_ ?_
      rotate_left
      · rintro w' ⟨s0, _⟩
        go_simp
        with_reducible rfl
      rotate_left
      · simp only [Act.put, sA, sZ, sS, i64_w, i32_w]
        rfl
      refine one_ (i := 1) (N := some 78) #[tT, tT, tT, tT, fF] rfl rfl (by kernel_rfl) (by decide) (fun K hK => ?_)
      refine goes_ Tryz.func31 (by kernel_rfl) rfl #[.int .i64 (k : Int)] (by rfl) rfl rfl (by simp only [List.map_toArray, List.map_cons, List.map_nil]; rfl) ?_
      refine (kind_calls (k : Int) (by omega) hlt wr.drew).mono ?_
      rintro e9 w9 ⟨rfl, hb9⟩
      refine ⟨_, rfl, ?_⟩
      refine hK.out _ _ ⟨cell_below' hb9 (blk_cell (w := wr.drew) NTr.out 2), hb9⟩ fun hHeld => ?_
      clear hK K
      refine norm_ (a' := ?_) ?_ ?_
      rotate_left
      · show Act.put _ (some 78) _ = _
        simp only [Act.put, sA, sZ, sS, i64_w, i32_w]
        rfl
      refine pure_ (i := 4) (N := some 81) (v := ?_) (a' := ?_) #[tT, tT, tT, tT, tT] rfl rfl (by kernel_rfl) (fun _ _ _ h => h) (Or.inl ⟨by rfl, ?_⟩) ?_ ?_
      rotate_left
      · intro w'
        go_simp
        with_reducible rfl
      rotate_left
      · simp only [Act.put, sA, sZ, sS, i64_w, i32_w]
        rfl
      refine done_ (by kernel_rfl) ?_
      have hdr : Below wr.heap.size wr w9 := (⟨rfl, rfl, rfl, Nat.le_refl _, fun _ _ => rfl⟩ : Below wr.heap.size wr wr.drew).trans hb9
      have HW9 := Aside0.mk (HBW.out.trans (hdr.mono HBW.out.size))
      have HK9 := Aside0.mk (HKW.out.trans (KeepBut.of_below hdr (w.heap.size + 1 + 1) none) (.inl rfl))
      have NE9 := Aside0.mk ((hdr.block _ (blk_lt NEW.out)).trans NEW.out)
      clear hdr hb9 hHeld
      have e1 := blk_cell NE9.out 1
      have ef := blk_frozen NE9.out
      have hk9 : (k : Int) ≤ 1000 := by omega
      go_wp2
      · rename_i hx
        have hq : kindT k = t.f2 := ba_ext2 (by simpa using hx)
        have HKU := Aside0.mk (show kup t.f2 (k + 1) = (k : Int) by show (if kindT k = t.f2 then (k : Int) else kup t.f2 k) = _; rw [if_pos hq])
        go_roundg k1
        case measure => omega
        case rel => exact ⟨k + 1, by omega, by go_num, Aside0.mk (by rw [HKU.out]; exact Tr.blk_set NE9.out 1 _), Aside0.mk (HK9.out.set_ 1 _), Aside0.mk (HW9.out.setCell (p := ⟨w.heap.size + 1 + 1, 1, none⟩) (by show w.heap.size ≤ w.heap.size + 1 + 1; omega) _)⟩
      · rename_i hx
        have hq : ¬ kindT k = t.f2 := fun e => by rw [e] at hx; simp at hx
        have HKU := Aside0.mk (show kup t.f2 (k + 1) = kup t.f2 k by show (if kindT k = t.f2 then (k : Int) else kup t.f2 k) = _; rw [if_neg hq])
        go_roundg k1
        case measure => omega
        case rel => exact ⟨k + 1, by omega, by go_num, Aside0.mk (by rw [HKU.out]; exact NE9.out), HK9, HW9⟩
end Go.Proofs.YtamcicojockhpaaGreatDoor.Wi
end
section
namespace Go.Proofs
open Go.Shelf
def Tryz.lays160_ren : Go.Shelf.Ren := ⟨fun | 160 => 19 | 232 => 45 | 231 => 44 | 227 => 46 | 234 => 48 | 233 => 47 | 236 => 50 | 235 => 49 | 228 => 75 | 271 => 77 | 151 => 76 | 197 => 73 | 120 => 110 | 152 => 109 | 260 => 107 | 137 => 111 | 119 => 136 | 224 => 134 | 225 => 133 | 217 => 132 | 266 => 146 | n => n, fun | 9 => 9 | 4 => 4 | 3 => 3 | 5 => 5 | 117 => 80 | 116 => 79 | 0 => 0 | 124 => 83 | 21 => 21 | 105 => 117 | 46 => 166 | 119 => 167 | 139 => 170 | 138 => 169 | n => n, fun | 3 => 0 | 4 => 1 | n => n⟩
theorem Tryz.lays160 : Go.Proofs.Lays.n160 Tryz.prog Tryz.lays160_ren := {
 mixed := by kernel_rfl
 f119 := Tryz.func136.trans (congrArg some (by kernel_rfl))
 f120 := Tryz.func110.trans (congrArg some (by kernel_rfl))
 f137 := Tryz.func111.trans (congrArg some (by kernel_rfl))
 f151 := Tryz.func76.trans (congrArg some (by kernel_rfl))
 f152 := Tryz.func109.trans (congrArg some (by kernel_rfl))
 f160 := Tryz.func19.trans (congrArg some (by kernel_rfl))
 f197 := Tryz.func73.trans (congrArg some (by kernel_rfl))
 f217 := Tryz.func132.trans (congrArg some (by kernel_rfl))
 f224 := Tryz.func134.trans (congrArg some (by kernel_rfl))
 f225 := Tryz.func133.trans (congrArg some (by kernel_rfl))
 f227 := Tryz.func46.trans (congrArg some (by kernel_rfl))
 f228 := Tryz.func75.trans (congrArg some (by kernel_rfl))
 f231 := Tryz.func44.trans (congrArg some (by kernel_rfl))
 f232 := Tryz.func45.trans (congrArg some (by kernel_rfl))
 f233 := Tryz.func47.trans (congrArg some (by kernel_rfl))
 f234 := Tryz.func48.trans (congrArg some (by kernel_rfl))
 f235 := Tryz.func49.trans (congrArg some (by kernel_rfl))
 f236 := Tryz.func50.trans (congrArg some (by kernel_rfl))
 f260 := Tryz.func107.trans (congrArg some (by kernel_rfl))
 f266 := Tryz.func146.trans (congrArg some (by kernel_rfl))
 f271 := Tryz.func77.trans (congrArg some (by kernel_rfl))
 t0 := Tryz.underlying0
 a0 := Tryz.isAgg0
 z0 := Tryz.sizeOf0
 v0 := Tryz.zeroValue0
 t3 := Tryz.underlying3
 a3 := Tryz.isAgg3
 z3 := Tryz.sizeOf3
 v3 := Tryz.zeroValue3
 t4 := Tryz.underlying4
 a4 := Tryz.isAgg4
 z4 := Tryz.sizeOf4
 v4 := Tryz.zeroValue4
 t5 := Tryz.underlying5
 a5 := Tryz.isAgg5
 z5 := Tryz.sizeOf5
 v5 := Tryz.zeroValue5
 t9 := Tryz.underlying9
 a9 := Tryz.isAgg9
 z9 := Tryz.sizeOf9
 v9 := Tryz.zeroValue9
 t21 := Tryz.underlying21
 a21 := Tryz.isAgg21
 z21 := Tryz.sizeOf21
 v21 := Tryz.zeroValue21
 t46 := Tryz.underlying166
 a46 := Tryz.isAgg166
 z46 := Tryz.sizeOf166
 v46 := Tryz.zeroValue166
 t105 := Tryz.underlying117
 a105 := Tryz.isAgg117
 z105 := Tryz.sizeOf117
 v105 := Tryz.zeroValue117
 t116 := Tryz.underlying79
 a116 := Tryz.isAgg79
 z116 := Tryz.sizeOf79
 t117 := Tryz.underlying80
 a117 := Tryz.isAgg80
 z117 := Tryz.sizeOf80
 v117 := Tryz.zeroValue80
 t119 := Tryz.underlying167
 a119 := Tryz.isAgg167
 z119 := Tryz.sizeOf167
 t124 := Tryz.underlying83
 a124 := Tryz.isAgg83
 z124 := Tryz.sizeOf83
 v124 := Tryz.zeroValue83
 t138 := Tryz.underlying169
 a138 := Tryz.isAgg169
 z138 := Tryz.sizeOf169
 v138 := Tryz.zeroValue169
 t139 := Tryz.underlying170
 a139 := Tryz.isAgg170
 z139 := Tryz.sizeOf170
 v139 := Tryz.zeroValue170
 g3 := by kernel_rfl
 g4 := by kernel_rfl }
end Go.Proofs
end
section
set_option linter.unusedVariables false
set_option linter.unusedSimpArgs false
namespace Go.Proofs.YtamcicojockhpaaGreatDoor.Wi
open Go.RowKit Go.Proofs.YtamcicojockhpaaGreatDoorW.PrintWords Go.Proofs.YtamcicojockhpaaGreatDoorW.PrintLast Go.Proofs.YtamcicojockhpaaGreatDoorW.PrintMore
open Go.Proofs.YtamcicojockhpaaGreatDoor.Lx Go.Proofs.YtamcicojockhpaaGreatDoor.PS Go.Proofs.YtamcicojockhpaaGreatDoor.Tr
theorem trim_calls (s : ByteArray) (w : World) (hs : s.size ≤ 9223372036854775807) :
 Calls Tryz.prog 19 #[.string s, .string ⟨#[32, 9, 13]⟩] w fun e w' => e = .returned (.string ⟨(Lib.trimS s.data.toList [32, 9, 13]).toArray⟩) ∧ Below w.heap.size w w' :=
 Any.strings_Trim_laid Tryz.lays160 (by kernel_rfl) s ⟨#[32, 9, 13]⟩ w hs (by decide) (ascii_of_all (by decide))
def seqW (w : World) (s sep : ByteArray) : World := ((w.alloc (.cells #[.string s] 9 (0, 0))).alloc (.cells #[.string sep] 9 (0, 0))).alloc (.cells #[.int .i64 0] 3 (0, 0))
def seqV (w : World) : Value := .func (.func 72) #[] #[.pointer (some ⟨w.heap.size + 1, 0, none⟩), .pointer (some ⟨w.heap.size, 0, none⟩), .pointer (some ⟨w.heap.size + 1 + 1, 0, none⟩)]
theorem splitSeq_calls (s sep : ByteArray) (w : World) : Calls Tryz.prog 43 #[.string s, .string sep, .int .i64 0] w fun e w' => e = .returned (seqV w) ∧ w' = seqW w s sep := by
 go_enter Tryz.func43, Tryz.ntmps43
 go_wp2
 go_ret
 exact ⟨rfl, rfl⟩
theorem SplitSeq_calls (s sep : ByteArray) (w : World) : Calls Tryz.prog 18 #[.string s, .string sep] w fun e w' => e = .returned (seqV w) ∧ w' = seqW w s sep := by
 go_enter Tryz.func18, Tryz.ntmps18
 go_wp2_with fail
 refine (splitSeq_calls s sep w).mono ?_
 rintro e w' ⟨rfl, rfl⟩
 unfold seqV
 go_wp2
 go_ret
 exact ⟨rfl, rfl⟩
def splitL : List UInt8 → List (List UInt8)
 | [] => [[]]
 | c :: r => if c = 10 then [] :: splitL r else match splitL r with
  | [] => [[c]]
  | p :: ps => (c :: p) :: ps
theorem splitL_ne (r : List UInt8) : splitL r ≠ [] := by
 cases r with
 | nil => simp [splitL]
 | cons c r =>
  unfold splitL
  split
  · simp
  · split <;> simp
theorem splitL_index : ∀ r : List UInt8, (Lib.index r [10] = -1 → splitL r = [r]) ∧ (∀ i : Nat, Lib.index r [10] = i → i < r.length ∧ splitL r = r.take i :: splitL (r.drop (i + 1)))
 | [] => ⟨fun _ => rfl, fun i h => by simp [Lib.index] at h⟩
 | c :: r => by
  obtain ⟨h1, h2⟩ := splitL_index r
  by_cases hc : c = 10
  · subst hc
    have e : Lib.index (10 :: r) [10] = 0 := by simp [Lib.index, List.isPrefixOf]
    rw [e]
    refine ⟨fun h => by simp at h, fun i hi => ?_⟩
    have : i = 0 := by omega
    subst this
    exact ⟨by simp, by simp [splitL]⟩
  · have e : Lib.index (c :: r) [10] = if Lib.index r [10] = -1 then -1 else Lib.index r [10] + 1 := by
     have hp : ([10] : List UInt8).isPrefixOf (c :: r) = false := by simp [List.isPrefixOf]; exact fun h => hc h.symm
     rw [Lib.index, hp]
     simp
    have hs : splitL (c :: r) = match splitL r with | [] => [[c]] | p :: ps => (c :: p) :: ps := by rw [splitL, if_neg hc]
    rw [e, hs]
    by_cases hm : Lib.index r [10] = -1
    · rw [if_pos hm, h1 hm]
      exact ⟨fun _ => rfl, fun i hi => by omega⟩
    · rw [if_neg hm]
      have hge := Lib.index_ge r [10]
      refine ⟨fun h => by omega, fun i hi => ?_⟩
      obtain ⟨j, hj⟩ : ∃ j : Nat, Lib.index r [10] = j := ⟨(Lib.index r [10]).toNat, by omega⟩
      obtain ⟨hlt, hsp⟩ := h2 j hj
      have : i = j + 1 := by omega
      subst this
      rw [hsp]
      exact ⟨by simp; omega, by simp⟩
theorem ba_take (r : ByteArray) (i : Nat) : (⟨(r.data.toList.take i).toArray⟩ : ByteArray) = r.extract 0 i := by
 apply ByteArray.ext
 apply Array.ext'
 simp [Array.toList_extract, List.extract_eq_take_drop]
theorem ba_drop (r : ByteArray) (i : Nat) : (r.extract i r.size).data.toList = r.data.toList.drop i := by
 simp [Array.toList_extract, List.extract_eq_take_drop]
 rw [List.take_of_length_le]
 rw [List.length_drop]
 exact Nat.le_of_eq (by rw [Array.length_toList]; rfl)
def cellLen (w : World) (b : Nat) : Nat := match w.cell? ⟨b, 0, none⟩ with
 | some (.string s) => s.size
 | _ => 0
theorem cellLen_of {w : World} {b : Nat} {s : ByteArray} (h : w.cell? ⟨b, 0, none⟩ = some (.string s)) : cellLen w b = s.size := by simp [cellLen, h]
attribute [local go_sem] Oper.semAt_some
set_option maxRecDepth 100000 in
set_option maxHeartbeats 4000000 in
theorem seq1_in (n : Nat) (hn : 1 ≤ n) (l bs bp bv : Nat) (m : Int) (s : ByteArray) (hs : s.size ≤ 1000000000) (J Jx : List (List UInt8) → World → Prop)
 (hm : ∀ pre W, J pre W → W.cell? ⟨2, 0, none⟩ = some (.int .i64 m))
 (hp : ∀ pre W, J pre W → W.heap[bp]? = some (.cells #[.string ⟨#[10]⟩] 9 (0, 0)))
 (hv : ∀ pre W, J pre W → W.heap[bv]? = some (.cells #[.int .i64 0] 3 (0, 0)))
 (hset : ∀ pre W (u v : ByteArray), J pre W → W.heap[bs]? = some (.cells #[.string u] 9 (0, 0)) → J pre (W.setCell ⟨bs, 0, none⟩ (.string v)))
 (hY : ∀ pre x rest W, splitL s.data.toList = pre ++ x :: rest → J pre W → YieldAt Fence.wide (n - 1) Tryz.prog l #[.string ⟨x.toArray⟩] W fun e W' =>
  (e = .returned (.bool true) ∧ J (pre ++ [x]) W' ∧ W'.heap[bs]? = W.heap[bs]?) ∨ (e = .returned (.bool false) ∧ Jx (pre ++ [x]) W'))
 (W : World) (hb : W.heap[bs]? = some (.cells #[.string s] 9 (0, 0))) (h0 : J [] W) :
 CallsIn Fence.wide n Tryz.prog 72 #[.func (.yield l) #[] #[], .pointer (some ⟨bp, 0, none⟩), .pointer (some ⟨bs, 0, none⟩), .pointer (some ⟨bv, 0, none⟩)] W fun e W' => (∃ v, e = .returned v) ∧
  (J (splitL s.data.toList) W' ∨ (∃ pre, pre <+: splitL s.data.toList ∧ Jx pre W')) := by
 refine callsIn_of_wp Tryz.func72 rfl trivial ?_ rfl
 simp only [Tryz.ntmps72, List.size_toArray, List.length_cons, List.length_nil, Nat.reduceAdd, Nat.reduceSub, Array.replicate_succ, Array.replicate_zero, List.push_toArray, List.append_toArray, List.nil_append, List.cons_append]
 have p0 := blk_cell (hp _ _ h0) 0
 have q0 := blk_cell hb 0
 gi_wp2
 clear p0 q0
 gi_loopw [7] (fun v7 wr => ∃ (pre : List (List UInt8)) (r : ByteArray), splitL s.data.toList = pre ++ splitL r.data.toList ∧ r.size ≤ 1000000000 ∧ wr.heap[bs]? = some (.cells #[.string r] 9 (0, 0)) ∧ J pre wr) (fun v7 wr => cellLen wr bs)
 case atStart => exact ⟨[], s, rfl, hs, hb, h0⟩
 case round =>
  obtain ⟨pre, r, hsp, hr, hbr, hJ⟩ := hrel
  have p0 := blk_cell (hp _ _ hJ) 0
  have q0 := blk_cell hbr 0
  have v0 := blk_cell (hv _ _ hJ) 0
  have qf := blk_frozen hbr
  have HIX := Aside0.mk (Tryz.strings_Index r ⟨#[10]⟩ m wr (by omega) (hm _ _ hJ))
  have hsi := splitL_index r.data.toList
  rw [show (ByteArray.mk #[10]).data.toList = [10] from rfl] at HIX
  have hge := Lib.index_ge r.data.toList [10]
  by_cases hneg : Lib.index r.data.toList [10] = -1
  · rw [hneg] at HIX
    have hsp1 := hsi.1 hneg
    rw [hsp1] at hsp
    obtain ⟨fn, tmps, assign, body, hy, hR⟩ := hY pre _ [] wr hsp hJ
    clear hsi hge hneg
    gi_wp2_with (refine ⟨trivial, ?_⟩; gi_at_call 74; refine (callsIn_wide.2 HIX.out).mono ?_; rintro e w' ⟨rfl, hw⟩; rw [hw])
    have HP := Aside0.mk hsp
    clear hsp
    refine hR.mono ?_
    rintro e W' (⟨rfl, hJ', hk⟩ | ⟨rfl, hJx'⟩)
    · gi_wp2
      go_end0
      exact ⟨⟨_, rfl⟩, .inl (by rw [HP.out]; exact hJ')⟩
    · gi_wp2
      go_end0
      exact ⟨⟨_, rfl⟩, .inr ⟨_, ⟨[], by rw [HP.out, List.append_nil]⟩, hJx'⟩⟩
  · obtain ⟨i, hi⟩ : ∃ i : Nat, Lib.index r.data.toList [10] = i := ⟨(Lib.index r.data.toList [10]).toNat, by omega⟩
    obtain ⟨hlt, hsp2⟩ := hsi.2 i hi
    rw [hsp2] at hsp
    rw [hi] at HIX
    have hrs : r.data.toList.length = r.size := Array.length_toList
    have hY1 := hY pre _ _ wr hsp hJ
    rw [show (⟨(r.data.toList.take i).toArray⟩ : ByteArray) = r.extract 0 i from ba_take r i] at hY1
    obtain ⟨fn, tmps, assign, body, hy, hR⟩ := hY1
    have w1 : wrap64 (i : Int) = (i : Int) := w64 _ (by omega) (by omega)
    have w2 : wrap64 ((i : Int) + 1) = (i : Int) + 1 := w64 _ (by omega) (by omega)
    have hi0 : decide ((i : Int) < 0) = false := decide_eq_false (by omega)
    have hi1 : (i : Int) < (r.size : Int) := by omega
    have hi2 : i < r.size := by omega
    have hrI : (r.size : Int) ≤ 1000000000 := by omega
    clear hsi hge hneg hi hrs hlt
    gi_wp2_with (refine ⟨trivial, ?_⟩; gi_at_call 74; refine (callsIn_wide.2 HIX.out).mono ?_; rintro e w' ⟨rfl, hw⟩; rw [hw])
    have HP := Aside0.mk hsp
    clear hsp
    refine hR.mono ?_
    rintro e W' (⟨rfl, hJ', hk⟩ | ⟨rfl, hJx'⟩)
    · have p0' := blk_cell (hp _ _ hJ') 0
      have hbr' := hk.trans hbr
      have q0' := blk_cell hbr' 0
      have qf' := blk_frozen hbr'
      have HSET := Aside0.mk (hset _ _ r (r.extract (i + 1) r.size) hJ' hbr')
      have HBR := Aside0.mk (show (W'.setCell ⟨bs, 0, none⟩ (.string (r.extract (i + 1) r.size))).heap[bs]? = some (.cells #[.string (r.extract (i + 1) r.size)] 9 (0, 0)) from Tr.blk_set hbr' 0 _)
      have HQ := Aside0.mk (blk_cell hbr 0)
      have hsz : (r.extract (i + 1) r.size).size = r.size - (i + 1) := by rw [ByteArray.size_extract]; omega
      have HSZ := Aside0.mk hsz
      clear hsz hk hbr' hJ' hJ
      gi_wp2
      go_roundw
      case rel => exact ⟨pre ++ [r.data.toList.take i], r.extract (i + 1) r.size, by rw [HP.out, ba_drop, List.append_assoc]; rfl, by rw [HSZ.out]; omega, HBR.out, HSET.out⟩
      case measure => rw [cellLen_of (blk_cell HBR.out 0), cellLen_of HQ.out, HSZ.out]; omega
    · gi_wp2
      refine bodyPost_ret (results_none rfl _ _ _) rfl ?_
      exact ⟨⟨_, rfl⟩, .inr ⟨_, ⟨_, by rw [HP.out, List.append_assoc]; rfl⟩, hJx'⟩⟩
end Go.Proofs.YtamcicojockhpaaGreatDoor.Wi
end
