/- Print: the walk. -/
import Derived.Test.YtifhiloeghmfiaaDoorCnfRef
import Derived.Test.YtifhiloeghmfiaaDoorBld
import Derived.Test.YtifhiloeghmfiaaDoorShelf
import Derived.Lib.ItoaLen
import Derived.Lib.AppendIntMem
set_option linter.unusedVariables false
set_option linter.unusedSimpArgs false
namespace Go.Proofs.YtifhiloeghmfiaaDoor.Cnf
open Go.RowKit Go.Proofs.YtifhiloeghmfiaaDoorW.PrintWords Go.Proofs.YtifhiloeghmfiaaDoorW.PrintLast Go.Proofs.YtifhiloeghmfiaaDoorW.PrintMore

/-- The table of powers of ten lies in this world. -/
def Tab (w : World) : Prop := Lib.TabIs Tryd.prog w "internal/strconv.uint64pow10" .u64 Lib.pow10Tab
theorem gPow : ∃ g, Tryd.prog.globalNamed "internal/strconv.uint64pow10" = some g := by
  have h : (Tryd.prog.globalNamed "internal/strconv.uint64pow10").isSome = true := by kernel_rfl
  exact Option.isSome_iff_exists.1 h
theorem Tab.below {w w' : World} (h : Tab w) (hb : Below w.heap.size w w') : Tab w' := by
  obtain ⟨g, hg⟩ := gPow
  unfold Tab Lib.TabIs World.var? at h ⊢
  rw [hg] at h ⊢
  simp only [Option.bind_some] at h ⊢
  have hlt : g < w.heap.size := by
    rcases Nat.lt_or_ge g w.heap.size with h' | h'
    · exact h'
    · rw [Array.getElem?_eq_none h'] at h; cases h
  rw [hb.block g hlt]
  exact h

def litsText : List Int → List UInt8
  | [] => []
  | l :: r => Lib.itoa l ++ [32] ++ litsText r
def clsText : List (List Int) → List UInt8
  | [] => []
  | c :: r => litsText c ++ ([48, 10] ++ clsText r)
def printL (n : Nat) (cls : List (List Int)) : List UInt8 := ([112, 32, 99, 110, 102, 32] ++ Lib.itoa n ++ [32] ++ Lib.itoa cls.length ++ [10]) ++ clsText cls
/-- What Print answers. -/
def printF (vars : Int) (cls : List (List Int)) : List UInt8 × Int := bif checkF vars cls == 0 then (printL vars.toNat cls, 0) else ([], 150)

set_option maxRecDepth 100000 in
set_option maxHeartbeats 4000000 in
theorem Print_calls (vars : Int) (A : Option Addr) (c : Nat) (cls : List (List Int)) (w : World) (hv : -9223372036854775808 ≤ vars ∧ vars ≤ 9223372036854775807)
    (hr : Kd.C KL w A cls.length cls) (hc : cls.length ≤ c) (htab : Tab w) :
    Calls Tryd.prog 21 #[.agg #[.int .i64 vars, .slice A cls.length c]] w fun e w' => e = .returned (.tuple #[.string ⟨(printF vars cls).1.toArray⟩, .int .i64 (printF vars cls).2]) ∧ Below w.heap.size w w' := by
  obtain ⟨r1, hr1⟩ : ∃ r, r = (printF vars cls).1 := ⟨_, rfl⟩
  obtain ⟨r2, hr2⟩ : ∃ r, r = (printF vars cls).2 := ⟨_, rfl⟩
  rw [← hr1, ← hr2]
  have HR1 := Aside0.mk hr1
  have HR2 := Aside0.mk hr2
  have HR := Aside0.mk hr
  have HTAB0 := Aside0.mk htab
  clear hr htab hr1 hr2
  go_enter Tryd.func21, Tryd.ntmps21
  go_wp2_with fail
  refine (Check_calls vars A c cls _ hv ?_ hc).mono ?_
  · exact Kd.C_alloc HR.out _
  rintro e w1 ⟨rfl, hb⟩
  have hc0 : w1.cell? ⟨w.heap.size, 0, none⟩ = some (.int .i64 vars) := (hb.cell (p := ⟨w.heap.size, 0, none⟩) (by simp)).trans (by go_simp)
  have hc1 : w1.cell? ⟨w.heap.size, 1, none⟩ = some (.slice A cls.length c) := (hb.cell (p := ⟨w.heap.size, 1, none⟩) (by simp)).trans (by go_simp)
  have hlt1 : w.heap.size < w1.heap.size := by have := hb.size; simp at this; omega
  have hbel : Below w.heap.size w w1 := ((Below.refl _ _).alloc (Nat.le_refl _) _).trans (hb.mono (by simp))
  clear hb
  have HB := Aside0.mk hbel
  clear hbel
  rcases checkF_or vars cls with hz | hz
  · obtain ⟨⟨h1, h2⟩, h3, h4⟩ := checkF_zero hz
    have H4 := Aside0.mk h4
    clear h4
    obtain ⟨n, rfl⟩ : ∃ n : Nat, vars = n := ⟨vars.toNat, by omega⟩
    have e1 : r1 = printL n cls := by rw [HR1.out, printF, hz]; rfl
    have e2 : r2 = 0 := by rw [HR2.out, printF, hz]; rfl
    have E1 := Aside0.mk e1
    have E2 := Aside0.mk e2
    clear HR1 HR2 e1 e2
    rw [hz]
    clear hz
    have HTAB := Aside0.mk (HTAB0.out.below HB.out)
    clear HTAB0
    have hl1 := Lib.itoa_length_le n (by omega) (by omega)
    have hl2 := Lib.itoa_length_le cls.length (by omega) (by omega)
    go_wp2_with fail
    have hb2 : Below w1.heap.size w1 (w1.alloc (.cells #[.pointer none, .slice none 0 0] 65)) := (Below.refl _ _).alloc (Nat.le_refl _) _
    have hi2 : Lib.IsBuilder 65 5 w1.heap.size w1.heap.size [] (w1.alloc (.cells #[.pointer none, .slice none 0 0] 65)) :=
      .inl ⟨Nat.le_refl _, .slice none 0 0, blk_new _ _, own_nil _ _ _ _, by simp [Value.ownBlock]⟩
    refine start_ (n := 12) (S := fun w' => Below w1.heap.size w1 w' ∧ Lib.IsBuilder 65 5 w1.heap.size w1.heap.size [] w') (ds := [11]) #[false, false, false, false, false, false, false, false, false, false, false, false] (by kernel_rfl) rfl rfl ⟨hb2.drew, hi2⟩ (fun hHeld => ?_)
    refine pure_ (i := 0) (N := some 15) (v := ?_) (a' := ?_) #[true, false, false, false, false, false, false, false, false, false, false, false] rfl rfl (by kernel_rfl) (fun _ _ _ h => h) (Or.inl ⟨by rfl, ?_⟩) ?_ ?_
    rotate_left
    · intro w'
      go_simp
      with_reducible rfl
    rotate_left
    · simp only [Act.put, List.setIfInBounds_toArray, List.set_cons_zero, List.set_cons_succ, i64_w, i32_w]
      rfl
    refine take_ (i := 1) (N := some 16) (v := ?_) (a' := ?_) #[true, true, false, false, false, false, false, false, false, false, false, false] rfl rfl (by kernel_rfl) (fun _ _ _ h => h) (Or.inl ⟨by rfl, ?_⟩) hHeld ?_ ?_
    rotate_left
    · rintro w' ⟨sb, si⟩
      have s0 := (sb.cell (p := ⟨w.heap.size, 0, none⟩) hlt1).trans hc0
      have s1 := (sb.cell (p := ⟨w.heap.size, 1, none⟩) hlt1).trans hc1
      go_simp
      with_reducible rfl
    rotate_left
    · simp only [Act.put, List.setIfInBounds_toArray, List.set_cons_zero, List.set_cons_succ, i64_w, i32_w]
      rfl
    refine pure_ (i := 5) (N := some 20) (v := ?_) (a' := ?_) #[true, true, false, false, false, true, false, false, false, false, false, false] rfl rfl (by kernel_rfl) (fun _ _ _ h => h) (Or.inl ⟨by rfl, ?_⟩) ?_ ?_
    rotate_left
    · intro w'
      go_simp
      with_reducible rfl
    rotate_left
    · simp only [Act.put, List.setIfInBounds_toArray, List.set_cons_zero, List.set_cons_succ, i64_w, i32_w]
      rfl
    refine take_ (i := 6) (N := some 21) (v := ?_) (a' := ?_) #[true, true, false, false, false, true, true, false, false, false, false, false] rfl rfl (by kernel_rfl) (fun _ _ _ h => h) (Or.inl ⟨by rfl, ?_⟩) hHeld ?_ ?_
    rotate_left
    · rintro w' ⟨sb, si⟩
      have s0 := (sb.cell (p := ⟨w.heap.size, 0, none⟩) hlt1).trans hc0
      have s1 := (sb.cell (p := ⟨w.heap.size, 1, none⟩) hlt1).trans hc1
      go_simp
      with_reducible rfl
    rotate_left
    · simp only [Act.put, List.setIfInBounds_toArray, List.set_cons_zero, List.set_cons_succ, i64_w, i32_w]
      rfl
    refine pure_ (i := 7) (N := some 22) (v := ?_) (a' := ?_) #[true, true, false, false, false, true, true, true, false, false, false, false] rfl rfl (by kernel_rfl) (fun _ _ _ h => h) (Or.inl ⟨by rfl, ?_⟩) ?_ ?_
    rotate_left
    · intro w'
      go_simp
      with_reducible rfl
    rotate_left
    · simp only [Act.put, List.setIfInBounds_toArray, List.set_cons_zero, List.set_cons_succ, i64_w, i32_w]
      rfl
    refine one_ (i := 2) (N := some 17) #[true, true, true, false, false, true, true, true, false, false, false, false] rfl rfl (by kernel_rfl) (by decide) (fun K hK => ?_)
    have hS' : Below w1.heap.size w1 _ ∧ Lib.IsBuilder 65 5 w1.heap.size w1.heap.size [] _ := hHeld
    refine goes_ Tryd.func38 (by kernel_rfl) rfl #[.int .i64 (n : Int)] (by rfl) rfl rfl (by simp only [List.map_toArray, List.map_cons, List.map_nil]; rfl) ?_
    refine (Tryd.strconv_Itoa (n : Int) (by omega) (by omega) _ (HTAB.out.below hS'.1)).mono ?_
    rintro e w4 ⟨rfl, k4, os4, rfl⟩
    refine ⟨_, rfl, ?_⟩
    refine hK.out _ _ ⟨hS'.1.trans (Lib.below_grow _ _ hS'.1.size _ _), Bld.isBuilder_below hS'.2 (Lib.below_grow _ _ (Nat.le_refl _) _ _)⟩ (fun hHeld => ?_)
    clear hK K hS'
    refine norm_ (a' := ?_) ?_ ?_
    rotate_left
    · show Act.put _ (some 17) _ = _
      simp only [Act.put, List.setIfInBounds_toArray, List.set_cons_zero, List.set_cons_succ, i64_w, i32_w]
      rfl
    refine pure_ (i := 3) (N := some 18) (v := ?_) (a' := ?_) #[true, true, true, true, false, true, true, true, false, false, false, false] rfl rfl (by kernel_rfl) (fun _ _ _ h => h) (Or.inl ⟨by rfl, ?_⟩) ?_ ?_
    rotate_left
    · intro w'
      go_simp
      rw [if_neg (by omega)]
    rotate_left
    · simp only [Act.put, List.setIfInBounds_toArray, List.set_cons_zero, List.set_cons_succ, i64_w, i32_w]
      rfl
    refine pure_ (i := 4) (N := some 19) (v := ?_) (a' := ?_) #[true, true, true, true, true, true, true, true, false, false, false, false] rfl rfl (by kernel_rfl) (fun _ _ _ h => h) (Or.inl ⟨by rfl, ?_⟩) ?_ ?_
    rotate_left
    · intro w'
      go_simp
      rw [if_neg (by omega)]
    rotate_left
    · simp only [Act.put, List.setIfInBounds_toArray, List.set_cons_zero, List.set_cons_succ, i64_w, i32_w]
      rfl
    refine one_ (i := 8) (N := some 23) #[true, true, true, true, true, true, true, true, true, false, false, false] rfl rfl (by kernel_rfl) (by decide) (fun K hK => ?_)
    have hS' : Below w1.heap.size w1 _ ∧ Lib.IsBuilder 65 5 w1.heap.size w1.heap.size [] _ := hHeld
    refine goes_ Tryd.func38 (by kernel_rfl) rfl #[.int .i64 (cls.length : Int)] (by rfl) rfl rfl (by simp only [List.map_toArray, List.map_cons, List.map_nil]; rfl) ?_
    refine (Tryd.strconv_Itoa (cls.length : Int) (by omega) (by omega) _ (HTAB.out.below hS'.1)).mono ?_
    rintro e w4 ⟨rfl, k4, os4, rfl⟩
    refine ⟨_, rfl, ?_⟩
    refine hK.out _ _ ⟨hS'.1.trans (Lib.below_grow _ _ hS'.1.size _ _), Bld.isBuilder_below hS'.2 (Lib.below_grow _ _ (Nat.le_refl _) _ _)⟩ (fun hHeld => ?_)
    clear hK K hS'
    refine norm_ (a' := ?_) ?_ ?_
    rotate_left
    · show Act.put _ (some 23) _ = _
      simp only [Act.put, List.setIfInBounds_toArray, List.set_cons_zero, List.set_cons_succ, i64_w, i32_w]
      rfl
    refine pure_ (i := 9) (N := some 24) (v := ?_) (a' := ?_) #[true, true, true, true, true, true, true, true, true, true, false, false] rfl rfl (by kernel_rfl) (fun _ _ _ h => h) (Or.inl ⟨by rfl, ?_⟩) ?_ ?_
    rotate_left
    · intro w'
      go_simp
      rw [if_neg (by omega)]
    rotate_left
    · simp only [Act.put, List.setIfInBounds_toArray, List.set_cons_zero, List.set_cons_succ, i64_w, i32_w]
      rfl
    refine pure_ (i := 10) (N := some 25) (v := ?_) (a' := ?_) #[true, true, true, true, true, true, true, true, true, true, true, false] rfl rfl (by kernel_rfl) (fun _ _ _ h => h) (Or.inl ⟨by rfl, ?_⟩) ?_ ?_
    rotate_left
    · intro w'
      go_simp
      rw [if_neg (by omega)]
    rotate_left
    · simp only [Act.put, List.setIfInBounds_toArray, List.set_cons_zero, List.set_cons_succ, i64_w, i32_w]
      rfl
    have hS3 : Below w1.heap.size w1 _ ∧ Lib.IsBuilder 65 5 w1.heap.size w1.heap.size [] _ := hHeld
    refine last_ (i := 11) (N := some 26) #[true, true, true, true, true, true, true, true, true, true, true, true] rfl rfl (by kernel_rfl) (by decide) (fun K hK => ?_)
    refine goes_ Tryd.func37 (by kernel_rfl) rfl #[.pointer (some ⟨w1.heap.size, 0, none⟩), .string (((({ data := #[112, 32, 99, 110, 102, 32] } ++ { data := (Lib.itoa n).toArray } : ByteArray) ++ { data := #[32] } : ByteArray) ++ { data := (Lib.itoa cls.length).toArray } : ByteArray) ++ { data := #[10] } : ByteArray)] (by rfl) rfl rfl (by simp only [List.map_toArray, List.map_cons, List.map_nil]; rfl) ?_
    refine (Bld.WriteString w1.heap.size w1.heap.size [] _ _ hS3.2 ?_ hS3.1.size).mono ?_
    · go_simp; omega
    rintro e w4 ⟨rfl, hb4, hbel4⟩
    replace hbel4 := hS3.1.trans hbel4
    clear hS3 hHeld
    refine ⟨_, rfl, ?_⟩
    refine hK.out _ _ ?_
    clear hK K
    refine done_ (by kernel_rfl) ?_
    have HI := Aside0.mk (show Lib.IsBuilder 65 5 w1.heap.size w1.heap.size (Lib.byteCells ([112, 32, 99, 110, 102, 32] ++ Lib.itoa n ++ [32] ++ Lib.itoa cls.length ++ [10])) w4 by
      refine .inr ?_
      have e : Lib.byteCells ([112, 32, 99, 110, 102, 32] ++ Lib.itoa n ++ [32] ++ Lib.itoa cls.length ++ [10]) = [] ++ Lib.strCells ((((({ data := #[112, 32, 99, 110, 102, 32] } ++ { data := (Lib.itoa n).toArray } : ByteArray) ++ { data := #[32] } : ByteArray) ++ { data := (Lib.itoa cls.length).toArray } : ByteArray) ++ { data := #[10] } : ByteArray)) := by
        rw [Lib.strCells_eq, List.nil_append]
        simp [ByteArray.data_append]
      rw [e]
      exact hb4)
    have HB4 := Aside0.mk hbel4
    have E0 := Aside0.mk (show r1 = ([112, 32, 99, 110, 102, 32] ++ Lib.itoa n ++ [32] ++ Lib.itoa cls.length ++ [10]) ++ clsText (cls.drop 0) from E1.out)
    have HL0 := Aside0.mk (show ([112, 32, 99, 110, 102, 32] ++ Lib.itoa n ++ [32] ++ Lib.itoa cls.length ++ [10]).length ≤ 100 + 3000 * 0 by
      simp only [List.length_append, List.length_cons, List.length_nil]; omega)
    have hc0' : w4.cell? ⟨w.heap.size, 0, none⟩ = some (.int .i64 n) := (hbel4.cell (p := ⟨w.heap.size, 0, none⟩) hlt1).trans hc0
    have hc1' : w4.cell? ⟨w.heap.size, 1, none⟩ = some (.slice A cls.length c) := (hbel4.cell (p := ⟨w.heap.size, 1, none⟩) hlt1).trans hc1
    generalize ([112, 32, 99, 110, 102, 32] ++ Lib.itoa n ++ [32] ++ Lib.itoa cls.length ++ [10]) = pre at *
    clear hb4 hbel4 hb2 hi2 hl1 hl2 hHeld hc0 hc1
    go_wp2
    go_loopg [7, 9, 30] cls.length (fun kq v7 v9 v30 w2 => ∃ (k : Nat) (pre : List UInt8), k + kq = cls.length ∧ v30 = .int .i64 k ∧ Aside0 (r1 = pre ++ clsText (cls.drop k)) ∧ Aside0 (pre.length ≤ 100 + 3000 * k) ∧ Aside0 (Lib.IsBuilder 65 5 w1.heap.size w1.heap.size (Lib.byteCells pre) w2) ∧ Aside0 (Below w1.heap.size w1 w2))
    case atStart => exact ⟨0, pre, by simp, rfl, E0, HL0, HI, HB4⟩
    case round =>
      clear E0 HL0 HI HB4 hc0' hc1'
      obtain ⟨k, pre, hk, rfl, E0, HL0, HI, HB4⟩ := hrel
      cases gk with
      | zero =>
        have hge : ¬ ((k : Int) < (cls.length : Int)) := by omega
        have he : r1 = pre := by rw [E0.out, List.drop_of_length_le (by omega)]; simp [clsText]
        have HE := Aside0.mk he
        clear he E0
        go_wp2_with fail
        refine (Tryd.Builder_String_any w1.heap.size w1.heap.size pre _ HI.out HB4.out.size).mono ?_
        rintro e w5 ⟨rfl, hb5⟩
        have HB5 := Aside0.mk (HB4.out.trans hb5)
        clear hb5 HB4 HI
        go_wp2
        go_ret2
        exact ⟨by rw [HE.out, E2.out]; rfl, HB.out.trans (HB5.out.mono (by omega))⟩
      | succ k1 =>
        have hlt : (k : Int) < (cls.length : Int) := by omega
        have hlt' : k < cls.length := by omega
        obtain ⟨ad, A0, c0, e, hx, hl, hin⟩ := at_KL (Kd.C_below HR.out (HB.out.trans (HB4.out.mono (by omega)))) k hlt'
        obtain ⟨ad', A0', c0', e', hx', hl', hin'⟩ := at_KL HR.out k hlt'
        cases e
        cases e'
        have hsame := ((HB.out.trans (HB4.out.mono (by omega))).cell (World.block_lt_of_cell? w _ hx')).symm.trans hx
        rw [hx'] at hsame
        have e2 : A0' = A0 ∧ c0' = c0 := by simpa using hsame
        obtain ⟨rfl, rfl⟩ := e2
        have hd : cls.drop k = rdL cls k :: cls.drop (k + 1) := by rw [List.drop_eq_getElem_cons hlt']; simp [rdL, hlt']
        obtain ⟨hxl, hxf⟩ := H4.out _ (rdL_mem hlt')
        have E1' := Aside0.mk (show r1 = pre ++ (litsText ((rdL cls k).drop 0) ++ ([48, 10] ++ clsText (cls.drop (k + 1)))) by rw [E0.out, hd]; rfl)
        have HIN := Aside0.mk hin'
        have HXF := Aside0.mk (show ∀ l ∈ rdL cls k, -4096 ≤ l ∧ l ≤ 4096 from fun l hl => ⟨(absI_range (hxf l hl) ⟨h1, h2⟩).2.2.1, (absI_range (hxf l hl) ⟨h1, h2⟩).2.2.2⟩)
        have HK := Aside0.mk hk
        have HLc := Aside0.mk hl
        have hk5 : k ≤ 131072 := by omega
        clear hd E0 hk hin hxf hl hin' hl' hx' hsame
        generalize rdL cls k = x at *
        have HL1 := Aside0.mk (show pre.length ≤ 100 + 3000 * k + 22 * 0 from HL0.out)
        go_wp2_with fail
        go_loopg [9, 36] x.length (fun kq v9 v36 w2 => ∃ (j : Nat) (pre : List UInt8), j + kq = x.length ∧ v36 = .int .i64 j ∧ Aside0 (r1 = pre ++ (litsText (x.drop j) ++ ([48, 10] ++ clsText (cls.drop (k + 1))))) ∧ Aside0 (pre.length ≤ 100 + 3000 * k + 22 * j) ∧ Aside0 (Lib.IsBuilder 65 5 w1.heap.size w1.heap.size (Lib.byteCells pre) w2) ∧ Aside0 (Below w1.heap.size w1 w2))
        case atStart => exact ⟨0, pre, by simp, rfl, E1', HL1, HI, HB4⟩
        case round =>
          clear HI HB4 E1' HL1 HL0 hx
          obtain ⟨j, pre, hj, rfl, E1', HL1, HI, HB4⟩ := hrel
          cases gk with
          | zero =>
            have hge : ¬ ((j : Int) < (x.length : Int)) := by omega
            have HE := Aside0.mk (show r1 = pre ++ ([48, 10] ++ clsText (cls.drop (k + 1))) by rw [E1'.out, List.drop_of_length_le (l := x) (by omega)]; simp [litsText])
            clear E1'
            have hpl := HL1.out
            go_wp2_with fail
            refine (Bld.WriteString w1.heap.size w1.heap.size (Lib.byteCells pre) _ _ HI.out ?_ HB4.out.size).mono ?_
            · rw [Lib.byteCells_length]; go_simp; omega
            rintro e w6 ⟨rfl, hi6, hb6⟩
            have HB6 := Aside0.mk (HB4.out.trans hb6)
            have HI6 := Aside0.mk (show Lib.IsBuilder 65 5 w1.heap.size w1.heap.size (Lib.byteCells (pre ++ [48, 10])) w6 by
              rw [Lib.byteCells_append]
              exact .inr hi6)
            have HE6 := Aside0.mk (show r1 = (pre ++ [48, 10]) ++ clsText (cls.drop (k + 1)) by rw [HE.out, List.append_assoc])
            have HL6 := Aside0.mk (show (pre ++ [48, 10]).length ≤ 100 + 3000 * (k + 1) by rw [List.length_append]; simp only [List.length_cons, List.length_nil]; omega)
            clear hi6 hb6 HI HB4 HE HL1
            generalize pre ++ [48, 10] = pre6 at *
            go_wp2
            go_roundg k1
            case measure => omega
            case rel => exact ⟨k + 1, pre6, by have := HK.out; omega, by go_num, HE6, HL6, HI6, HB6⟩
          | succ k2 =>
            have hlt : (j : Int) < (x.length : Int) := by omega
            have hlt' : j < x.length := by omega
            obtain ⟨ad2, e, hx2⟩ := Kd.at_int (Kd.C_below HIN.out (HB.out.trans (HB4.out.mono (by omega)))) j (by omega) hlt
            cases e
            rw [Int.toNat_natCast] at hx2
            have hd : x.drop j = rd x j :: x.drop (j + 1) := by rw [List.drop_eq_getElem_cons hlt']; simp [rd, hlt']
            have hmem : rd x j ∈ x := by simp only [rd, Int.toNat_natCast, List.getD_eq_getElem?_getD, List.getElem?_eq_getElem hlt', Option.getD_some]; exact List.getElem_mem _
            obtain ⟨hl3, hl4⟩ := HXF.out _ hmem
            have hE2 := E1'.out
            rw [hd] at hE2
            simp only [litsText] at hE2
            have HX := Aside0.mk hE2
            have HJ := Aside0.mk hj
            have hpl := HL1.out
            clear hd hmem hE2 E1' hj
            generalize rd x j = l at *
            have hil := Lib.itoa_length_le l (by omega) (by omega)
            go_wp2_with fail
            refine (Tryd.strconv_Itoa l (by omega) (by omega) _ (HTAB.out.below ?_)).mono ?_
            · exact HB4.out
            rintro e w6 ⟨rfl, k6, os6, rfl⟩
            have hb5 : Below w1.heap.size w1 (Sort.grow (wr.drewN k6) os6) := HB4.out.trans (Lib.below_grow _ _ HB4.out.size _ _)
            have hi5 := Bld.isBuilder_below HI.out (Lib.below_grow _ _ (Nat.le_refl _) k6 os6)
            have HB5 := Aside0.mk hb5
            have HI5 := Aside0.mk hi5
            clear hb5 hi5 HB4 HI hx2
            generalize Sort.grow (wr.drewN k6) os6 = w5 at *
            go_wp2_with fail
            refine (Bld.WriteString w1.heap.size w1.heap.size (Lib.byteCells pre) _ _ HI5.out ?_ HB5.out.size).mono ?_
            · rw [Lib.byteCells_length]; go_simp; omega
            rintro e w6 ⟨rfl, hi6, hb6⟩
            have HB6 := Aside0.mk (HB5.out.trans hb6)
            have HI6 := Aside0.mk (show Lib.IsBuilder 65 5 w1.heap.size w1.heap.size (Lib.byteCells (pre ++ (Lib.itoa l ++ [32]))) w6 by
              rw [Lib.byteCells_append]
              exact .inr hi6)
            have HE6 := Aside0.mk (show r1 = (pre ++ (Lib.itoa l ++ [32])) ++ (litsText (x.drop (j + 1)) ++ ([48, 10] ++ clsText (cls.drop (k + 1)))) by rw [HX.out]; simp only [List.append_assoc])
            have HL6 := Aside0.mk (show (pre ++ (Lib.itoa l ++ [32])).length ≤ 100 + 3000 * k + 22 * (j + 1) by rw [List.length_append, List.length_append]; simp only [List.length_cons, List.length_nil]; omega)
            clear hi6 hb6 HI5 HB5 HX HL1
            generalize pre ++ (Lib.itoa l ++ [32]) = pre6 at *
            go_wp2
            go_roundg k2
            case measure => omega
            case rel => exact ⟨j + 1, pre6, by have := HJ.out; omega, by go_num, HE6, HL6, HI6, HB6⟩
  · have e1 : r1 = [] := by rw [HR1.out, printF, hz]; rfl
    have e2 : r2 = 150 := by rw [HR2.out, printF, hz]; rfl
    subst e1
    subst e2
    rw [hz]
    clear HR1 HR2 hz
    go_wp2
    go_ret2
    exact ⟨rfl, HB.out⟩
end Go.Proofs.YtifhiloeghmfiaaDoor.Cnf

/- The contract of Print, in the form that the printed texts call. -/
namespace Go.Proofs.YtifhiloeghmfiaaDoor.PS
open Go.RowKit Go.Proofs.YtifhiloeghmfiaaDoorW.PrintWords Go.Proofs.YtifhiloeghmfiaaDoorW.PrintLast Go.Proofs.YtifhiloeghmfiaaDoorW.PrintMore
open Go.Proofs.YtifhiloeghmfiaaDoor.Cnf
def cnf_Print.f (_ : Nat) (vars : Int) (cls : List (List Int)) : Option (ByteArray × Int) := bif okI vars then some (⟨(printF vars cls).1.toArray⟩, (printF vars cls).2) else none
theorem cnf_Print.mono (a0 : Int) (a1 : List (List Int)) (k : Nat) : LeO (cnf_Print.f k a0 a1) (cnf_Print.f (k + 1) a0 a1) := LeO.refl _
theorem cnf_Print.calls (k : Nat) (vars : Int) (A : Option Addr) (c : Nat) (cls : List (List Int)) (r1 : ByteArray) (r2 : Int) (w : World) (hr : Kd.C (Kd.slice 3 (Kd.int .i64)) w A cls.length cls) (hc : cls.length ≤ c) (h : cnf_Print.f k vars cls = some (r1, r2)) (htab : Tab w) :
    Calls Tryd.prog 21 #[.agg #[.int .i64 vars, .slice A cls.length c]] w fun e w' => e = .returned (.tuple #[.string r1, .int .i64 r2]) ∧ Below w.heap.size w w' := by
  unfold cnf_Print.f at h
  cases hk : okI vars with
  | false => rw [hk] at h; cases h
  | true =>
    rw [hk] at h
    have h2 := Option.some.inj h
    simp only [Prod.mk.injEq] at h2
    obtain ⟨rfl, rfl⟩ := h2
    exact Print_calls vars A c cls w (okI_of hk) hr hc htab
end Go.Proofs.YtifhiloeghmfiaaDoor.PS
