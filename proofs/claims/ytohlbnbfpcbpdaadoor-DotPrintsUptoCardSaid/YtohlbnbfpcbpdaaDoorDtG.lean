/- A row of bytes that a conversion made (its end is marked), grown by strings. Of no program but for the types' numbers. -/
import Derived.Test.YtohlbnbfpcbpdaaDoorBld
import Derived.Test.YtohlbnbfpcbpdaaDoorWMore
import Derived.Lib.AppendStr
import Derived.Lib.ConvBytes
import Derived.Test.YtohlbnbfpcbpdaaDoorDtQ
import Derived.Lib.SlBytesConst
set_option linter.unusedVariables false
set_option linter.unusedSimpArgs false
namespace Go.Proofs.YtohlbnbfpcbpdaaDoor.FR
open Go.RowKit Go.Proofs.YtohlbnbfpcbpdaaDoorW.PrintWords Go.Proofs.YtohlbnbfpcbpdaaDoorW.PrintLast Go.Proofs.YtohlbnbfpcbpdaaDoorW.PrintMore

theorem pg_below_row {B g : Nat} {w0 w : World} (hb : Below B w0 w) (hBg : B ≤ g) (cs : Array Value) : Below B w0 (w.setRow g cs) :=
  hb.trans ⟨rfl, rfl, rfl, by simp [World.setRow], fun k hk => setRow_other w g k cs (by omega)⟩
theorem store_tail (P : Program) (g o : Nat) (t : TypeId) (fz : Nat × Nat) : ∀ (vs : List Value) (i : Nat) (cur : Array Value) (w : World), w.heap[g]? = some (.cells cur t fz) → (fz = (0, 0) ∨ o + i + vs.length ≤ fz.1) → o + i + vs.length ≤ cur.size → (∀ v ∈ vs, v.oneCell' = true) →
    (storeCells ⟨g, o, none⟩ vs i).run P w = .ok () (w.setRow g (cur.toList.take (o + i) ++ vs ++ cur.toList.drop (o + i + vs.length)).toArray)
  | [], i, cur, w, hg, _, _, _ => by
    simp only [storeCells, List.append_nil, List.length_nil, Nat.add_zero, List.take_append_drop, Array.toArray_toList]
    rw [setRow_self w g cur t fz hg]
    rfl
  | v :: rest, i, cur, w, hg, hfz, hl, h1 => by
    have hi : o + i < cur.size := by simp at hl; omega
    have hadd : (⟨g, o, none⟩ : Addr).add i = ⟨g, o + i, none⟩ := by unfold Addr.add; split <;> simp_all
    have hcell : w.cell? ⟨g, o + i, none⟩ = some cur[o + i] := by simp [World.cell?, hg, hi]
    have hfro : w.frozen? ⟨g, o + i, none⟩ = false := by
      obtain ⟨lo, hi'⟩ := fz
      simp only [World.frozen?, hg, Bool.and_eq_false_iff, decide_eq_false_iff_not]
      rcases hfz with hfz | hfz
      · right
        cases hfz
        omega
      · left
        simp only [List.length_cons] at hfz
        omega
    have hst : (store ((⟨g, o, none⟩ : Addr).add i) v).run P w = .ok () (w.setRow g (cur.setIfInBounds (o + i) v)) := by
      rw [hadd, run_store P w _ v _ (h1 v (by simp)), hcell]
      simp [hfro, setCell_eq_setRow w g (o + i) cur t fz v hg]
    have ih := store_tail P g o t fz rest (i + 1) (cur.setIfInBounds (o + i) v) (w.setRow g (cur.setIfInBounds (o + i) v)) (setRow_heap w g cur _ t _ hg) (hfz.imp id (fun h => by simp only [List.length_cons] at h; omega)) (by simp at hl ⊢; omega) (fun x hx => h1 x (by simp [hx]))
    simp only [storeCells, Sem.run_bind, hst, Result.andThen_ok, ih, setRow_setRow]
    congr 3
    have e := list_seg_step cur.toList (o + i) v rest (by simp at hl ⊢; omega)
    simpa [Array.toList_setIfInBounds, Nat.add_assoc] using e

/-- A row of bytes that may bear a mark behind its end. -/
def FRow (w : World) (B : Nat) (v : Value) (xs : List Value) : Prop :=
  ∃ g cap cur fz, v = .slice (some ⟨g, 0, none⟩) xs.length cap ∧ B ≤ g ∧ w.heap[g]? = some (.cells cur 5 fz) ∧ xs.length ≤ cap ∧ cap ≤ maxLen ∧ cur.size = cap ∧ (fz = (0, 0) ∨ cap ≤ fz.1) ∧ cur.toList.take xs.length = xs
theorem FRow.below {w w' : World} {B : Nat} {v : Value} {xs : List Value} (h : FRow w B v xs) (hb : Below w.heap.size w w') : FRow w' B v xs := by
  obtain ⟨g, cap, cur, fz, h1, h2, h3, h4⟩ := h
  exact ⟨g, cap, cur, fz, h1, h2, (hb.block g (blk_lt h3)).trans h3, h4⟩
theorem FRow.cell {w : World} {B : Nat} {g cap n : Nat} {xs : List Value} (h : FRow w B (.slice (some ⟨g, 0, none⟩) n cap) xs) : n = xs.length ∧ ∀ j u, xs[j]? = some u → w.cell? ((⟨g, 0, none⟩ : Addr).add j) = some u := by
  obtain ⟨g', cap', cur, fz, h1, h2, h3, h4, h5, h6, h7, h8⟩ := h
  injection h1 with e1 e2 e3
  have e4 : g = g' := by injection e1 with e; injection e
  subst e4
  refine ⟨e2, fun j u hu => ?_⟩
  have hadd : (⟨g, 0, none⟩ : Addr).add j = ⟨g, j, none⟩ := by unfold Addr.add; split <;> simp_all
  have hj : j < xs.length := (List.getElem?_eq_some_iff.1 hu).1
  rw [hadd, show w.cell? ⟨g, j, none⟩ = cur[j]? by simp [World.cell?, h3]]
  rw [← h8, List.getElem?_take_of_lt hj] at hu
  simpa using hu
theorem frow_append (w : World) (B : Nat) (v : Value) (xs : List Value) (s : ByteArray) (h : FRow w B v xs) (hlen : xs.length + s.size ≤ 140737488355328) (hB : B ≤ w.heap.size) :
    ∃ v' w', (Builtin.append_ #[40, 9] 40 #[v, .string s]).run Tryd.prog w = .ok v' w' ∧ FRow w' B v' (xs ++ Lib.strCells s) ∧ Below B w w' := by
  obtain ⟨i0, hi, hz0, hz1, hz2⟩ := info_parts Bld.infoByte
  obtain ⟨g, cap, cur, fz, rfl, h2, h3, h4, h5, h6, h7, h8⟩ := h
  have hl : (xs ++ Lib.strCells s).length = xs.length + s.size := by rw [List.length_append, Lib.strCells_length]
  by_cases hroom : xs.length + s.size ≤ cap
  · have hf := Lib.run_firstCells_string (P := Tryd.prog) w 1 s
    have hst := store_tail Tryd.prog g xs.length 5 fz (Lib.strCells s) 0 cur w h3 (by rw [Lib.strCells_length]; exact h7.imp id (fun h => by omega)) (by rw [Lib.strCells_length]; omega) (Lib.strCells_oneCell s)
    simp only [Nat.add_zero, Lib.strCells_length] at hst
    have hr : (Builtin.append_ #[40, 9] 40 #[.slice (some ⟨g, 0, none⟩) xs.length cap, .string s]).run Tryd.prog w = .ok (.slice (some ⟨g, 0, none⟩) (xs.length + s.size) cap) (w.setRow g (cur.toList.take xs.length ++ Lib.strCells s ++ cur.toList.drop (xs.length + s.size)).toArray) := by
      simp [Builtin.append_, run_underlying Tryd.underlying40, run_underlying Tryd.underlying9, sizeOf, typeInfo, hi, hz1, Builtin.lenOf, hroom, hf, Addr.add_lit, hst]
    refine ⟨_, _, hr, ⟨g, cap, _, fz, by rw [hl], h2, setRow_heap w g cur _ 5 _ h3, by rw [hl]; exact hroom, h5, ?_, h7, ?_⟩, pg_below_row (Below.refl B w) h2 _⟩
    · simp only [List.size_toArray, List.length_append, List.length_take, List.length_drop, Array.length_toList, Lib.strCells_length]
      omega
    · rw [h8]
      exact List.take_left' rfl
  · have holds : ∀ j u, xs[j]? = some u → w.cell? ((⟨g, 0, none⟩ : Addr).add j) = some u := (FRow.cell ⟨g, cap, cur, fz, rfl, h2, h3, h4, h5, h6, h7, h8⟩).2
    have hr := Lib.run_append_grow_string (P := Tryd.prog) w 40 9 40 5 i0 (.int .u8 0) Tryd.underlying40 Tryd.underlying9 hi hz0 ⟨g, 0, none⟩ xs.length cap xs (by rw [hz1, Nat.mul_one]) holds s (by omega) (by omega) (by rw [hz2]; exact growslice_fits (by omega) (by omega))
    have hge := grownCap_ge w (xs.length + s.size) cap 5
    have hcm : grownCap w (xs.length + s.size) cap 5 ≤ maxLen := grownCap_le_maxLen w (xs.length + s.size) cap 5 (by simp only [maxLen]; omega)
    refine ⟨_, _, hr, ⟨w.heap.size, _, _, (0, 0), by rw [hl], hB, heap_alloc_new w.drew _, by rw [hl]; exact hge, hcm, ?_, .inl rfl, ?_⟩, ((Below.refl B w).drew).alloc hB _⟩
    · have hz1' : (Value.int IntKind.u8 0).cells.size = 1 := rfl
      simp only [Array.size_append, List.size_toArray, size_zeroCells, hz1', Lib.strCells_length]
      omega
    · simp only [Array.toList_append]
      exact List.take_left' rfl
theorem frow_bytes (w : World) (s : ByteArray) (hs : s.size ≤ 140737488355328) : (convert 9 40 (.string s)).run Tryd.prog w = .ok (.slice (some ⟨w.heap.size, 0, none⟩) s.size (grownCap w s.size 0 5)) (Lib.bytesWorld w 5 s) ∧
    FRow (Lib.bytesWorld w 5 s) w.heap.size (.slice (some ⟨w.heap.size, 0, none⟩) s.size (grownCap w s.size 0 5)) (Lib.strCells s) := by
  refine ⟨Lib.run_convert_string_bytes w _ _ _ _ Tryd.underlying9 Tryd.underlying40 Tryd.underlying5, w.heap.size, grownCap w s.size 0 5, _, _, by rw [Lib.strCells_length], Nat.le_refl _, Lib.bytesWorld_at_new w 5 s, ?_, ?_, ?_, .inr ?_, ?_⟩
  · rw [Lib.strCells_length]
    exact grownCap_ge w s.size 0 5
  · exact grownCap_le_maxLen w s.size 0 5 (by simp only [maxLen]; omega)
  · have := grownCap_ge w s.size 0 5
    have e : s.data.size = s.size := rfl
    simp only [Lib.bytesCells, Array.size_append, Array.size_map, Array.size_replicate, e]
    omega
  · have := grownCap_ge w s.size 0 5
    have e : s.data.size = s.size := rfl
    simp only [Lib.bytesCells, Array.size_append, Array.size_map, Array.size_replicate, e]
    omega
  · have e : (Lib.bytesCells w 5 s).toList = Lib.strCells s ++ (Array.replicate (grownCap w s.size 0 5 - s.size) (Value.int .u8 0)).toList := by
      simp [Lib.bytesCells, Lib.strCells]
    rw [e]
    exact List.take_left' rfl
theorem frow_back (w : World) (B : Nat) (v : Value) (l : List UInt8) (h : FRow w B v (Lib.byteCells l)) : (convert 40 9 v).run Tryd.prog w = .ok (.string ⟨l.toArray⟩) w := by
  obtain ⟨g, cap, cur, fz, rfl, h'⟩ := h
  have hc := (FRow.cell ⟨g, cap, cur, fz, rfl, h'⟩).2
  rw [Lib.byteCells_length]
  exact run_convert_bytes_back _ 40 9 5 ⟨g, 0, none⟩ cap l Tryd.underlying40 Tryd.underlying5 Tryd.underlying9 (fun j hj => by
    rw [hc j (.int .u8 (l[j].toNat)) (by simp [Lib.byteCells, hj])])

theorem FRow.lower {w : World} {B B' : Nat} {v : Value} {xs : List Value} (h : FRow w B v xs) (hb : B' ≤ B) : FRow w B' v xs := by
  obtain ⟨g, cap, cur, fz, h1, h2, h3⟩ := h
  exact ⟨g, cap, cur, fz, h1, Nat.le_trans hb h2, h3⟩
theorem wpList_frow {ops : Array Oper} {rest : List Oper} {o : Oper} {a : Act} {Q : Exit → Act → World → Prop} (w : World) (hgd : o.guard = none) (sl x : Operand)
    (ho : o.op = .call { callee := .builtin .append, args := #[sl, x], argTypes := #[40, 9] }) (hty : o.type = 40) (B : Nat) (v : Value) (xs : List Value) (s : ByteArray) (hs : a.eval sl = v) (hown : FRow w B v xs) (hx : a.eval x = .string s)
    (hlen : xs.length + s.size ≤ 140737488355328) (hB : B ≤ w.heap.size) (h : ∀ v' w', FRow w' B v' (xs ++ Lib.strCells s) → Below B w w' → wpList Tryd.prog ops Q rest (a.put o.dst v') w') : wpList Tryd.prog ops Q (o :: rest) a w := by
  refine wpList_plain hgd fun K hK => ?_
  obtain ⟨v', w', hr, h2, h3⟩ := frow_append w B v xs s hown hlen hB
  rw [← hty] at hr
  unfold Oper.wp execOp
  simp only [ho, resolve, invoke, builtin, Sem.run_bind, Sem.run_pure, Result.andThen_ok, List.map_toArray, List.map_cons, List.map_nil, hs, hx]
  rw [hty] at hr ⊢
  simp only [hr, Result.andThen_ok]
  exact hK _ _ (h v' w' h2 h3)

end Go.Proofs.YtohlbnbfpcbpdaaDoor.FR

/- dot: the reference's Print: the walk. -/
namespace Go.Proofs.YtohlbnbfpcbpdaaDoor.PS
open Go.RowKit Go.Proofs.YtohlbnbfpcbpdaaDoorW.PrintWords Go.Proofs.YtohlbnbfpcbpdaaDoorW.PrintLast Go.Proofs.YtohlbnbfpcbpdaaDoorW.PrintMore
open Go.Proofs.YtohlbnbfpcbpdaaDoor.Lx Go.Proofs.YtohlbnbfpcbpdaaDoor.Dt

theorem frow_const (w : World) (l : List UInt8) (hl : l.length ≤ 1000000) : FR.FRow (w.alloc (.cells (Lib.byteCells l).toArray 5 (l.length, l.length + 1))) w.heap.size (.slice (some ⟨w.heap.size, 0, none⟩) l.length l.length) (Lib.byteCells l) := by
  refine ⟨w.heap.size, l.length, (Lib.byteCells l).toArray, (l.length, l.length + 1), by rw [Lib.byteCells_length], Nat.le_refl _, heap_alloc_new w _, by rw [Lib.byteCells_length]; exact Nat.le_refl _, by simp only [maxLen]; omega, by simp [Lib.byteCells_length], .inr (Nat.le_refl _), ?_⟩
  rw [Lib.byteCells_length]
  exact List.take_of_length_le (by rw [List.toList_toArray, Lib.byteCells_length]; exact Nat.le_refl _)
def hdCs : Array Value := #[.int .u8 100, .int .u8 105, .int .u8 103, .int .u8 114, .int .u8 97, .int .u8 112, .int .u8 104, .int .u8 32, .int .u8 104, .int .u8 105, .int .u8 115, .int .u8 116, .int .u8 111, .int .u8 114, .int .u8 121, .int .u8 32, .int .u8 123, .int .u8 10]
theorem hdCs_eq : hdCs = (Lib.byteCells hd).toArray := by kernel_rfl
set_option maxRecDepth 100000 in
set_option maxHeartbeats 4000000 in
theorem refPrint_calls (l0 : List ByteArray) (l1 : List S34) (A0 A1 : Option Addr) (c0 c1 : Nat) (w : World) (hr0 : Kd.C Kd.string w A0 l0.length l0) (hc0 : l0.length ≤ c0) (hr1 : Kd.C k34 w A1 l1.length l1) (hnm : namesOk l0 = true) (hed : edsOk l1 = true) (hw : DW w) :
    Calls Tryd.prog 10 #[.slice A0 l0.length c0, .slice A1 l1.length c1] w fun e w' => e = .returned (.tuple #[.string ⟨(printR (lists l0) (l1.map toE)).1.toArray⟩, .int .i64 (printR (lists l0) (l1.map toE)).2]) ∧ Below w.heap.size w w' := by
  have HW := Aside0.mk hw
  have HB0 := assizeref23_wrong.calls 0 A0 c0 l0 _ w hr0 hc0 (wrong_f 0 hnm)
  have HB := Aside0.mk HB0
  have HN := Aside0.mk hr0
  have HE := Aside0.mk (erow_of hr1)
  have HOK := Aside0.mk (edsOk_of hed).2
  have hll : (l1.map toE).length ≤ 1000000000000 := (edsOk_of hed).1
  have hlm : l1.length = (l1.map toE).length := (List.length_map _).symm
  rw [hlm]
  generalize l1.map toE = l at *
  clear hw HB0 hr0 hr1 hed hlm
  have hnn : (lists l0).length = l0.length := lists_len l0
  have HNN := Aside0.mk hnn
  clear hnn
  obtain ⟨L, hL⟩ : ∃ L, L = (printR (lists l0) l).1 := ⟨_, rfl⟩
  obtain ⟨C, hC⟩ : ∃ L, L = (printR (lists l0) l).2 := ⟨_, rfl⟩
  rw [← hL, ← hC]
  have HR := Aside0.mk (show (L, C) = printR (lists l0) l by rw [hL, hC])
  clear hL hC
  unfold printR at HR
  go_enter Tryd.func10, Tryd.ntmps10
  go_wp2_with fail
  refine HB.out.mono ?_
  rintro e w1 ⟨rfl, hb1⟩
  have HB1 := Aside0.mk hb1
  have hsz1 : w.heap.size ≤ w1.heap.size := hb1.size
  clear hb1
  by_cases q0 : wrongR (lists l0) = 0
  · obtain ⟨hnd, hn32⟩ := wrongR_zero q0
    have H32 := Aside0.mk hn32
    clear hn32 hnd
    rw [if_pos q0] at HR
    rw [q0]
    clear q0
    by_cases q1 : 262144 < l.length
    · rw [if_pos q1] at HR
      obtain ⟨rfl, rfl⟩ : L = [] ∧ C = 1 := by have := HR.out; simpa using this
      have hq : (262144 : Int) < (l.length : Int) := by omega
      go_wp2_with fail
      go_ret2
      exact ⟨rfl, HB1.out⟩
    · rw [if_neg q1] at HR
      have hq : ¬ (262144 : Int) < (l.length : Int) := by omega
      have hl2 : l.length ≤ 262144 := by omega
      clear q1 hll
      have hcv := Go.Lib.run_convert_bytes_const (P := Tryd.prog) w1 40 5 hdCs 18 18 Tryd.underlying40 Tryd.underlying5
      have hf0 := frow_const w1 hd (by decide)
      rw [← hdCs_eq] at hf0
      have HF0 := Aside0.mk (hf0.lower hsz1)
      have HB2 := Aside0.mk (HB1.out.alloc hsz1 (.cells hdCs 5 (18, 19)))
      clear hf0
      have hsz18 : hdCs.size = 18 := rfl
      rw [hsz18] at hcv
      unfold hdCs at hcv HF0 HB2
      clear hsz18
      go_wp2_with fail
      have hsz2 := HB2.out.size
      generalize World.alloc w1 _ = w2 at *
      clear hcv
      go_loopg [7, 8] l.length (fun kq v7 v8 w2 => ∃ (i : Nat) (acc : List UInt8), i + kq = l.length ∧ v8 = .int .i64 i ∧ Aside0 (FR.FRow w2 w.heap.size v7 (Lib.byteCells acc)) ∧ Aside0 (Below w.heap.size w w2) ∧ Aside0 (acc.length ≤ 18 + 300 * i ∧ (L, C) = match linesR (lists l0) (l.drop i) with
        | none => (([] : List UInt8), (1 : Int))
        | some o => (acc ++ o ++ tl, 0)))
      case atStart => exact ⟨0, hd, by omega, rfl, HF0, HB2, Aside0.mk ⟨by decide, HR.out⟩⟩
      case round =>
        clear HF0 HB2 HR
        obtain ⟨i, acc, hi, rfl, HF, HBl, HV⟩ := hrel
        cases gk with
        | zero =>
          have hge : ¬ ((i : Nat) : Int) < (l.length : Int) := by omega
          have HV2 := Aside0.mk (show (L, C) = (acc ++ tl, 0) by
            have := HV.out.2
            rw [List.drop_eq_nil_of_le (by omega)] at this
            simpa [linesR] using this)
          have hla : acc.length ≤ 100000000000 := by have := HV.out.1; omega
          obtain ⟨rfl, rfl⟩ : L = acc ++ tl ∧ C = 0 := by have := HV2.out; simpa using this
          have hback := FR.frow_back _ _ _ _ HF.out
          clear HV HV2
          have HC := Aside0.mk (show ByteArray.mk acc.toArray ++ ByteArray.mk #[125, 10] = ByteArray.mk (acc ++ tl).toArray from cat_B acc tl)
          go_wp2
          rw [HC.out]
          go_ret2
          exact ⟨rfl, HBl.out⟩
        | succ k1 =>
          have hlt : i < l.length := by omega
          have hltz : ((i : Nat) : Int) < (l.length : Int) := by omega
          obtain ⟨ad, rfl, hblk, r0, r1, r2, r3⟩ := HE.out.below HBl.out i hlt
          have hd1 : l.drop i = l[i] :: l.drop (i + 1) := List.drop_eq_getElem_cons hlt
          rw [hd1, linesR] at HV
          clear hd1
          have HLN := Aside0.mk (assizeref23_line.calls 300 A0 c0 l0 l[i].f l[i].t l[i].k l[i].y _ wr (Kd.C_below HN.out HBl.out) hc0 (line_pure 300 l0 H32.out l[i].f l[i].t l[i].k l[i].y (by decide)) (HW.out.below HBl.out))
          generalize l[i] = x at *
          go_wp2_with fail
          refine HLN.out.mono ?_
          rintro e w3 ⟨rfl, hb3⟩
          have HF3 := Aside0.mk (HF.out.below hb3)
          have HB3 := Aside0.mk (HBl.out.trans (hb3.mono HBl.out.size))
          clear hb3 HF HBl
          have hex : (⟨x.f, x.t, x.k, x.y⟩ : Ed) = x := rfl
          rw [hex]
          clear hex
          have hs3 := HB3.out.size
          cases hx : lineR (lists l0) x with
          | none =>
            rw [hx] at HV
            obtain ⟨rfl, rfl⟩ : L = [] ∧ C = 1 := by have := HV.out.2; simpa using this
            clear HV hx
            rw [Option.getD_none]
            unfold toB
            go_wp2_with fail
            go_ret2
            exact ⟨rfl, HB3.out⟩
          | some s =>
            obtain ⟨b, hb, hf, hs⟩ := lineR_some hx
            have hsl := lineX_len H32.out hb hf
            rw [← hs] at hsl
            have hs0 : s ≠ [] := by rw [hs]; simp
            have hse : (s == []) = false := beq_eq_false_iff_ne.2 hs0
            rw [hx] at HV
            have HV5 := Aside0.mk (show (acc ++ s).length ≤ 18 + 300 * (i + 1) ∧ (L, C) = match linesR (lists l0) (l.drop (i + 1)) with
              | none => (([] : List UInt8), (1 : Int))
              | some o => (acc ++ s ++ o ++ tl, 0) by
              refine ⟨by have := HV.out.1; rw [List.length_append]; omega, ?_⟩
              have := HV.out.2
              simp only at this
              rw [this]
              cases linesR (lists l0) (l.drop (i + 1)) with
              | none => rfl
              | some o => simp)
            have HAL := Aside0.mk HV.out.1
            clear HV hx hs hb hf hs0
            rw [Option.getD_some]
            unfold toB
            go_wp2_with (at_builtin; refine FR.wpList_frow _ rfl _ _ rfl rfl w.heap.size _ _ _ rfl HF3.out rfl ?c1 ?c2 ?c3)
            case c1 => rw [Lib.byteCells_length]; have := HAL.out; simp [ByteArray.size]; omega
            case c2 => exact hs3
            case c3 =>
              intro v' w4 hF4 hB4
              rw [strCells_list, ← Lib.byteCells_append] at hF4
              have HF4 := Aside0.mk hF4
              have HB4 := Aside0.mk (HB3.out.trans hB4)
              clear hF4 hB4 HF3 HB3
              generalize acc ++ s = acc5 at *
              go_wp2
              go_roundg k1
              case measure => omega
              case rel => exact ⟨i + 1, acc5, by omega, by go_num, HF4, HB4, HV5⟩
  · rw [if_neg q0] at HR
    have hq : (wrongR (lists l0) == 0) = false := beq_eq_false_iff_ne.2 q0
    obtain ⟨rfl, rfl⟩ : L = [] ∧ C = wrongR (lists l0) := by have := HR.out; simpa using this
    clear q0
    go_wp2_with fail
    go_ret2
    exact ⟨rfl, HB1.out⟩
def assizeref23_Print.f (_ : Nat) (l0 : List ByteArray) (l1 : List S34) : Option (ByteArray × Int) := bif namesOk l0 && edsOk l1 then some (toB (printR (lists l0) (l1.map toE)).1, (printR (lists l0) (l1.map toE)).2) else none
theorem assizeref23_Print.mono (l0 : List ByteArray) (l1 : List S34) (k : Nat) : LeO (assizeref23_Print.f k l0 l1) (assizeref23_Print.f (k + 1) l0 l1) := LeO.refl _
theorem assizeref23_Print.calls (k : Nat) (A0 : Option Addr) (c0 : Nat) (l0 : List ByteArray) (A1 : Option Addr) (c1 : Nat) (l1 : List S34) (r1 : ByteArray) (r2 : Int) (w : World) (hr0 : Kd.C Kd.string w A0 l0.length l0) (hc0 : l0.length ≤ c0) (hr1 : Kd.C k34 w A1 l1.length l1) (hc1 : l1.length ≤ c1) (h : assizeref23_Print.f k l0 l1 = some (r1, r2)) (htab : DW w) :
    Calls Tryd.prog 10 #[.slice A0 l0.length c0, .slice A1 l1.length c1] w fun e w' => e = .returned (.tuple #[.string r1, .int .i64 r2]) ∧ Below w.heap.size w w' := by
  unfold assizeref23_Print.f at h
  cases hk : namesOk l0 && edsOk l1 with
  | false => rw [hk] at h; cases h
  | true =>
    rw [hk] at h
    have h2 := Option.some.inj h
    simp only [Prod.mk.injEq] at h2
    obtain ⟨rfl, rfl⟩ := h2
    rw [Bool.and_eq_true] at hk
    exact refPrint_calls l0 l1 A0 A1 c0 c1 w hr0 hc0 hr1 hk.1 hk.2 htab
end Go.Proofs.YtohlbnbfpcbpdaaDoor.PS
