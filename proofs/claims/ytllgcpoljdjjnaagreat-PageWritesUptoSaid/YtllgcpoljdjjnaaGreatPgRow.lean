/- A row of bytes that a conversion made (its end is marked), grown by strings; and the reference's Escape and Page: the walks. -/
import Derived.Test.YtllgcpoljdjjnaaGreatPRx
import Derived.Test.YtllgcpoljdjjnaaGreatPage
import Derived.Test.YtllgcpoljdjjnaaGreatPgPlain
import Derived.Test.YtllgcpoljdjjnaaGreatPagePrn
import Derived.Lib.AppendStr
import Derived.Lib.ConvBytes
set_option linter.unusedVariables false
set_option linter.unusedSimpArgs false
namespace Go.Proofs.YtllgcpoljdjjnaaGreat.Pg
open Go.RowKit Go.Proofs.YtllgcpoljdjjnaaGreatW.PrintWords Go.Proofs.YtllgcpoljdjjnaaGreatW.PrintLast Go.Proofs.YtllgcpoljdjjnaaGreatW.PrintMore

theorem store_tail (P : Program) (g o : Nat) (t : TypeId) (fz : Nat × Nat) : ∀ (vs : List Value) (i : Nat) (cur : Array Value) (w : World), w.heap[g]? = some (.cells cur t fz) → (fz = (0, 0) ∨ o + i + vs.length ≤ fz.1) → o + i + vs.length ≤ cur.size → (∀ v ∈ vs, v.oneCell' = true) →
    (storeCells ⟨g, o, none⟩ vs i).run P w = .ok () (w.setRow g (cur.toList.take (o + i) ++ vs ++ cur.toList.drop (o + i + vs.length)).toArray)
  | [], i, cur, w, hg, _, _, _ => by
    simp only [storeCells, List.append_nil, List.length_nil, Nat.add_zero, List.take_append_drop, Array.toArray_toList]
    rw [setRow_self w g cur t fz hg]
    rfl
  | v :: rest, i, cur, w, hg, hfz, hl, h1 => by
    have hi : o + i < cur.size := by simp at hl; omega
    have hadd : (⟨g, o, none⟩ : Addr).add i = ⟨g, o + i, none⟩ := by unfold Addr.add; split <;> simp_all
    have hcell : w.cell? ⟨g, o + i, none⟩ = some cur[o + i] := by simp [World.cell?, hg, hi]
    have hfro : w.frozen? ⟨g, o + i, none⟩ = false := by
      obtain ⟨lo, hi'⟩ := fz
      simp only [World.frozen?, hg, Bool.and_eq_false_iff, decide_eq_false_iff_not]
      rcases hfz with hfz | hfz
      · right
        cases hfz
        omega
      · left
        simp only [List.length_cons] at hfz
        omega
    have hst : (store ((⟨g, o, none⟩ : Addr).add i) v).run P w = .ok () (w.setRow g (cur.setIfInBounds (o + i) v)) := by
      rw [hadd, run_store P w _ v _ (h1 v (by simp)), hcell]
      simp [hfro, setCell_eq_setRow w g (o + i) cur t fz v hg]
    have ih := store_tail P g o t fz rest (i + 1) (cur.setIfInBounds (o + i) v) (w.setRow g (cur.setIfInBounds (o + i) v)) (setRow_heap w g cur _ t _ hg) (hfz.imp id (fun h => by simp only [List.length_cons] at h; omega)) (by simp at hl ⊢; omega) (fun x hx => h1 x (by simp [hx]))
    simp only [storeCells, Sem.run_bind, hst, Result.andThen_ok, ih, setRow_setRow]
    congr 3
    have e := list_seg_step cur.toList (o + i) v rest (by simp at hl ⊢; omega)
    simpa [Array.toList_setIfInBounds, Nat.add_assoc] using e

/-- A row of bytes that may bear a mark behind its end. -/
def FRow (w : World) (B : Nat) (v : Value) (xs : List Value) : Prop :=
  ∃ g cap cur fz, v = .slice (some ⟨g, 0, none⟩) xs.length cap ∧ B ≤ g ∧ w.heap[g]? = some (.cells cur 5 fz) ∧ xs.length ≤ cap ∧ cap ≤ maxLen ∧ cur.size = cap ∧ (fz = (0, 0) ∨ cap ≤ fz.1) ∧ cur.toList.take xs.length = xs
theorem FRow.below {w w' : World} {B : Nat} {v : Value} {xs : List Value} (h : FRow w B v xs) (hb : Below w.heap.size w w') : FRow w' B v xs := by
  obtain ⟨g, cap, cur, fz, h1, h2, h3, h4⟩ := h
  exact ⟨g, cap, cur, fz, h1, h2, (hb.block g (blk_lt h3)).trans h3, h4⟩
theorem FRow.cell {w : World} {B : Nat} {g cap n : Nat} {xs : List Value} (h : FRow w B (.slice (some ⟨g, 0, none⟩) n cap) xs) : n = xs.length ∧ ∀ j u, xs[j]? = some u → w.cell? ((⟨g, 0, none⟩ : Addr).add j) = some u := by
  obtain ⟨g', cap', cur, fz, h1, h2, h3, h4, h5, h6, h7, h8⟩ := h
  injection h1 with e1 e2 e3
  have e4 : g = g' := by injection e1 with e; injection e
  subst e4
  refine ⟨e2, fun j u hu => ?_⟩
  have hadd : (⟨g, 0, none⟩ : Addr).add j = ⟨g, j, none⟩ := by unfold Addr.add; split <;> simp_all
  have hj : j < xs.length := (List.getElem?_eq_some_iff.1 hu).1
  rw [hadd, show w.cell? ⟨g, j, none⟩ = cur[j]? by simp [World.cell?, h3]]
  rw [← h8, List.getElem?_take_of_lt hj] at hu
  simpa using hu
theorem frow_append (w : World) (B : Nat) (v : Value) (xs : List Value) (s : ByteArray) (h : FRow w B v xs) (hlen : xs.length + s.size ≤ 140737488355328) (hB : B ≤ w.heap.size) :
    ∃ v' w', (Builtin.append_ #[41, 9] 41 #[v, .string s]).run Tryz.prog w = .ok v' w' ∧ FRow w' B v' (xs ++ Lib.strCells s) ∧ Below B w w' := by
  obtain ⟨i0, hi, hz0, hz1, hz2⟩ := info_parts Bld.infoByte
  obtain ⟨g, cap, cur, fz, rfl, h2, h3, h4, h5, h6, h7, h8⟩ := h
  have hl : (xs ++ Lib.strCells s).length = xs.length + s.size := by rw [List.length_append, Lib.strCells_length]
  by_cases hroom : xs.length + s.size ≤ cap
  · have hf := Lib.run_firstCells_string (P := Tryz.prog) w 1 s
    have hst := store_tail Tryz.prog g xs.length 5 fz (Lib.strCells s) 0 cur w h3 (by rw [Lib.strCells_length]; exact h7.imp id (fun h => by omega)) (by rw [Lib.strCells_length]; omega) (Lib.strCells_oneCell s)
    simp only [Nat.add_zero, Lib.strCells_length] at hst
    have hr : (Builtin.append_ #[41, 9] 41 #[.slice (some ⟨g, 0, none⟩) xs.length cap, .string s]).run Tryz.prog w = .ok (.slice (some ⟨g, 0, none⟩) (xs.length + s.size) cap) (w.setRow g (cur.toList.take xs.length ++ Lib.strCells s ++ cur.toList.drop (xs.length + s.size)).toArray) := by
      simp [Builtin.append_, run_underlying Tryz.underlying41, run_underlying Tryz.underlying9, sizeOf, typeInfo, hi, hz1, Builtin.lenOf, hroom, hf, Addr.add_lit, hst]
    refine ⟨_, _, hr, ⟨g, cap, _, fz, by rw [hl], h2, setRow_heap w g cur _ 5 _ h3, by rw [hl]; exact hroom, h5, ?_, h7, ?_⟩, pg_below_row (Below.refl B w) h2 _⟩
    · simp only [List.size_toArray, List.length_append, List.length_take, List.length_drop, Array.length_toList, Lib.strCells_length]
      omega
    · rw [h8]
      exact List.take_left' rfl
  · have holds : ∀ j u, xs[j]? = some u → w.cell? ((⟨g, 0, none⟩ : Addr).add j) = some u := (FRow.cell ⟨g, cap, cur, fz, rfl, h2, h3, h4, h5, h6, h7, h8⟩).2
    have hr := Lib.run_append_grow_string (P := Tryz.prog) w 41 9 41 5 i0 (.int .u8 0) Tryz.underlying41 Tryz.underlying9 hi hz0 ⟨g, 0, none⟩ xs.length cap xs (by rw [hz1, Nat.mul_one]) holds s (by omega) (by omega) (by rw [hz2]; exact growslice_fits (by omega) (by omega))
    have hge := grownCap_ge w (xs.length + s.size) cap 5
    have hcm : grownCap w (xs.length + s.size) cap 5 ≤ maxLen := grownCap_le_maxLen w (xs.length + s.size) cap 5 (by simp only [maxLen]; omega)
    refine ⟨_, _, hr, ⟨w.heap.size, _, _, (0, 0), by rw [hl], hB, heap_alloc_new w.drew _, by rw [hl]; exact hge, hcm, ?_, .inl rfl, ?_⟩, ((Below.refl B w).drew).alloc hB _⟩
    · have hz1' : (Value.int IntKind.u8 0).cells.size = 1 := rfl
      simp only [Array.size_append, List.size_toArray, size_zeroCells, hz1', Lib.strCells_length]
      omega
    · simp only [Array.toList_append]
      exact List.take_left' rfl
theorem frow_bytes (w : World) (s : ByteArray) (hs : s.size ≤ 140737488355328) : (convert 9 41 (.string s)).run Tryz.prog w = .ok (.slice (some ⟨w.heap.size, 0, none⟩) s.size (grownCap w s.size 0 5)) (Lib.bytesWorld w 5 s) ∧
    FRow (Lib.bytesWorld w 5 s) w.heap.size (.slice (some ⟨w.heap.size, 0, none⟩) s.size (grownCap w s.size 0 5)) (Lib.strCells s) := by
  refine ⟨Lib.run_convert_string_bytes w _ _ _ _ Tryz.underlying9 Tryz.underlying41 Tryz.underlying5, w.heap.size, grownCap w s.size 0 5, _, _, by rw [Lib.strCells_length], Nat.le_refl _, Lib.bytesWorld_at_new w 5 s, ?_, ?_, ?_, .inr ?_, ?_⟩
  · rw [Lib.strCells_length]
    exact grownCap_ge w s.size 0 5
  · exact grownCap_le_maxLen w s.size 0 5 (by simp only [maxLen]; omega)
  · have := grownCap_ge w s.size 0 5
    have e : s.data.size = s.size := rfl
    simp only [Lib.bytesCells, Array.size_append, Array.size_map, Array.size_replicate, e]
    omega
  · have := grownCap_ge w s.size 0 5
    have e : s.data.size = s.size := rfl
    simp only [Lib.bytesCells, Array.size_append, Array.size_map, Array.size_replicate, e]
    omega
  · have e : (Lib.bytesCells w 5 s).toList = Lib.strCells s ++ (Array.replicate (grownCap w s.size 0 5 - s.size) (Value.int .u8 0)).toList := by
      simp [Lib.bytesCells, Lib.strCells]
    rw [e]
    exact List.take_left' rfl
theorem frow_back (w : World) (B : Nat) (v : Value) (l : List UInt8) (h : FRow w B v (Lib.byteCells l)) : (convert 41 9 v).run Tryz.prog w = .ok (.string ⟨l.toArray⟩) w := by
  obtain ⟨g, cap, cur, fz, rfl, h'⟩ := h
  have hc := (FRow.cell ⟨g, cap, cur, fz, rfl, h'⟩).2
  rw [Lib.byteCells_length]
  exact run_convert_bytes_back _ 41 9 5 ⟨g, 0, none⟩ cap l Tryz.underlying41 Tryz.underlying5 Tryz.underlying9 (fun j hj => by
    rw [hc j (.int .u8 (l[j].toNat)) (by simp [Lib.byteCells, hj])])

theorem FRow.lower {w : World} {B B' : Nat} {v : Value} {xs : List Value} (h : FRow w B v xs) (hb : B' ≤ B) : FRow w B' v xs := by
  obtain ⟨g, cap, cur, fz, h1, h2, h3⟩ := h
  exact ⟨g, cap, cur, fz, h1, Nat.le_trans hb h2, h3⟩
theorem wpList_frow {ops : Array Oper} {rest : List Oper} {o : Oper} {a : Act} {Q : Exit → Act → World → Prop} (w : World) (hgd : o.guard = none) (sl x : Operand)
    (ho : o.op = .call { callee := .builtin .append, args := #[sl, x], argTypes := #[41, 9] }) (hty : o.type = 41) (B : Nat) (v : Value) (xs : List Value) (s : ByteArray) (hs : a.eval sl = v) (hown : FRow w B v xs) (hx : a.eval x = .string s)
    (hlen : xs.length + s.size ≤ 140737488355328) (hB : B ≤ w.heap.size) (h : ∀ v' w', FRow w' B v' (xs ++ Lib.strCells s) → Below B w w' → wpList Tryz.prog ops Q rest (a.put o.dst v') w') : wpList Tryz.prog ops Q (o :: rest) a w := by
  refine wpList_plain hgd fun K hK => ?_
  obtain ⟨v', w', hr, h2, h3⟩ := frow_append w B v xs s hown hlen hB
  rw [← hty] at hr
  unfold Oper.wp execOp
  simp only [ho, resolve, invoke, builtin, Sem.run_bind, Sem.run_pure, Result.andThen_ok, List.map_toArray, List.map_cons, List.map_nil, hs, hx]
  rw [hty] at hr ⊢
  simp only [hr, Result.andThen_ok]
  exact hK _ _ (h v' w' h2 h3)

/-! the reference's Escape -/
def numsQ (b : List UInt8) : List Int := b.map fun c => (c.toNat : Int)
theorem numsQ_str (b : List UInt8) : strOfNums (numsQ b) = ⟨b.toArray⟩ := by
  unfold strOfNums numsQ
  have e : ((fun n : Int => UInt8.ofNat n.toNat) ∘ fun c : UInt8 => (c.toNat : Int)) = id := by funext c; simp
  rw [List.map_map, e, List.map_id]
theorem esc_all : ∀ n : Nat, n < 256 → PR.assizeref24_escape.f (n : Int) = some ⟨((repOf 0 n).getD []).toArray⟩ := by decide +kernel
theorem refEsc_loop (a : ByteArray) (ha : a.size ≤ 2000000) : ∀ (n k i : Nat) (acc : List UInt8), n = a.size - i → i ≤ a.size → acc.length ≤ 6 * i → n < k → PR.assizeref24_Escape.l0 k a (numsQ acc) (i : Int) = some ⟨(acc ++ escL (a.data.toList.drop i)).toArray⟩
  | 0, k + 1, i, acc, hn, hi, _, _ => by
    have hd : a.data.toList.drop i = [] := List.drop_eq_nil_of_le (by show a.size ≤ i; omega)
    rw [PR.assizeref24_Escape.l0, if_neg (by omega), numsQ_str, hd]
    simp [escL]
  | n + 1, k + 1, i, acc, hn, hi, hacc, hk => by
    have hlt : i < a.size := by omega
    have hlt' : i < a.data.toList.length := hlt
    obtain ⟨c, hc⟩ : ∃ c, c = a.data.toList[i] := ⟨_, rfl⟩
    have hd : a.data.toList.drop i = c :: a.data.toList.drop (i + 1) := by rw [hc]; exact List.drop_eq_getElem_cons hlt'
    have hbt : bt a (i : Int) = (c.toNat : Int) := by
      unfold bt
      rw [Int.toNat_natCast, dif_pos hlt]
      have : a[i]'hlt = c := by rw [hc]; rfl
      rw [this]
    have hw : wrap64 ((i : Int) + 1) = ((i + 1 : Nat) : Int) := by unfold wrap64; omega
    have he : escL (a.data.toList.drop i) = escB c ++ escL (a.data.toList.drop (i + 1)) := by rw [hd]; rfl
    have hel := escB_len c
    have hnl : (numsQ acc).length = acc.length := by simp [numsQ]
    rw [PR.assizeref24_Escape.l0, if_pos (by omega), if_pos (by omega), hbt, esc_all _ c.toNat_lt, Option.bind_some, hw]
    cases hr : repOf 0 c.toNat with
    | none =>
      have hb : escB c = [c] := by unfold escB; rw [hr]; rfl
      have ih := refEsc_loop a ha n k (i + 1) (acc ++ [c]) (by omega) (by omega) (by rw [List.length_append]; simp only [List.length_cons, List.length_nil]; omega) (by omega)
      rw [if_pos (by rw [Lib.toList_data]; rfl), if_pos (by omega)]
      have e1 : numsQ acc ++ [(c.toNat : Int)] = numsQ (acc ++ [c]) := by simp [numsQ]
      rw [e1, ih, he, hb, List.append_assoc]
    | some v =>
      have hb : escB c = v := by unfold escB; rw [hr]; rfl
      rw [hb] at hel he
      have ih := refEsc_loop a ha n k (i + 1) (acc ++ v) (by omega) (by omega) (by rw [List.length_append]; omega) (by omega)
      have hvs : (⟨((some v).getD []).toArray⟩ : ByteArray).size = v.length := by simp [ByteArray.size]
      rw [if_neg (by
        rw [Lib.toList_data]
        intro e
        have : v = [] := e
        rw [this] at hel
        simp at hel), if_pos (by rw [hvs]; omega)]
      have e1 : numsQ acc ++ bytesOf (⟨((some v).getD []).toArray⟩ : ByteArray) = numsQ (acc ++ v) := by simp [numsQ, bytesOf]
      rw [e1, ih, he, List.append_assoc]
theorem refEsc_calls (a : ByteArray) (w : World) (ha : a.size ≤ 2000000) :
    Calls Tryz.prog 13 #[.string a] w fun e w' => e = .returned (.string ⟨(escL a.data.toList).toArray⟩) ∧ Below w.heap.size w w' := by
  refine PR.assizeref24_Escape.calls (a.size + 1) a _ w ?_
  unfold PR.assizeref24_Escape.f
  have h := refEsc_loop a ha a.size (a.size + 1) 0 [] (by omega) (by omega) (by simp) (by omega)
  rw [List.drop_zero, List.nil_append] at h
  exact h
def preL : List UInt8 := [60, 33, 68, 79, 67, 84, 89, 80, 69, 32, 104, 116, 109, 108, 62, 10, 60, 104, 116, 109, 108, 62, 60, 104, 101, 97, 100, 62, 60, 116, 105, 116, 108, 101, 62]
def midL : List UInt8 := [60, 47, 116, 105, 116, 108, 101, 62, 60, 47, 104, 101, 97, 100, 62, 60, 98, 111, 100, 121, 62, 60, 111, 108, 62]
def endL : List UInt8 := [60, 47, 111, 108, 62, 60, 47, 98, 111, 100, 121, 62, 60, 47, 104, 116, 109, 108, 62, 10]
theorem page_parts (t : List UInt8) (ls : List (List UInt8)) : pageL t ls = preL ++ escL t ++ midL ++ lisOf ls ++ endL := by
  simp only [pageL, tagged, preL, midL, endL, nHtml, nHead, nTitle, nBody, nOl, List.append_assoc]
  rfl
set_option maxRecDepth 100000 in
set_option maxHeartbeats 2000000 in
theorem refPage_calls (t : List UInt8) (ls : List (List UInt8)) (A : Option Addr) (c : Nat) (w : World) (hl : t.length ≤ 2000000) (hll : ∀ l, l ∈ ls → l.length ≤ 2000000) (hp : (pageL t ls).length ≤ 1000000000000)
    (hrow : ∀ i (hi : i < ls.length), ∃ a, A = some a ∧ a.block < w.heap.size ∧ w.cell? (a.add i) = some (.string ⟨ls[i].toArray⟩)) :
    Calls Tryz.prog 15 #[.string ⟨t.toArray⟩, .slice A ls.length c] w fun e w' => e = .returned (.string ⟨(pageL t ls).toArray⟩) ∧ Below w.heap.size w w' := by
  have HR := Aside0.mk hrow
  have HLL := Aside0.mk hll
  obtain ⟨pg, hpg⟩ : ∃ pg, pg = pageL t ls := ⟨_, rfl⟩
  rw [← hpg] at hp ⊢
  have HPG := Aside0.mk hpg
  clear hrow hll hpg
  have hle := (escL_len t).2
  have hcv := fun w => (frow_bytes w (ByteArray.mk preL.toArray ++ ByteArray.mk (escL t).toArray ++ ByteArray.mk midL.toArray) (by rw [bs_size]; have h1 : preL.length = 35 := rfl; have h2 : midL.length = 25 := rfl; omega)).1
  unfold preL midL at hcv
  go_enter Tryz.func15, Tryz.ntmps15
  go_wp2_with fail
  refine (refEsc_calls ⟨t.toArray⟩ w (by simpa [ByteArray.size] using hl)).mono ?_
  rintro e w1 ⟨rfl, h1⟩
  have H1 := Aside0.mk h1
  clear h1
  go_wp2_with fail
  have hf0 := (frow_bytes w1 (ByteArray.mk preL.toArray ++ ByteArray.mk (escL t).toArray ++ ByteArray.mk midL.toArray) (by rw [bs_size]; have h1 : preL.length = 35 := rfl; have h2 : midL.length = 25 := rfl; omega)).2
  rw [bs_cells, bs_size, show preL.length = 35 from rfl, show midL.length = 25 from rfl] at hf0
  have HF0 := Aside0.mk (hf0.lower H1.out.size)
  have HB0 := Aside0.mk (H1.out.trans ((below_bytes w1 5 (ByteArray.mk preL.toArray ++ ByteArray.mk (escL t).toArray ++ ByteArray.mk midL.toArray)).mono H1.out.size))
  clear hf0 hcv
  unfold preL midL at HB0
  have HPL := Aside0.mk (page_parts t ls)
  go_loopg [5, 6] ls.length (fun kq v5 v6 w2 => ∃ (k : Nat), k + kq = ls.length ∧ v6 = .int .i64 k ∧ Aside0 (FRow w2 w.heap.size v5 (Lib.byteCells (preL ++ escL t ++ midL ++ lisOf (ls.take k)))) ∧ Aside0 (Below w.heap.size w w2))
  case atStart => exact ⟨0, by simp, rfl, Aside0.mk (by rw [List.take_zero, show lisOf [] = [] from rfl, List.append_nil]; exact HF0.out), HB0⟩
  case round =>
    clear HF0 HB0
    obtain ⟨k, hk, rfl, HF, HB⟩ := hrel
    have hlt0 := lis_le ls k
    have hlg := lis_ge ls
    have hpl := congrArg List.length HPL.out
    rw [← HPG.out] at hpl
    simp only [List.length_append] at hpl
    rw [show preL.length = 35 from rfl, show midL.length = 25 from rfl, show endL.length = 20 from rfl] at hpl
    cases gk with
    | zero =>
      have hkl : k = ls.length := by omega
      subst hkl
      have hge : ¬ ((ls.length : Int) < (ls.length : Int)) := by omega
      have hback := frow_back _ _ _ _ HF.out
      rw [List.take_of_length_le (Nat.le_refl _)] at hback
      obtain ⟨bd, hbd⟩ : ∃ bd, bd = preL ++ escL t ++ midL ++ lisOf ls := ⟨_, rfl⟩
      have hbl : bd.length = 35 + (escL t).length + 25 + (lisOf ls).length := by rw [hbd]; simp only [List.length_append]; rfl
      have HBD := Aside0.mk hbd
      rw [← hbd] at hback
      clear hbd
      go_wp2
      go_ret
      refine ⟨?_, HB.out⟩
      rw [HPG.out, HPL.out, ← HBD.out]
      show Ending.returned (Value.string _) = _
      congr 2
    | succ kq1 =>
      have hlt : (k : Int) < (ls.length : Int) := by omega
      have hltn : k < ls.length := by omega
      have hsr := HB.out.size
      obtain ⟨a, rfl, hab, hca0⟩ := HR.out k hltn
      obtain ⟨x, hxe⟩ : ∃ x, x = ls[k] := ⟨_, rfl⟩
      have hx : x.length ≤ 2000000 := by rw [hxe]; exact HLL.out _ (List.getElem_mem _)
      have hblk : (a.add k).block = a.block := by unfold Addr.add; split <;> rfl
      have hca : wr.cell? (a.add k) = some (.string ⟨x.toArray⟩) := by
        rw [HB.out.cell (by rw [hblk]; exact hab), hca0, hxe]
      have hstep := lis_step ls k hltn
      rw [← hxe] at hstep
      have hlt1 := lis_le ls (k + 1)
      rw [hstep, List.length_append, tagged_len] at hlt1
      have hxl := (escL_len x).2
      have HST := Aside0.mk hstep
      clear hca0 hstep hxe
      go_wp2_with fail
      refine (refEsc_calls ⟨x.toArray⟩ wr (by simpa [ByteArray.size] using hx)).mono ?_
      rintro e w3 ⟨rfl, h3⟩
      have HF3 := Aside0.mk (HF.out.below h3)
      have HB3 := Aside0.mk (HB.out.trans (h3.mono hsr))
      have hs3 := h3.size
      clear h3 HF HB
      go_wp2_with (at_builtin; refine wpList_frow _ rfl _ _ rfl rfl w.heap.size _ _ _ rfl HF3.out rfl ?c1 ?c2 ?c3)
      case c1 =>
        show (Lib.byteCells (preL ++ escL t ++ midL ++ lisOf (ls.take k))).length + (ByteArray.mk [60, 108, 105, 62].toArray ++ ByteArray.mk (escL x).toArray ++ ByteArray.mk [60, 47, 108, 105, 62].toArray).size ≤ _
        rw [bs_size, Lib.byteCells_length]
        simp only [List.length_append, List.length_cons, List.length_nil]
        rw [show preL.length = 35 from rfl, show midL.length = 25 from rfl]
        omega
      case c2 => omega
      case c3 =>
        intro v' w4 hF4 hB4
        have HF4 := Aside0.mk hF4
        have HB4 := Aside0.mk (HB3.out.trans hB4)
        clear hF4 hB4
        go_wp2
        go_roundg kq1
        case measure => omega
        case rel =>
          have e : Lib.strCells (ByteArray.mk [60, 108, 105, 62].toArray ++ ByteArray.mk (escL x).toArray ++ ByteArray.mk [60, 47, 108, 105, 62].toArray) = Lib.byteCells (tagged nLi (escL x)) := bs_cells _ _ _
          exact ⟨k + 1, by omega, by go_num, Aside0.mk (by rw [HST.out]; have h := HF4.out; rw [e, ← Lib.byteCells_append] at h; simpa only [List.append_assoc] using h), HB4⟩
end Go.Proofs.YtllgcpoljdjjnaaGreat.Pg
