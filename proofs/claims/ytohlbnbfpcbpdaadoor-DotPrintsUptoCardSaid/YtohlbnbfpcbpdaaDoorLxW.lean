/- A builder in a box: WriteString, WriteByte, String, with the row's base apart from the box's place: the walks. -/
import Derived.Test.YtohlbnbfpcbpdaaDoorLxU
import Derived.Test.YtohlbnbfpcbpdaaDoorBld
set_option linter.unusedVariables false
set_option linter.unusedSimpArgs false
namespace Go.Proofs.YtohlbnbfpcbpdaaDoor.Lx
open Go.RowKit Go.Proofs.YtohlbnbfpcbpdaaDoorW.PrintWords Go.Proofs.YtohlbnbfpcbpdaaDoorW.PrintLast Go.Proofs.YtohlbnbfpcbpdaaDoorW.PrintMore

theorem cell_new1 (W : World) (x : Value) (t : TypeId) (n : Nat) (hn : n = W.heap.size) : ∀ j u, [x][j]? = some u → (W.alloc (.cells #[x] t)).cell? ((⟨n, 0, none⟩ : Addr).add j) = some u := by
  subst hn
  exact cell_one_new W x t
/-- The builder in block b holds bs; its row lies in v, at Br or behind. -/
structure BAt (Br b : Nat) (v : Value) (bs : List Value) (w : World) : Prop where
  blk : w.heap[b]? = some (.cells #[.pointer none, v] 42 (0, 0)) ∨ w.heap[b]? = some (.cells #[.pointer (some ⟨b, 0, none⟩), v] 42 (0, 0))
  row : w.ownsRow Br 5 1 v bs.length bs
  lt : b < Br
theorem BAt.blt {Br b : Nat} {v : Value} {bs : List Value} {w : World} (h : BAt Br b v bs w) : b < w.heap.size := by
  rcases h.blk with h | h <;> exact blk_lt h
theorem BAt.ne {Br b : Nat} {v : Value} {bs : List Value} {w : World} (h : BAt Br b v bs w) : v.ownBlock ≠ some b := fun e => by
  have := own_base h.row b e
  have := h.lt
  omega
theorem BAt.is {Br b : Nat} {v : Value} {bs : List Value} {w : World} (h : BAt Br b v bs w) : Lib.IsBuilder 42 5 b b bs w := by
  have hr := own_weaken h.row (Nat.le_of_lt h.lt)
  rcases h.blk with hb | hb
  · exact .inl ⟨Nat.le_refl _, v, hb, hr, h.ne⟩
  · exact .inr ⟨Nat.le_refl _, v, hb, hr, h.ne⟩
theorem BAt.move {Br b : Nat} {v : Value} {bs : List Value} {w w' : World} (h : BAt Br b v bs w) (hm : ∀ k, k < w.heap.size → (k = b ∨ v.ownBlock = some k) → w'.heap[k]? = w.heap[k]?) : BAt Br b v bs w' := by
  refine ⟨?_, own_move h.row fun k hk => hm k (own_lt h.row k hk) (.inr hk), h.lt⟩
  have e := hm b h.blt (.inl rfl)
  rcases h.blk with hb | hb
  · exact .inl (e.trans hb)
  · exact .inr (e.trans hb)
/-- What a write leaves: all blocks but the box and the row. -/
def Kept (b : Nat) (v : Value) (w w' : World) : Prop := Below b w w' ∧ ∀ k, k < w.heap.size → k ≠ b → v.ownBlock ≠ some k → w'.heap[k]? = w.heap[k]?

theorem check_calls (Br b : Nat) (v : Value) (bs : List Value) (w : World) (h : BAt Br b v bs w) :
    Calls Tryd.prog 31 #[.pointer (some ⟨b, 0, none⟩)] w fun e w' => e = .returned (.tuple #[]) ∧ w'.heap[b]? = some (.cells #[.pointer (some ⟨b, 0, none⟩), v] 42 (0, 0)) ∧ w'.ownsRow Br 5 1 v bs.length bs ∧ Kept b v w w' ∧ w'.heap.size = w.heap.size := by
  rcases h.blk with hb | hb
  · have hr := own_weaken h.row (Nat.le_of_lt h.lt)
    have hh : Lib.BuilderAt 42 5 b b (.pointer none) bs w := ⟨Nat.le_refl _, v, hb, hr, h.ne⟩
    refine (Bld.copyCheck_fresh b w hh.cell0 hh.shape hh.frozen0).mono ?_
    rintro e w' ⟨rfl, rfl⟩
    refine ⟨rfl, blk_put hb 0 _ rfl, own_move h.row fun k hk => Below.heap_setCell _ _ _ _ (fun e => h.ne (by rw [hk, e])), ⟨(Below.refl b w).setCell (p := ⟨b, 0, none⟩) (Nat.le_refl _) _, fun k _ hk _ => Below.heap_setCell _ _ _ _ hk⟩, by simp [World.setCell]⟩
  · refine (Bld.copyCheck_used b w (by rw [Lib.cell_of_heap hb]; rfl)).mono ?_
    rintro e w' ⟨rfl, rfl⟩
    exact ⟨rfl, hb, h.row, ⟨Below.refl _ _, fun _ _ _ _ => rfl⟩, rfl⟩

set_option maxHeartbeats 1000000 in
set_option maxRecDepth 100000 in
theorem Write_calls (Br b : Nat) (v : Value) (bs : List Value) (s : ByteArray) (w : World) (h : BAt Br b v bs w) (hlen : bs.length + s.size ≤ 140737488355328) (hBr : Br ≤ w.heap.size) :
    Calls Tryd.prog 16 #[.pointer (some ⟨b, 0, none⟩), .string s] w fun e w' => e = .returned (.tuple #[.int .i64 s.size, .nilIface]) ∧ ∃ v', BAt Br b v' (bs ++ Lib.strCells s) w' ∧ Kept b v w w' := by
  obtain ⟨i0, hi, hz0, hz1, hz2⟩ := info_parts Bld.infoByte
  have H := Aside0.mk h
  go_enter Tryd.func16, Tryd.ntmps16
  go_wp2_with fail
  refine (check_calls Br b v bs _ h).mono ?_
  rintro e w1 ⟨rfl, hbk, hown, hkept, hsz1⟩
  clear h
  have c1 : w1.cell? ⟨b, 1, none⟩ = some v := by rw [Lib.cell_of_heap hbk]; rfl
  have HK := Aside0.mk hkept
  clear hkept
  go_wp2_with (at_builtin; refine Lib.wpList_append_own_string _ rfl _ _ 40 9 rfl Br 5 i0 Tryd.underlying40 Tryd.underlying9 hi hz0 hz1 hz2 _ _ _ rfl hown s rfl ?c3 ?c4 ?c5 ?_)
  case c3 => unfold maxLen; omega
  case c4 => omega
  case c5 => omega
  intro v' w2 hown' hgrow _
  have hb2 := blk_grown hbk hgrow (fun e => H.out.ne e.symm)
  have d1 : w2.cell? ⟨b, 1, none⟩ = some v := by rw [Lib.cell_of_heap hb2]; rfl
  have f1 : w2.frozen? ⟨b, 1, none⟩ = false := Lib.frozen_of_heap hb2 1
  obtain ⟨ao, n', cap, rfl⟩ : ∃ ao n' cap, v' = .slice ao n' cap := by
    rcases hown'.2 with ⟨hv, _⟩ | ⟨g, cap, cur, hv, _⟩
    · exact ⟨_, _, _, hv⟩
    · exact ⟨_, _, _, hv⟩
  have HG := Aside0.mk hgrow
  have HO := Aside0.mk hown'
  have HB2 := Aside0.mk hb2
  clear hgrow hown' hb2 hown hbk
  go_wp2
  go_ret2
  refine ⟨rfl, _, ⟨.inr (blk_put HB2.out 1 _ rfl), ?_, H.out.lt⟩, ?_, ?_⟩
  · have hr := HO.out
    rw [show bs.length + s.size = (bs ++ Lib.strCells s).length by simp [Lib.strCells_length]] at hr
    exact own_move hr fun k hk => Below.heap_setCell _ _ _ _ (fun (e : k = b) => by have := own_base hr k hk; have := H.out.lt; omega)
  · exact (HK.out.1.grown HG.out (by have := H.out.blt; omega) (fun k hk => by have := own_base H.out.row k hk; have := H.out.lt; omega)).setCell (p := ⟨b, 1, none⟩) (Nat.le_refl _) _
  · intro k hk hkb hkv
    rw [Below.heap_setCell _ _ _ _ hkb, HG.out.block k (by omega) (fun e => hkv e.symm)]
    exact HK.out.2 k hk hkb hkv

set_option maxHeartbeats 1000000 in
set_option maxRecDepth 100000 in
theorem WriteByte_calls (Br b : Nat) (v : Value) (bs : List Value) (c : UInt8) (w : World) (h : BAt Br b v bs w) (hlen : bs.length + 1 ≤ 140737488355328) (hBr : Br ≤ w.heap.size) :
    Calls Tryd.prog 33 #[.pointer (some ⟨b, 0, none⟩), .int .u8 c.toNat] w fun e w' => e = .returned .nilIface ∧ ∃ v', BAt Br b v' (bs ++ [.int .u8 c.toNat]) w' ∧ Kept b v w w' := by
  obtain ⟨i0, hi, hz0, hz1, hz2⟩ := info_parts Bld.infoByte
  have H := Aside0.mk h
  go_enter Tryd.func33, Tryd.ntmps33
  go_wp2_with fail
  refine (check_calls Br b v bs _ h).mono ?_
  rintro e w1 ⟨rfl, hbk, hown, hkept, hsz1⟩
  clear h
  have c1 : w1.cell? ⟨b, 1, none⟩ = some v := by rw [Lib.cell_of_heap hbk]; rfl
  have HK := Aside0.mk hkept
  have hbl := blk_lt hbk
  clear hkept
  obtain ⟨Av, cav, rfl⟩ := own_slice hown
  go_wp2_with (at_builtin; refine wpList_append_own _ rfl _ _ 40 rfl Br 5 i0 (.int .u8 0) 1 1 Tryd.underlying40 hi hz0 hz1 hz2 rfl (by decide) _ bs.length bs rfl (hown.alloc _) ⟨_, 0, none⟩ 1 1 [.int .u8 c.toNat] rfl rfl (cell_new1 _ _ _ _ hsz1.symm) (by simp [Value.oneCell']) (by simp only [maxLen]; omega) (by omega) (by simp; omega) ?_)
  intro v' w2 hown' hgrow _
  have hba : (w1.alloc (.cells #[.int .u8 c.toNat] 5)).heap[b]? = some (.cells #[.pointer (some ⟨b, 0, none⟩), .slice Av bs.length cav] 42 (0, 0)) := (Below.heap_alloc _ _ _ hbl).trans hbk
  have hb2 := blk_grown hba hgrow (fun e => H.out.ne e.symm)
  have d1 : w2.cell? ⟨b, 1, none⟩ = some (.slice Av bs.length cav) := by rw [Lib.cell_of_heap hb2]; rfl
  have f1 : w2.frozen? ⟨b, 1, none⟩ = false := Lib.frozen_of_heap hb2 1
  obtain ⟨A', c', rfl⟩ := own_slice hown'
  have HG := Aside0.mk hgrow
  have HO := Aside0.mk hown'
  have HB2 := Aside0.mk hb2
  clear hgrow hown' hb2 hown hbk hba
  go_wp2
  go_ret
  have hsa : (w1.alloc (.cells #[.int .u8 c.toNat] 5)).heap.size = w1.heap.size + 1 := by simp
  refine ⟨rfl, _, ⟨.inr (blk_put HB2.out 1 _ rfl), ?_, H.out.lt⟩, ?_, ?_⟩
  · have hr := HO.out
    have hn : (bs ++ [Value.int .u8 c.toNat]).length = bs.length + 1 := by simp
    rw [hn]
    exact own_move hr fun k hk => Below.heap_setCell _ _ _ _ (fun (e : k = b) => by have := own_base hr k hk; have := H.out.lt; omega)
  · exact ((HK.out.1.alloc (by have := H.out.blt; omega) _).grown HG.out (by rw [hsa]; have := H.out.blt; omega) (fun k hk => by have := own_base H.out.row k hk; have := H.out.lt; omega)).setCell (p := ⟨b, 1, none⟩) (Nat.le_refl _) _
  · intro k hk hkb hkv
    rw [Below.heap_setCell _ _ _ _ hkb, HG.out.block k (by rw [hsa]; omega) (fun e => hkv e.symm), Below.heap_alloc _ _ _ (by omega)]
    exact HK.out.2 k hk hkb hkv
end Go.Proofs.YtohlbnbfpcbpdaaDoor.Lx
/- unicode/utf8.AppendRune below 65536, (*strings.Builder).WriteRune: the walks. -/
namespace Go.Proofs.YtohlbnbfpcbpdaaDoor.Lx
open Go.RowKit Go.Proofs.YtohlbnbfpcbpdaaDoorW.PrintWords Go.Proofs.YtohlbnbfpcbpdaaDoorW.PrintLast Go.Proofs.YtohlbnbfpcbpdaaDoorW.PrintMore

theorem cell_new2 (W : World) (x y : Value) (t : TypeId) (n : Nat) (hn : n = W.heap.size) : ∀ j u, [x, y][j]? = some u → (W.alloc (.cells #[x, y] t)).cell? ((⟨n, 0, none⟩ : Addr).add j) = some u := by
  subst hn
  intro j u h
  have e : (⟨W.heap.size, 0, none⟩ : Addr).add j = ⟨W.heap.size, j, none⟩ := by unfold Addr.add; split <;> simp_all
  rw [e, blk_cell (blk_new W _), ← h]
  simp
set_option maxRecDepth 100000 in
set_option maxHeartbeats 2000000 in
theorem rune1 (Br : Nat) (v : Value) (xs : List Value) (n : Nat) (w : World) (hown : w.ownsRow Br 5 1 v xs.length xs) (hn : n < 128) (hlen : xs.length + 4 ≤ 140737488355328) (hB : Br ≤ w.heap.size) :
    Calls Tryd.prog 97 #[v, .int .i32 n] w fun e w' => ∃ v', e = .returned v' ∧ w'.ownsRow Br 5 1 v' (xs ++ [Value.int .u8 n]).length (xs ++ [Value.int .u8 n]) ∧ Below Br w w' ∧ w.grownBy w' v.ownBlock := by
  have HO := Aside0.mk hown
  obtain ⟨Av, cav, rfl⟩ := own_slice hown
  obtain ⟨i0, hi, hz0, hz1, hz2⟩ := info_parts Bld.infoByte
  have hnz : (n : Int) < 128 := by omega
  clear hown
  go_enter Tryd.func97, Tryd.ntmps97
  go_wp2_with (at_builtin; refine wpList_append_own _ rfl _ _ 40 rfl Br 5 i0 (.int .u8 0) 1 1 Tryd.underlying40 hi hz0 hz1 hz2 rfl (by decide) _ xs.length xs rfl (HO.out.alloc _) ⟨_, 0, none⟩ 1 1 [.int .u8 n] rfl rfl (cell_new1 _ _ _ _ (by simp)) (by simp [Value.oneCell']) (by simp only [maxLen]; omega) (by omega) (by simp; omega) ?_)
  intro v' w2 hown' hg' _
  have HO2 := Aside0.mk hown'
  have HG := Aside0.mk hg'
  clear hown' hg'
  go_wp2
  go_ret
  have hs : (w.alloc (.cells #[.int .u8 n] 5)).heap.size = w.heap.size + 1 := by simp
  refine ⟨v', rfl, by simpa using HO2.out, ((Below.refl Br w).alloc hB _).grown HG.out (by rw [hs]; omega) (fun k hk => own_base HO.out k hk), ?_⟩
  exact (World.grownBy_alloc w _ _).trans HG.out
theorem cell_new3 (W : World) (x y z : Value) (t : TypeId) (n : Nat) (hn : n = W.heap.size) : ∀ j u, [x, y, z][j]? = some u → (W.alloc (.cells #[x, y, z] t)).cell? ((⟨n, 0, none⟩ : Addr).add j) = some u := by
  subst hn
  intro j u h
  have e : (⟨W.heap.size, 0, none⟩ : Addr).add j = ⟨W.heap.size, j, none⟩ := by unfold Addr.add; split <;> simp_all
  rw [e, blk_cell (blk_new W _), ← h]
  simp
set_option maxRecDepth 1000000 in
set_option maxHeartbeats 4000000 in
theorem rune2 (Br : Nat) (v : Value) (xs : List Value) (n : Nat) (w : World) (hown : w.ownsRow Br 5 1 v xs.length xs) (h1 : 128 ≤ n) (hn : n < 2048) (hlen : xs.length + 4 ≤ 140737488355328) (hB : Br ≤ w.heap.size) :
    Calls Tryd.prog 102 #[v, .int .i32 n] w fun e w' => ∃ v', e = .returned v' ∧ w'.ownsRow Br 5 1 v' (xs ++ [Value.int .u8 (192 + (n : Int) / 64), Value.int .u8 (128 + (n : Int) % 64)]).length (xs ++ [Value.int .u8 (192 + (n : Int) / 64), Value.int .u8 (128 + (n : Int) % 64)]) ∧ Below Br w w' ∧ w.grownBy w' v.ownBlock := by
  have HO := Aside0.mk hown
  obtain ⟨Av, cav, rfl⟩ := own_slice hown
  have hnz : (128 : Int) ≤ n := by omega
  have hnz2 : (n : Int) ≤ 2047 := by omega
  clear h1 hn
  clear hown
  obtain ⟨i0, hi, hz0, hz1, hz2⟩ := info_parts Bld.infoByte
  go_enter Tryd.func102, Tryd.ntmps102
  go_wp2_with (at_builtin; refine wpList_append_own _ rfl _ _ 40 rfl Br 5 i0 (.int .u8 0) 1 1 Tryd.underlying40 hi hz0 hz1 hz2 rfl (by decide) _ xs.length xs rfl (HO.out.alloc _) ⟨_, 0, none⟩ 2 2 [Value.int .u8 _, Value.int .u8 _] rfl rfl (cell_new2 _ _ _ _ _ (by simp)) (by simp [Value.oneCell']) (by simp only [maxLen]; omega) (by omega) (by simp; omega) ?_)
  intro v' w2 hown' hg' _
  have HO2 := Aside0.mk hown'
  have HG := Aside0.mk hg'
  clear hown' hg'
  go_wp2
  go_ret
  exact ⟨v', rfl, by simpa using HO2.out, ((Below.refl Br w).alloc hB _).grown HG.out (by simp; omega) (fun k hk => own_base HO.out k hk), (World.grownBy_alloc w _ _).trans HG.out⟩
set_option maxRecDepth 1000000 in
set_option maxHeartbeats 4000000 in
theorem rune3a (Br : Nat) (v : Value) (xs : List Value) (n : Nat) (w : World) (hown : w.ownsRow Br 5 1 v xs.length xs) (h1 : 2048 ≤ n) (hn : n < 55296) (hlen : xs.length + 4 ≤ 140737488355328) (hB : Br ≤ w.heap.size) :
    Calls Tryd.prog 102 #[v, .int .i32 n] w fun e w' => ∃ v', e = .returned v' ∧ w'.ownsRow Br 5 1 v' (xs ++ [Value.int .u8 (224 + (n : Int) / 4096), Value.int .u8 (128 + (n : Int) / 64 % 64), Value.int .u8 (128 + (n : Int) % 64)]).length (xs ++ [Value.int .u8 (224 + (n : Int) / 4096), Value.int .u8 (128 + (n : Int) / 64 % 64), Value.int .u8 (128 + (n : Int) % 64)]) ∧ Below Br w w' ∧ w.grownBy w' v.ownBlock := by
  have HO := Aside0.mk hown
  obtain ⟨Av, cav, rfl⟩ := own_slice hown
  have hnz : ¬ (n : Int) ≤ 2047 := by omega
  have hnz2 : (n : Int) < 55296 := by omega
  clear h1 hn
  clear hown
  obtain ⟨i0, hi, hz0, hz1, hz2⟩ := info_parts Bld.infoByte
  go_enter Tryd.func102, Tryd.ntmps102
  go_wp2_with (at_builtin; refine wpList_append_own _ rfl _ _ 40 rfl Br 5 i0 (.int .u8 0) 1 1 Tryd.underlying40 hi hz0 hz1 hz2 rfl (by decide) _ xs.length xs rfl (HO.out.alloc _) ⟨_, 0, none⟩ 3 3 [Value.int .u8 _, Value.int .u8 _, Value.int .u8 _] rfl rfl (cell_new3 _ _ _ _ _ _ (by simp)) (by simp [Value.oneCell']) (by simp only [maxLen]; omega) (by omega) (by simp; omega) ?_)
  intro v' w2 hown' hg' _
  have HO2 := Aside0.mk hown'
  have HG := Aside0.mk hg'
  clear hown' hg'
  go_wp2
  go_ret
  exact ⟨v', rfl, by simpa using HO2.out, ((Below.refl Br w).alloc hB _).grown HG.out (by simp; omega) (fun k hk => own_base HO.out k hk), (World.grownBy_alloc w _ _).trans HG.out⟩
set_option maxRecDepth 1000000 in
set_option maxHeartbeats 4000000 in
theorem rune3b (Br : Nat) (v : Value) (xs : List Value) (n : Nat) (w : World) (hown : w.ownsRow Br 5 1 v xs.length xs) (h1 : 57343 < n) (hn : n < 65536) (hlen : xs.length + 4 ≤ 140737488355328) (hB : Br ≤ w.heap.size) :
    Calls Tryd.prog 102 #[v, .int .i32 n] w fun e w' => ∃ v', e = .returned v' ∧ w'.ownsRow Br 5 1 v' (xs ++ [Value.int .u8 (224 + (n : Int) / 4096), Value.int .u8 (128 + (n : Int) / 64 % 64), Value.int .u8 (128 + (n : Int) % 64)]).length (xs ++ [Value.int .u8 (224 + (n : Int) / 4096), Value.int .u8 (128 + (n : Int) / 64 % 64), Value.int .u8 (128 + (n : Int) % 64)]) ∧ Below Br w w' ∧ w.grownBy w' v.ownBlock := by
  have HO := Aside0.mk hown
  obtain ⟨Av, cav, rfl⟩ := own_slice hown
  have hnz : ¬ (n : Int) ≤ 2047 := by omega
  have hnz1 : ¬ (n : Int) < 55296 := by omega
  have hnz3 : (57343 : Int) < n := by omega
  have hnz2 : (n : Int) ≤ 65535 := by omega
  clear h1 hn
  clear hown
  obtain ⟨i0, hi, hz0, hz1, hz2⟩ := info_parts Bld.infoByte
  go_enter Tryd.func102, Tryd.ntmps102
  go_wp2_with (at_builtin; refine wpList_append_own _ rfl _ _ 40 rfl Br 5 i0 (.int .u8 0) 1 1 Tryd.underlying40 hi hz0 hz1 hz2 rfl (by decide) _ xs.length xs rfl (HO.out.alloc _) ⟨_, 0, none⟩ 3 3 [Value.int .u8 _, Value.int .u8 _, Value.int .u8 _] rfl rfl (cell_new3 _ _ _ _ _ _ (by simp)) (by simp [Value.oneCell']) (by simp only [maxLen]; omega) (by omega) (by simp; omega) ?_)
  intro v' w2 hown' hg' _
  have HO2 := Aside0.mk hown'
  have HG := Aside0.mk hg'
  clear hown' hg'
  go_wp2
  go_ret
  exact ⟨v', rfl, by simpa using HO2.out, ((Below.refl Br w).alloc hB _).grown HG.out (by simp; omega) (fun k hk => own_base HO.out k hk), (World.grownBy_alloc w _ _).trans HG.out⟩
end Go.Proofs.YtohlbnbfpcbpdaaDoor.Lx
/- unicode/utf8.AppendRune and (*strings.Builder).WriteRune below 65536: the walks. -/
namespace Go.Proofs.YtohlbnbfpcbpdaaDoor.Lx
open Go.RowKit Go.Proofs.YtohlbnbfpcbpdaaDoorW.PrintWords Go.Proofs.YtohlbnbfpcbpdaaDoorW.PrintLast Go.Proofs.YtohlbnbfpcbpdaaDoorW.PrintMore

theorem ofNat_val (n : Nat) (h : n < 256) (m : Int) (e : m = n) : Value.int .u8 m = Value.int .u8 (UInt8.ofNat n).toNat := by
  subst e
  rw [UInt8.toNat_ofNat']
  congr 1
  omega
theorem rune1_cells (n : Nat) (h : n < 128) : Lib.byteCells (runeB n) = [Value.int .u8 n] := by
  unfold runeB Lib.byteCells
  rw [if_pos h]
  simp only [List.map_cons, List.map_nil]
  rw [← ofNat_val n (by omega) n rfl]
theorem rune2_cells (n : Nat) (h1 : 128 ≤ n) (h : n < 2048) : Lib.byteCells (runeB n) = [Value.int .u8 (192 + (n : Int) / 64), Value.int .u8 (128 + (n : Int) % 64)] := by
  unfold runeB Lib.byteCells
  rw [if_neg (by omega), if_pos h]
  simp only [List.map_cons, List.map_nil]
  rw [← ofNat_val (192 + n / 64) (by omega) (192 + (n : Int) / 64) (by omega), ← ofNat_val (128 + n % 64) (by omega) (128 + (n : Int) % 64) (by omega)]
theorem rune3_cells (n : Nat) (h1 : 2048 ≤ n) (h : n < 65536) : Lib.byteCells (runeB n) = [Value.int .u8 (224 + (n : Int) / 4096), Value.int .u8 (128 + (n : Int) / 64 % 64), Value.int .u8 (128 + (n : Int) % 64)] := by
  unfold runeB Lib.byteCells
  rw [if_neg (by omega), if_neg (by omega)]
  simp only [List.map_cons, List.map_nil]
  rw [← ofNat_val (224 + n / 4096) (by omega) (224 + (n : Int) / 4096) (by omega), ← ofNat_val (128 + n / 64 % 64) (by omega) (128 + (n : Int) / 64 % 64) (by omega), ← ofNat_val (128 + n % 64) (by omega) (128 + (n : Int) % 64) (by omega)]
theorem runeN (Br : Nat) (v : Value) (xs : List Value) (n : Nat) (w : World) (hown : w.ownsRow Br 5 1 v xs.length xs) (h1 : 128 ≤ n) (hn : n < 65536) (hs : ¬ (55296 ≤ n ∧ n ≤ 57343)) (hlen : xs.length + 4 ≤ 140737488355328) (hB : Br ≤ w.heap.size) :
    Calls Tryd.prog 102 #[v, .int .i32 n] w fun e w' => ∃ v', e = .returned v' ∧ w'.ownsRow Br 5 1 v' (xs ++ Lib.byteCells (runeB n)).length (xs ++ Lib.byteCells (runeB n)) ∧ Below Br w w' ∧ w.grownBy w' v.ownBlock := by
  by_cases h2 : n < 2048
  · rw [rune2_cells n h1 h2]
    exact rune2 Br v xs n w hown h1 h2 hlen hB
  · rw [rune3_cells n (by omega) hn]
    by_cases h3 : n < 55296
    · exact rune3a Br v xs n w hown (by omega) h3 hlen hB
    · exact rune3b Br v xs n w hown (by omega) hn hlen hB
set_option maxRecDepth 100000 in
set_option maxHeartbeats 2000000 in
theorem AppendRune_calls (Br : Nat) (v : Value) (xs : List Value) (n : Nat) (w : World) (hown : w.ownsRow Br 5 1 v xs.length xs) (hn : n < 65536) (hs : ¬ (55296 ≤ n ∧ n ≤ 57343)) (hlen : xs.length + 4 ≤ 140737488355328) (hB : Br ≤ w.heap.size) :
    Calls Tryd.prog 97 #[v, .int .i32 n] w fun e w' => ∃ v', e = .returned v' ∧ w'.ownsRow Br 5 1 v' (xs ++ Lib.byteCells (runeB n)).length (xs ++ Lib.byteCells (runeB n)) ∧ Below Br w w' ∧ w.grownBy w' v.ownBlock := by
  by_cases h1 : n < 128
  · rw [rune1_cells n h1]
    exact rune1 Br v xs n w hown h1 hlen hB
  · have HC := Aside0.mk (runeN Br v xs n w hown (by omega) hn hs hlen hB)
    have hnz : ¬ (n : Int) < 128 := by omega
    clear hown hs
    go_enter Tryd.func97, Tryd.ntmps97
    go_wp2_with fail
    refine HC.out.mono ?_
    rintro e w1 ⟨v', rfl, h⟩
    have HH := Aside0.mk h
    clear h
    go_wp2
    go_ret
    exact ⟨v', rfl, HH.out⟩
set_option maxHeartbeats 1000000 in
set_option maxRecDepth 100000 in
theorem WriteRune_calls (Br b : Nat) (v : Value) (bs : List Value) (n : Nat) (w : World) (h : BAt Br b v bs w) (hn : n < 65536) (hs : ¬ (55296 ≤ n ∧ n ≤ 57343)) (hlen : bs.length + 4 ≤ 140737488355328) (hBr : Br ≤ w.heap.size) :
    Calls Tryd.prog 93 #[.pointer (some ⟨b, 0, none⟩), .int .i32 n] w fun e w' => (∃ k, e = .returned (.tuple #[.int .i64 k, .nilIface])) ∧ ∃ v', BAt Br b v' (bs ++ Lib.byteCells (runeB n)) w' ∧ Kept b v w w' := by
  have H := Aside0.mk h
  go_enter Tryd.func93, Tryd.ntmps93
  go_wp2_with fail
  refine (check_calls Br b v bs _ h).mono ?_
  rintro e w1 ⟨rfl, hbk, hown, hkept, hsz1⟩
  clear h
  have c1 : w1.cell? ⟨b, 1, none⟩ = some v := by rw [Lib.cell_of_heap hbk]; rfl
  have HK := Aside0.mk hkept
  have hbl := blk_lt hbk
  clear hkept
  obtain ⟨Av, cav, rfl⟩ := own_slice hown
  have HC := Aside0.mk (AppendRune_calls Br _ bs n w1 hown hn hs hlen (by omega))
  clear hs
  go_wp2_with fail
  refine HC.out.mono ?_
  rintro e w2 ⟨v', rfl, hown', hbel, hgrow⟩
  have hb2 := blk_grown hbk hgrow (fun e => H.out.ne e.symm)
  have d1 : w2.cell? ⟨b, 1, none⟩ = some (.slice Av bs.length cav) := by rw [Lib.cell_of_heap hb2]; rfl
  have f1 : w2.frozen? ⟨b, 1, none⟩ = false := Lib.frozen_of_heap hb2 1
  obtain ⟨A', c', rfl⟩ := own_slice hown'
  have HG := Aside0.mk hgrow
  have HO := Aside0.mk hown'
  have HB2 := Aside0.mk hb2
  clear hgrow hown' hb2 hown hbk hbel HC
  go_wp2
  go_ret2
  refine ⟨⟨_, rfl⟩, _, ⟨.inr (blk_put HB2.out 1 _ rfl), ?_, H.out.lt⟩, ?_, ?_⟩
  · have hr := HO.out
    have hc : (bs ++ Lib.byteCells (runeB n)).length = bs.length + (Lib.byteCells (runeB n)).length := List.length_append
    simp only [hc] at hr ⊢
    exact own_move hr fun k hk => Below.heap_setCell _ _ _ _ (fun (e : k = b) => by have := own_base hr k hk; have := H.out.lt; omega)
  · exact (HK.out.1.grown HG.out (by have := H.out.blt; omega) (fun k hk => by have := own_base H.out.row k hk; have := H.out.lt; omega)).setCell (p := ⟨b, 1, none⟩) (Nat.le_refl _) _
  · intro k hk hkb hkv
    rw [Below.heap_setCell _ _ _ _ hkb, HG.out.block k (by omega) (fun e => hkv e.symm)]
    exact HK.out.2 k hk hkb hkv
end Go.Proofs.YtohlbnbfpcbpdaaDoor.Lx
