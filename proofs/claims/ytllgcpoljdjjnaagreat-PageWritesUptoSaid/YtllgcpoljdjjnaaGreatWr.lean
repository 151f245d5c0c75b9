/- A builder in a box: WriteString, WriteByte, String, with the row's base apart from the box's place: the walks. -/
import Derived.Test.YtllgcpoljdjjnaaGreatEsp
import Derived.Test.YtllgcpoljdjjnaaGreatBld
set_option linter.unusedVariables false
set_option linter.unusedSimpArgs false
namespace Go.Proofs.YtllgcpoljdjjnaaGreat.Pg
open Go.RowKit Go.Proofs.YtllgcpoljdjjnaaGreatW.PrintWords Go.Proofs.YtllgcpoljdjjnaaGreatW.PrintLast Go.Proofs.YtllgcpoljdjjnaaGreatW.PrintMore

/-- The builder in block b holds bs; its row lies in v, at Br or behind. -/
structure BAt (Br b : Nat) (v : Value) (bs : List Value) (w : World) : Prop where
  blk : w.heap[b]? = some (.cells #[.pointer none, v] 43 (0, 0)) ∨ w.heap[b]? = some (.cells #[.pointer (some ⟨b, 0, none⟩), v] 43 (0, 0))
  row : w.ownsRow Br 5 1 v bs.length bs
  lt : b < Br
theorem BAt.blt {Br b : Nat} {v : Value} {bs : List Value} {w : World} (h : BAt Br b v bs w) : b < w.heap.size := by
  rcases h.blk with h | h <;> exact blk_lt h
theorem BAt.ne {Br b : Nat} {v : Value} {bs : List Value} {w : World} (h : BAt Br b v bs w) : v.ownBlock ≠ some b := fun e => by
  have := own_base h.row b e
  have := h.lt
  omega
theorem BAt.is {Br b : Nat} {v : Value} {bs : List Value} {w : World} (h : BAt Br b v bs w) : Lib.IsBuilder 43 5 b b bs w := by
  have hr := own_weaken h.row (Nat.le_of_lt h.lt)
  rcases h.blk with hb | hb
  · exact .inl ⟨Nat.le_refl _, v, hb, hr, h.ne⟩
  · exact .inr ⟨Nat.le_refl _, v, hb, hr, h.ne⟩
theorem BAt.move {Br b : Nat} {v : Value} {bs : List Value} {w w' : World} (h : BAt Br b v bs w) (hm : ∀ k, k < w.heap.size → (k = b ∨ v.ownBlock = some k) → w'.heap[k]? = w.heap[k]?) : BAt Br b v bs w' := by
  refine ⟨?_, own_move h.row fun k hk => hm k (own_lt h.row k hk) (.inr hk), h.lt⟩
  have e := hm b h.blt (.inl rfl)
  rcases h.blk with hb | hb
  · exact .inl (e.trans hb)
  · exact .inr (e.trans hb)
/-- What a write leaves: all blocks but the box and the row. -/
def Kept (b : Nat) (v : Value) (w w' : World) : Prop := Below b w w' ∧ ∀ k, k < w.heap.size → k ≠ b → v.ownBlock ≠ some k → w'.heap[k]? = w.heap[k]?

theorem check_calls (Br b : Nat) (v : Value) (bs : List Value) (w : World) (h : BAt Br b v bs w) :
    Calls Tryz.prog 37 #[.pointer (some ⟨b, 0, none⟩)] w fun e w' => e = .returned (.tuple #[]) ∧ w'.heap[b]? = some (.cells #[.pointer (some ⟨b, 0, none⟩), v] 43 (0, 0)) ∧ w'.ownsRow Br 5 1 v bs.length bs ∧ Kept b v w w' ∧ w'.heap.size = w.heap.size := by
  rcases h.blk with hb | hb
  · have hr := own_weaken h.row (Nat.le_of_lt h.lt)
    have hh : Lib.BuilderAt 43 5 b b (.pointer none) bs w := ⟨Nat.le_refl _, v, hb, hr, h.ne⟩
    refine (Bld.copyCheck_fresh b w hh.cell0 hh.shape hh.frozen0).mono ?_
    rintro e w' ⟨rfl, rfl⟩
    refine ⟨rfl, blk_put hb 0 _ rfl, own_move h.row fun k hk => Below.heap_setCell _ _ _ _ (fun e => h.ne (by rw [hk, e])), ⟨(Below.refl b w).setCell (p := ⟨b, 0, none⟩) (Nat.le_refl _) _, fun k _ hk _ => Below.heap_setCell _ _ _ _ hk⟩, by simp [World.setCell]⟩
  · refine (Bld.copyCheck_used b w (by rw [Lib.cell_of_heap hb]; rfl)).mono ?_
    rintro e w' ⟨rfl, rfl⟩
    exact ⟨rfl, hb, h.row, ⟨Below.refl _ _, fun _ _ _ _ => rfl⟩, rfl⟩

set_option maxHeartbeats 1000000 in
set_option maxRecDepth 100000 in
theorem Write_calls (Br b : Nat) (v : Value) (bs : List Value) (s : ByteArray) (w : World) (h : BAt Br b v bs w) (hlen : bs.length + s.size ≤ 140737488355328) (hBr : Br ≤ w.heap.size) :
    Calls Tryz.prog 19 #[.pointer (some ⟨b, 0, none⟩), .string s] w fun e w' => e = .returned (.tuple #[.int .i64 s.size, .nilIface]) ∧ ∃ v', BAt Br b v' (bs ++ Lib.strCells s) w' ∧ Kept b v w w' := by
  obtain ⟨i0, hi, hz0, hz1, hz2⟩ := info_parts Bld.infoByte
  have H := Aside0.mk h
  go_enter Tryz.func19, Tryz.ntmps19
  go_wp2_with fail
  refine (check_calls Br b v bs _ h).mono ?_
  rintro e w1 ⟨rfl, hbk, hown, hkept, hsz1⟩
  clear h
  have c1 : w1.cell? ⟨b, 1, none⟩ = some v := by rw [Lib.cell_of_heap hbk]; rfl
  have HK := Aside0.mk hkept
  clear hkept
  go_wp2_with (at_builtin; refine Lib.wpList_append_own_string _ rfl _ _ 41 9 rfl Br 5 i0 Tryz.underlying41 Tryz.underlying9 hi hz0 hz1 hz2 _ _ _ rfl hown s rfl ?c3 ?c4 ?c5 ?_)
  case c3 => unfold maxLen; omega
  case c4 => omega
  case c5 => omega
  intro v' w2 hown' hgrow _
  have hb2 := blk_grown hbk hgrow (fun e => H.out.ne e.symm)
  have d1 : w2.cell? ⟨b, 1, none⟩ = some v := by rw [Lib.cell_of_heap hb2]; rfl
  have f1 : w2.frozen? ⟨b, 1, none⟩ = false := Lib.frozen_of_heap hb2 1
  obtain ⟨ao, n', cap, rfl⟩ : ∃ ao n' cap, v' = .slice ao n' cap := by
    rcases hown'.2 with ⟨hv, _⟩ | ⟨g, cap, cur, hv, _⟩
    · exact ⟨_, _, _, hv⟩
    · exact ⟨_, _, _, hv⟩
  have HG := Aside0.mk hgrow
  have HO := Aside0.mk hown'
  have HB2 := Aside0.mk hb2
  clear hgrow hown' hb2 hown hbk
  go_wp2
  go_ret2
  refine ⟨rfl, _, ⟨.inr (blk_put HB2.out 1 _ rfl), ?_, H.out.lt⟩, ?_, ?_⟩
  · have hr := HO.out
    rw [show bs.length + s.size = (bs ++ Lib.strCells s).length by simp [Lib.strCells_length]] at hr
    exact own_move hr fun k hk => Below.heap_setCell _ _ _ _ (fun (e : k = b) => by have := own_base hr k hk; have := H.out.lt; omega)
  · exact (HK.out.1.grown HG.out (by have := H.out.blt; omega) (fun k hk => by have := own_base H.out.row k hk; have := H.out.lt; omega)).setCell (p := ⟨b, 1, none⟩) (Nat.le_refl _) _
  · intro k hk hkb hkv
    rw [Below.heap_setCell _ _ _ _ hkb, HG.out.block k (by omega) (fun e => hkv e.symm)]
    exact HK.out.2 k hk hkb hkv

set_option maxHeartbeats 1000000 in
set_option maxRecDepth 100000 in
theorem WriteByte_calls (Br b : Nat) (v : Value) (bs : List Value) (c : UInt8) (w : World) (h : BAt Br b v bs w) (hlen : bs.length + 1 ≤ 140737488355328) (hBr : Br ≤ w.heap.size) :
    Calls Tryz.prog 33 #[.pointer (some ⟨b, 0, none⟩), .int .u8 c.toNat] w fun e w' => e = .returned .nilIface ∧ ∃ v', BAt Br b v' (bs ++ [.int .u8 c.toNat]) w' ∧ Kept b v w w' := by
  obtain ⟨i0, hi, hz0, hz1, hz2⟩ := info_parts Bld.infoByte
  have H := Aside0.mk h
  go_enter Tryz.func33, Tryz.ntmps33
  go_wp2_with fail
  refine (check_calls Br b v bs _ h).mono ?_
  rintro e w1 ⟨rfl, hbk, hown, hkept, hsz1⟩
  clear h
  have c1 : w1.cell? ⟨b, 1, none⟩ = some v := by rw [Lib.cell_of_heap hbk]; rfl
  have HK := Aside0.mk hkept
  have hbl := blk_lt hbk
  clear hkept
  obtain ⟨Av, cav, rfl⟩ := own_slice hown
  go_wp2_with (at_builtin; refine wpList_append_own _ rfl _ _ 41 rfl Br 5 i0 (.int .u8 0) 1 1 Tryz.underlying41 hi hz0 hz1 hz2 rfl (by decide) _ bs.length bs rfl (hown.alloc _) ⟨_, 0, none⟩ 1 1 [.int .u8 c.toNat] rfl rfl (cell_new1 _ _ _ _ hsz1.symm) (by simp [Value.oneCell']) (by simp only [maxLen]; omega) (by omega) (by simp; omega) ?_)
  intro v' w2 hown' hgrow _
  have hba : (w1.alloc (.cells #[.int .u8 c.toNat] 5)).heap[b]? = some (.cells #[.pointer (some ⟨b, 0, none⟩), .slice Av bs.length cav] 43 (0, 0)) := (Below.heap_alloc _ _ _ hbl).trans hbk
  have hb2 := blk_grown hba hgrow (fun e => H.out.ne e.symm)
  have d1 : w2.cell? ⟨b, 1, none⟩ = some (.slice Av bs.length cav) := by rw [Lib.cell_of_heap hb2]; rfl
  have f1 : w2.frozen? ⟨b, 1, none⟩ = false := Lib.frozen_of_heap hb2 1
  obtain ⟨A', c', rfl⟩ := own_slice hown'
  have HG := Aside0.mk hgrow
  have HO := Aside0.mk hown'
  have HB2 := Aside0.mk hb2
  clear hgrow hown' hb2 hown hbk hba
  go_wp2
  go_ret
  have hsa : (w1.alloc (.cells #[.int .u8 c.toNat] 5)).heap.size = w1.heap.size + 1 := by simp
  refine ⟨rfl, _, ⟨.inr (blk_put HB2.out 1 _ rfl), ?_, H.out.lt⟩, ?_, ?_⟩
  · have hr := HO.out
    have hn : (bs ++ [Value.int .u8 c.toNat]).length = bs.length + 1 := by simp
    rw [hn]
    exact own_move hr fun k hk => Below.heap_setCell _ _ _ _ (fun (e : k = b) => by have := own_base hr k hk; have := H.out.lt; omega)
  · exact ((HK.out.1.alloc (by have := H.out.blt; omega) _).grown HG.out (by rw [hsa]; have := H.out.blt; omega) (fun k hk => by have := own_base H.out.row k hk; have := H.out.lt; omega)).setCell (p := ⟨b, 1, none⟩) (Nat.le_refl _) _
  · intro k hk hkb hkv
    rw [Below.heap_setCell _ _ _ _ hkb, HG.out.block k (by rw [hsa]; omega) (fun e => hkv e.symm), Below.heap_alloc _ _ _ (by omega)]
    exact HK.out.2 k hk hkb hkv
end Go.Proofs.YtllgcpoljdjjnaaGreat.Pg
