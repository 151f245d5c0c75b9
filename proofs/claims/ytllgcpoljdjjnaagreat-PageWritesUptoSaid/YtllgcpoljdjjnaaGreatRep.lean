/- strings.NewReplacer at page's ten strings: what its build lays. -/
import Derived.Test.YtllgcpoljdjjnaaGreatOnce
import Derived.Lib.ConvBytes
import Derived.Lib.Hide
import Derived.Lib.SliceRun
import Derived.WalkSpells
import Derived.Laws.IdiomStrings
import Derived.Laws.Tables
import Derived.Deep.WholeRow
set_option linter.unusedVariables false
set_option linter.unusedSimpArgs false
namespace Go.Proofs.YtllgcpoljdjjnaaGreat.Pg
open Go.RowKit Go.Proofs.YtllgcpoljdjjnaaGreatW.PrintWords Go.Proofs.YtllgcpoljdjjnaaGreatW.PrintLast Go.Proofs.YtllgcpoljdjjnaaGreatW.PrintMore

/-- The five bytes, and what stands for each. -/
def keyOf : Nat → UInt8
  | 0 => 38
  | 1 => 60
  | 2 => 62
  | 3 => 34
  | _ => 39
def valOf : Nat → List UInt8
  | 0 => [38, 97, 109, 112, 59]
  | 1 => [38, 108, 116, 59]
  | 2 => [38, 103, 116, 59]
  | 3 => [38, 113, 117, 111, 116, 59]
  | _ => [38, 35, 51, 57, 59]
/-- The pairs from number j on, in the order in which they are laid (the last first): what stands for a byte. -/
def repOf (j : Nat) (b : Nat) : Option (List UInt8) := ((List.range 5).filter fun i => decide (j ≤ i) && (keyOf i).toNat == b).head?.map valOf

/-- The replacer's own memory: the array of what stands for each byte, and the list of the bytes. -/
structure BSv (B : Nat) (w : World) (g : Nat) (f : Nat → Option (List UInt8)) (tr : List ByteArray) (cells : Array Value) (v : Value) : Prop where
  lo : B ≤ g
  blk : w.heap[g]? = some (.cells cells 110 (0, 0))
  size : cells.size = 257
  last : cells[256]? = some v
  row : w.ownsRow B 9 1 v tr.length (tr.map Value.string)
  rep : ∀ b, b < 256 → match f b with
      | none => cells[b]? = some (.slice none 0 0)
      | some l => ∃ rb cap, cells[b]? = some (.slice (some ⟨rb, 0, none⟩) l.length cap) ∧ l.length ≤ cap ∧ B ≤ rb ∧ ∃ cs fz, w.heap[rb]? = some (.cells cs 5 fz) ∧ ∀ i (h : i < l.length), cs[i]? = some (.int .u8 (l[i].toNat))
def BS (B : Nat) (w : World) (g : Nat) (f : Nat → Option (List UInt8)) (tr : List ByteArray) : Prop := ∃ cells v, BSv B w g f tr cells v

section
variable {B : Nat} {w w' : World} {g : Nat} {f : Nat → Option (List UInt8)} {tr : List ByteArray} {cells : Array Value} {v : Value}
/-- Nothing of its own has turned. -/
theorem BSv.below (h : BSv B w g f tr cells v) (hb : Below w.heap.size w w') : BSv B w' g f tr cells v := by
  refine ⟨h.lo, (hb.block g (blk_lt h.blk)).trans h.blk, h.size, h.last, pw_own_below h.row hb, fun b hb' => ?_⟩
  have := h.rep b hb'
  cases hf : f b with
  | none => rw [hf] at this; exact this
  | some l =>
    rw [hf] at this
    obtain ⟨rb, cap, h1, h2, h3, cs, fz, h4, h5⟩ := this
    exact ⟨rb, cap, h1, h2, h3, cs, fz, (hb.block rb (blk_lt h4)).trans h4, h5⟩
/-- One string more: the row has grown, its slice is stored. -/
theorem BSv.more (h : BSv B w g f tr cells v) {v' : Value} {s : ByteArray} (ho : w'.ownsRow B 9 1 v' (tr ++ [s]).length ((tr ++ [s]).map Value.string)) (hg : w.grownBy w' v.ownBlock) :
    BSv B (w'.setCell ⟨g, 256, none⟩ v') g f (tr ++ [s]) (cells.setIfInBounds 256 v') v' := by
  have hne : some g ≠ v.ownBlock := own_ne h.row h.blk (by decide)
  have hb2 := blk_grown h.blk hg hne
  have hne' : some g ≠ v'.ownBlock := own_ne ho hb2 (by decide)
  refine ⟨h.lo, blk_put hb2 256 v' rfl, by rw [Array.size_setIfInBounds]; exact h.size, by rw [Array.getElem?_setIfInBounds_self, if_pos (by rw [h.size]; omega)], own_setCell ho hne' _, fun b hb => ?_⟩
  have := h.rep b hb
  cases hf : f b with
  | none =>
    rw [hf] at this
    show _ = _
    rw [Array.getElem?_setIfInBounds_ne (by omega)]; exact this
  | some l =>
    rw [hf] at this
    obtain ⟨rb, cap, h1, h2, h3, cs, fz, h4, h5⟩ := this
    have hr1 : rb ≠ g := by
      rintro rfl
      rw [h.blk] at h4
      cases h4
    have hr2 : some rb ≠ v.ownBlock := fun e => by
      obtain ⟨cs', hcs⟩ := q_typed (q_of_own h.row) rb e.symm |>.2
      rw [hcs] at h4
      cases h4
    exact ⟨rb, cap, by rw [Array.getElem?_setIfInBounds_ne (by omega)]; exact h1, h2, h3, cs, fz, by rw [Below.heap_setCell _ _ _ _ hr1, hg.block rb (blk_lt h4) hr2]; exact h4, h5⟩
theorem BSv.congr (h : BSv B w g f tr cells v) {f' : Nat → Option (List UInt8)} (hf : ∀ x, x < 256 → f' x = f x) : BSv B w g f' tr cells v :=
  ⟨h.lo, h.blk, h.size, h.last, h.row, fun b hb => by rw [hf b hb]; exact h.rep b hb⟩
/-- What stands for a byte is laid. -/
theorem BSv.lay (h : BSv B w g f tr cells v) (b : Nat) (l : List UInt8) (rb cap : Nat) (hb : b < 256) (hrb : B ≤ rb) (hne : rb ≠ g) (hcap : l.length ≤ cap) {cs : Array Value} {fz : Nat × Nat} (hblk : w.heap[rb]? = some (.cells cs 5 fz)) (hcs : ∀ i (h : i < l.length), cs[i]? = some (.int .u8 (l[i].toNat))) :
    BSv B (w.setCell ⟨g, b, none⟩ (.slice (some ⟨rb, 0, none⟩) l.length cap)) g (fun x => if x = b then some l else f x) tr (cells.setIfInBounds b (.slice (some ⟨rb, 0, none⟩) l.length cap)) v := by
  have hne' : some g ≠ v.ownBlock := own_ne h.row h.blk (by decide)
  refine ⟨h.lo, blk_put h.blk b _ rfl, by rw [Array.size_setIfInBounds]; exact h.size, by rw [Array.getElem?_setIfInBounds_ne (by omega)]; exact h.last, own_setCell h.row hne' _, fun x hx => ?_⟩
  by_cases he : x = b
  · subst he
    simp only [if_true]
    exact ⟨rb, cap, by rw [Array.getElem?_setIfInBounds_self, if_pos (by rw [h.size]; omega)], hcap, hrb, cs, fz, by rw [Below.heap_setCell _ _ _ _ hne]; exact hblk, hcs⟩
  · have := h.rep x hx
    simp only [if_neg he]
    cases hf : f x with
    | none =>
      rw [hf] at this
      show _ = _
      rw [Array.getElem?_setIfInBounds_ne (by omega)]; exact this
    | some l' =>
      rw [hf] at this
      obtain ⟨rb', cap', h1, h2, h3, cs', fz', h4, h5⟩ := this
      have hr1 : rb' ≠ g := by
        rintro rfl
        rw [h.blk] at h4
        cases h4
      exact ⟨rb', cap', by rw [Array.getElem?_setIfInBounds_ne (by omega)]; exact h1, h2, h3, cs', fz', by rw [Below.heap_setCell _ _ _ _ hr1]; exact h4, h5⟩
end

/-- The bytes whose pairs have been laid, the last first. -/
def trOf (j : Nat) : List ByteArray := ((List.range 5).filter fun i => decide (j ≤ i)).reverse.map fun i => ⟨#[keyOf i]⟩

def rowS : List ByteArray := [⟨#[38]⟩, ⟨#[38, 97, 109, 112, 59]⟩, ⟨#[60]⟩, ⟨#[38, 108, 116, 59]⟩, ⟨#[62]⟩, ⟨#[38, 103, 116, 59]⟩, ⟨#[34]⟩, ⟨#[38, 113, 117, 111, 116, 59]⟩, ⟨#[39]⟩, ⟨#[38, 35, 51, 57, 59]⟩]

theorem Z_size : Tryz.zeroCells110.size = 257 := by kernel_rfl
theorem Z_one : Tryz.zeroCells110.all (·.oneCell') = true := by kernel_rfl
theorem Z_nil : Tryz.zeroCells110.toList = List.replicate 257 (.slice none 0 0) := by kernel_rfl
theorem sizeZ : (Tryz.prog.info? 110).map (·.size) = some 257 := by kernel_rfl
theorem store_new (u : World) (o : Obj) (A : Option Addr) (n c : Nat) : (storeCells { block := u.heap.size + 1, off := 0 } (Tryz.zeroCells110.toList.set 256 (.slice A n c))).run Tryz.prog ((u.alloc o).alloc (.cells Tryz.zeroCells110 110)) =
    .ok () ((u.alloc o).alloc (.cells (Tryz.zeroCells110.setIfInBounds 256 (.slice A n c)) 110)) := by
  have h := run_storeCells_new (P := Tryz.prog) (u.alloc o) 110 Tryz.zeroCells110 (Tryz.zeroCells110.setIfInBounds 256 (.slice A n c)) (by rw [sizeZ, Array.size_setIfInBounds, Z_size]) (by rw [Array.size_setIfInBounds]) (by
    rw [Array.all_eq_true']
    intro x hx
    have hx' : x ∈ Tryz.zeroCells110.toList.set 256 (.slice A n c) := by rw [← Array.toList_setIfInBounds]; exact Array.mem_toList_iff.2 hx
    rcases List.mem_or_eq_of_mem_set hx' with h | rfl
    · exact (Array.all_eq_true'.1 Z_one) x (Array.mem_toList_iff.1 h)
    · rfl)
  have e : (u.alloc o).heap.size = u.heap.size + 1 := by simp
  rw [e] at h
  simpa using h

theorem infoS : (Tryz.prog.info? 9).map (fun i => (i.zero, i.size, i.bytes)) = some (some (.string ⟨#[]⟩), 1, 16) := by kernel_rfl

theorem bs_start (w : World) : BS w.heap.size ((w.alloc (.cells (madeCells #[.string ⟨#[]⟩] 5) 9)).alloc (.cells (Tryz.zeroCells110.setIfInBounds 256 (.slice (some ⟨w.heap.size, 0, none⟩) 0 5)) 110)) (w.heap.size + 1) (repOf 5) (trOf 5) := by
  rw [show trOf 5 = [] from rfl]
  refine ⟨Tryz.zeroCells110.setIfInBounds 256 (.slice (some ⟨w.heap.size, 0, none⟩) 0 5), .slice (some ⟨w.heap.size, 0, none⟩) 0 5, by omega, ?_, by rw [Array.size_setIfInBounds, Z_size], ?_, ?_, fun b hb => ?_⟩
  · have := blk_new (w.alloc (.cells (madeCells #[.string ⟨#[]⟩] 5) 9)) (.cells (Tryz.zeroCells110.setIfInBounds 256 (.slice (some ⟨w.heap.size, 0, none⟩) 0 5)) 110)
    rw [show (w.alloc (.cells (madeCells #[.string ⟨#[]⟩] 5) 9)).heap.size = w.heap.size + 1 by simp] at this
    exact this
  · rw [Array.getElem?_setIfInBounds_self, if_pos (by rw [Z_size]; omega)]
  · refine ⟨rfl, .inr ⟨w.heap.size, 5, madeCells #[.string ⟨#[]⟩] 5, rfl, Nat.le_refl _, blk_alloc (blk_new w _) _, Nat.zero_le _, by decide, by simp [madeCells], rfl⟩⟩
  · have : repOf 5 b = none := by
      unfold repOf
      have e : ((List.range 5).filter fun i => decide (5 ≤ i) && (keyOf i).toNat == b) = [] := by
        rw [List.filter_eq_nil_iff]
        intro i hi
        have := List.mem_range.1 hi
        simp
        omega
      rw [e]; rfl
    rw [this]
    show _ = some (Value.slice none 0 0)
    rw [Array.getElem?_setIfInBounds_ne (by omega), ← Array.getElem?_toList, Z_nil, List.getElem?_replicate, if_pos (by omega)]

theorem conv_one (w : World) (k : UInt8) : (convert 41 9 (.slice (some { block := w.heap.size, off := 0 }) 1 1)).run Tryz.prog (w.alloc (.cells #[.int .u8 k.toNat] 5)) = .ok (.string ⟨#[k]⟩) (w.alloc (.cells #[.int .u8 k.toNat] 5)) :=
  run_convert_bytes_back _ 41 9 5 ⟨w.heap.size, 0, none⟩ 1 [k] Tryz.underlying41 Tryz.underlying5 Tryz.underlying9 (fun j hj => by
    have : j = 0 := by simp at hj; exact hj
    subst this
    exact (blk_cell (blk_new w _) 0).trans rfl)
theorem below_bytes (w : World) (e : TypeId) (s : ByteArray) : Below w.heap.size w (Lib.bytesWorld w e s) :=
  ⟨rfl, rfl, rfl, by simp [Lib.bytesWorld, World.freeze, World.alloc, World.drew, -World.alloc_eq, -World.drew_eq], fun k hk => Lib.bytesWorld_at_old w e s k hk⟩
theorem cell_new1 (W : World) (x : Value) (t : TypeId) (n : Nat) (hn : n = W.heap.size) : ∀ j u, [x][j]? = some u → (W.alloc (.cells #[x] t)).cell? ((⟨n, 0, none⟩ : Addr).add j) = some u := by
  subst hn
  exact cell_one_new W x t
theorem bytesCells_at (w : World) (e : TypeId) (l : List UInt8) (i : Nat) (h : i < l.length) : (Lib.bytesCells w e ⟨l.toArray⟩)[i]? = some (.int .u8 (l[i].toNat)) := by
  unfold Lib.bytesCells
  rw [Array.getElem?_append_left (by simpa using h)]
  simp [h]
theorem idx_one (k : UInt8) (h : 0 < (ByteArray.mk #[k]).size) : (ByteArray.mk #[k])[0]'h = k := rfl
attribute [local go_sem] idx_one UInt8.reduceToNat
set_option maxRecDepth 100000 in
set_option maxHeartbeats 4000000 in
theorem build_calls (p r cp : Nat) (w : World) (hp : w.cell? ⟨p, 4, none⟩ = some (.slice (some ⟨r, 0, none⟩) 10 cp)) (hr : ∀ j, j < 5 → w.cell? ⟨r, 2 * j, none⟩ = some (.string ⟨#[keyOf j]⟩) ∧ w.cell? ⟨r, 2 * j + 1, none⟩ = some (.string ⟨(valOf j).toArray⟩)) :
    Calls Tryz.prog 48 #[.pointer (some ⟨p, 0, none⟩)] w fun e w' => ∃ g, e = .returned (.iface 111 (.pointer (some ⟨g, 0, none⟩))) ∧ BS w.heap.size w' g (repOf 0) [⟨#[39]⟩, ⟨#[34]⟩, ⟨#[62]⟩, ⟨#[60]⟩, ⟨#[38]⟩] ∧ Below w.heap.size w w' := by
  have HR := Aside0.mk hr
  clear hr
  have hmk : ∀ u : World, (Instr.makeSlice 23 (.int .i64 0) (.int .i64 5)).run Tryz.prog u = .ok (.slice (some ⟨u.heap.size, 0, none⟩) 0 5) (u.alloc (.cells (madeCells #[.string ⟨#[]⟩] 5) 9)) := fun u => by
    obtain ⟨i0, hi, hz0, hz1, hz2⟩ := info_parts infoS
    have h := run_make (P := Tryz.prog) u 23 9 i0 (.string ⟨#[]⟩) Tryz.underlying23 hi hz0 .i64 .i64 0 5 (by omega) (by omega) (by rw [hz2]; omega) (by omega)
    rw [h, hz1]
    rfl
  have hst := store_new
  go_enter Tryz.func48, Tryz.ntmps48
  go_wp2
  go_loopg [4, 5] 5 (fun kq v4 v5 w2 => ∃ (j : Nat), j + kq = 5 ∧ v4 = .bool (j == 0) ∧ v5 = .int .i64 ((2 * j : Nat) : Int) ∧ w = w2)
  case atStart => exact ⟨0, rfl, rfl, rfl, rfl⟩
  case round =>
    obtain ⟨j, hj, rfl, rfl, rfl⟩ := hrel
    cases gk with
    | zero =>
      obtain rfl : j = 5 := by omega
      go_wp2
      have BS0 := Aside0.mk (bs_start w)
      have HB0 := Aside0.mk (below_alloc (below_alloc (Below.refl w.heap.size w) (.cells (madeCells #[.string ⟨#[]⟩] 5) 9)) (.cells (Tryz.zeroCells110.setIfInBounds 256 (.slice (some ⟨w.heap.size, 0, none⟩) 0 5)) 110))
      generalize hg : w.heap.size + 1 = g at *
      go_loopg [12, 13, 14] 5 (fun kq v12 v13 v14 w2 => ∃ (j : Nat), j = kq ∧ j ≤ 5 ∧ v12 = .int .i64 (2 * (j : Int) - 2) ∧ Aside0 (BS w.heap.size w2 g (repOf j) (trOf j)) ∧ Aside0 (Below w.heap.size w w2))
      case atStart => exact ⟨5, rfl, by omega, by go_num, BS0, HB0⟩
      case round =>
        clear BS0 HB0
        obtain ⟨j, rfl, hj5, rfl, HBS, HBL⟩ := hrel
        cases j with
        | zero =>
          go_wp2
          go_ret
          exact ⟨g, rfl, HBS.out, HBL.out⟩
        | succ j =>
          obtain ⟨c0, c1⟩ := HR.out j (by omega)
          obtain ⟨cells, v, hBS⟩ := HBS.out
          have hBS' := hBS
          obtain ⟨hlo, hbk, hsz, h256, hRv, harr⟩ := hBS'
          have hb256 : (keyOf j).toNat < 256 := (keyOf j).toNat_lt
          have hnone : repOf (j + 1) (keyOf j).toNat = none := by
            obtain rfl | rfl | rfl | rfl | rfl : j = 0 ∨ j = 1 ∨ j = 2 ∨ j = 3 ∨ j = 4 := by omega
            all_goals rfl
          have h1 := harr _ hb256
          rw [hnone] at h1
          have h1' : cells[(keyOf j).toNat]? = some (.slice none 0 0) := h1
          have ca : wr.cell? ⟨g, (keyOf j).toNat, none⟩ = some (.slice none 0 0) := (blk_cell hbk _).trans h1'
          have cv : wr.cell? ⟨g, 256, none⟩ = some v := (blk_cell hbk _).trans h256
          have d0 := (HBL.out.cell (World.block_lt_of_cell? w _ c0)).trans c0
          have d1 := (HBL.out.cell (World.block_lt_of_cell? w _ c1)).trans c1
          obtain ⟨Av, cav, rfl⟩ := own_slice hRv
          have HBV := Aside0.mk hBS
          have HRV := Aside0.mk hRv
          have HBK := Aside0.mk hbk
          have qT : ∀ (w : World) (a : Option Addr) (n c n' c' : Nat), (binOp .eql 41 (.slice a n c) (.slice none n' c')).run Tryz.prog w = .ok (.bool a.isNone) w := fun w a n c n' c' => Lib.run_eql_slice_nil w _ _ a n c n' c' Tryz.underlying41
          have hf38 := hnone
          clear h1 h1' hnone c0 c1 hRv harr hbk h256 hmk hst hBS
          have hcv := conv_one wr (keyOf j)
          have hsb : ∀ u : World, (convert 9 41 (.string ⟨(valOf j).toArray⟩)).run Tryz.prog u = .ok (.slice (some ⟨u.heap.size, 0, none⟩) (ByteArray.mk (valOf j).toArray).size (grownCap u (ByteArray.mk (valOf j).toArray).size 0 5)) (Lib.bytesWorld u 5 ⟨(valOf j).toArray⟩) := fun u => Lib.run_convert_string_bytes u _ _ _ _ Tryz.underlying9 Tryz.underlying41 Tryz.underlying5
          have HSB := Aside0.mk hsb
          clear hsb
          have htr : trOf j = trOf (j + 1) ++ [⟨#[keyOf j]⟩] ∧ (trOf (j + 1)).length ≤ 5 ∧ ∀ x, x < 256 → repOf j x = if x = (keyOf j).toNat then some (valOf j) else repOf (j + 1) x := by
            obtain rfl | rfl | rfl | rfl | rfl : j = 0 ∨ j = 1 ∨ j = 2 ∨ j = 3 ∨ j = 4 := by omega
            all_goals exact ⟨rfl, by decide, by decide +kernel⟩
          obtain ⟨htr1, htr2, htr3⟩ := htr
          have HTR1 := Aside0.mk htr1
          have HTR3 := Aside0.mk htr3
          clear htr1 htr3
          generalize trOf (j + 1) = trl at *
          generalize repOf (j + 1) = fj at *
          obtain ⟨i0, hi, hz0, hz1, hz2⟩ := info_parts infoS
          have hj : j < 5 := by omega
          obtain rfl | rfl | rfl | rfl | rfl : j = 0 ∨ j = 1 ∨ j = 2 ∨ j = 3 ∨ j = 4 := by omega
          all_goals
            simp only [Nat.reduceMul, Nat.reduceAdd, keyOf, valOf, UInt8.reduceToNat, Int.cast_ofNat_Int] at d0 d1 ca hcv
          · go_wp2_with (at_builtin; refine Hid.out ?_)
            refine Lib.hid ?_
            refine wpList_append_own _ rfl _ _ 23 rfl w.heap.size 9 i0 (.string ⟨#[]⟩) 1 16 Tryz.underlying23 hi hz0 hz1 hz2 rfl (by decide) _ trl.length (trl.map Value.string) rfl ((HRV.out.alloc _).alloc _) ⟨_, 0, none⟩ 1 1 [.string ⟨#[38]⟩] rfl rfl (cell_new1 _ _ _ _ (by simp)) (by simp [Value.oneCell']) (by simp only [maxLen]; omega) (by omega) (by have := HBL.out.size; simp; omega) ?_
            intro v' w2 hown' hg' _
            obtain ⟨A', c', rfl⟩ := own_slice hown'
            have hbA : Below wr.heap.size wr ((wr.alloc (.cells #[.int .u8 38] 5)).alloc (.cells #[.string ⟨#[38]⟩] 9)) := below_alloc (below_alloc (Below.refl _ _) _) _
            have BSA := HBV.out.below hbA
            have hne : some g ≠ (Value.slice Av trl.length cav).ownBlock := own_ne BSA.row BSA.blk (by decide)
            have hb2 := blk_grown BSA.blk hg' hne
            have c2 : w2.cell? ⟨g, 256, none⟩ = some (.slice Av trl.length cav) := (blk_cell hb2 _).trans BSA.last
            have f2 := blk_frozen hb2 256
            have BSM := Aside0.mk (BSA.more (s := ⟨#[38]⟩) (by simpa using hown') hg')
            have HB2 := Aside0.mk ((HBL.out.trans (hbA.mono HBL.out.size)).grown hg' (by have := HBL.out.size; simp; omega) (fun k hk => own_base BSA.row k hk))
            clear hbA BSA hne hb2 hown' hg' HBV HRV HBK HBL cv hcv d0 d1
            go_wp2
            rw [show (convert 9 41 (.string ⟨#[38, 97, 109, 112, 59]⟩)).run Tryz.prog (w2.setCell ⟨g, 256, none⟩ (.slice A' (trl.length + 1) c')) = _ from HSB.out _]
            simp only [Result.andThen]
            rw [Oper.upon_value]
            have hbw : Below (w2.setCell ⟨g, 256, none⟩ (.slice A' (trl.length + 1) c')).heap.size (w2.setCell ⟨g, 256, none⟩ (.slice A' (trl.length + 1) c')) (Lib.bytesWorld (w2.setCell ⟨g, 256, none⟩ (.slice A' (trl.length + 1) c')) 5 ⟨(valOf 0).toArray⟩) := below_bytes _ _ _
            have hnew := Lib.bytesWorld_at_new (w2.setCell ⟨g, 256, none⟩ (.slice A' (trl.length + 1) c')) 5 ⟨(valOf 0).toArray⟩
            have hs3 : (w2.setCell ⟨g, 256, none⟩ (.slice A' (trl.length + 1) c')).heap.size = w2.heap.size := by simp [World.setCell]
            have HB4 := Aside0.mk ((HB2.out.setCell (p := ⟨g, 256, none⟩) hlo (.slice A' (trl.length + 1) c')).trans (hbw.mono (by rw [hs3]; exact HB2.out.size)))
            have BS4 := BSM.out.below hbw
            generalize hW3 : (w2.setCell ⟨g, 256, none⟩ (.slice A' (trl.length + 1) c')) = W3 at *
            have hcap : (valOf 0).length ≤ grownCap W3 (ByteArray.mk (valOf 0).toArray).size 0 5 := grownCap_ge _ _ _ _
            have hcs : ∀ i (h : i < (valOf 0).length), (Lib.bytesCells W3 5 ⟨(valOf 0).toArray⟩)[i]? = some (.int .u8 ((valOf 0)[i].toNat)) := fun i h => bytesCells_at _ _ _ i h
            have hrep := BS4.rep 38 (by decide)
            rw [show fj 38 = none from hf38] at hrep
            have c4 := (blk_cell BS4.blk 38).trans hrep
            have f4 := blk_frozen BS4.blk 38
            have hgw : W3.heap.size ≠ g := by have := blk_lt BSM.out.blk; omega
            have BS5 := Aside0.mk (BS4.lay 38 (valOf 0) W3.heap.size _ (by decide) (by rw [hs3]; exact HB2.out.size) hgw hcap hnew hcs)
            have HB5 := Aside0.mk (HB4.out.setCell (p := ⟨g, 38, none⟩) hlo (.slice (some ⟨W3.heap.size, 0, none⟩) (valOf 0).length (grownCap W3 (ByteArray.mk (valOf 0).toArray).size 0 5)))
            clear hbw hnew hs3 BS4 hrep hcs hcap BSM HB2 HB4
            generalize Lib.bytesWorld W3 5 _ = W4 at *
            go_wp2
            go_roundg 0
            case measure => omega
            case rel => exact ⟨0, rfl, by omega, rfl, ⟨_, _, (by rw [HTR1.out]; exact BS5.out.congr HTR3.out)⟩, HB5⟩
          · go_wp2_with (at_builtin; refine Hid.out ?_)
            refine Lib.hid ?_
            refine wpList_append_own _ rfl _ _ 23 rfl w.heap.size 9 i0 (.string ⟨#[]⟩) 1 16 Tryz.underlying23 hi hz0 hz1 hz2 rfl (by decide) _ trl.length (trl.map Value.string) rfl ((HRV.out.alloc _).alloc _) ⟨_, 0, none⟩ 1 1 [.string ⟨#[60]⟩] rfl rfl (cell_new1 _ _ _ _ (by simp)) (by simp [Value.oneCell']) (by simp only [maxLen]; omega) (by omega) (by have := HBL.out.size; simp; omega) ?_
            intro v' w2 hown' hg' _
            obtain ⟨A', c', rfl⟩ := own_slice hown'
            have hbA : Below wr.heap.size wr ((wr.alloc (.cells #[.int .u8 60] 5)).alloc (.cells #[.string ⟨#[60]⟩] 9)) := below_alloc (below_alloc (Below.refl _ _) _) _
            have BSA := HBV.out.below hbA
            have hne : some g ≠ (Value.slice Av trl.length cav).ownBlock := own_ne BSA.row BSA.blk (by decide)
            have hb2 := blk_grown BSA.blk hg' hne
            have c2 : w2.cell? ⟨g, 256, none⟩ = some (.slice Av trl.length cav) := (blk_cell hb2 _).trans BSA.last
            have f2 := blk_frozen hb2 256
            have BSM := Aside0.mk (BSA.more (s := ⟨#[60]⟩) (by simpa using hown') hg')
            have HB2 := Aside0.mk ((HBL.out.trans (hbA.mono HBL.out.size)).grown hg' (by have := HBL.out.size; simp; omega) (fun k hk => own_base BSA.row k hk))
            clear hbA BSA hne hb2 hown' hg' HBV HRV HBK HBL cv hcv d0 d1
            go_wp2
            rw [show (convert 9 41 (.string ⟨#[38, 108, 116, 59]⟩)).run Tryz.prog (w2.setCell ⟨g, 256, none⟩ (.slice A' (trl.length + 1) c')) = _ from HSB.out _]
            simp only [Result.andThen]
            rw [Oper.upon_value]
            have hbw : Below (w2.setCell ⟨g, 256, none⟩ (.slice A' (trl.length + 1) c')).heap.size (w2.setCell ⟨g, 256, none⟩ (.slice A' (trl.length + 1) c')) (Lib.bytesWorld (w2.setCell ⟨g, 256, none⟩ (.slice A' (trl.length + 1) c')) 5 ⟨(valOf 1).toArray⟩) := below_bytes _ _ _
            have hnew := Lib.bytesWorld_at_new (w2.setCell ⟨g, 256, none⟩ (.slice A' (trl.length + 1) c')) 5 ⟨(valOf 1).toArray⟩
            have hs3 : (w2.setCell ⟨g, 256, none⟩ (.slice A' (trl.length + 1) c')).heap.size = w2.heap.size := by simp [World.setCell]
            have HB4 := Aside0.mk ((HB2.out.setCell (p := ⟨g, 256, none⟩) hlo (.slice A' (trl.length + 1) c')).trans (hbw.mono (by rw [hs3]; exact HB2.out.size)))
            have BS4 := BSM.out.below hbw
            generalize hW3 : (w2.setCell ⟨g, 256, none⟩ (.slice A' (trl.length + 1) c')) = W3 at *
            have hcap : (valOf 1).length ≤ grownCap W3 (ByteArray.mk (valOf 1).toArray).size 0 5 := grownCap_ge _ _ _ _
            have hcs : ∀ i (h : i < (valOf 1).length), (Lib.bytesCells W3 5 ⟨(valOf 1).toArray⟩)[i]? = some (.int .u8 ((valOf 1)[i].toNat)) := fun i h => bytesCells_at _ _ _ i h
            have hrep := BS4.rep 60 (by decide)
            rw [show fj 60 = none from hf38] at hrep
            have c4 := (blk_cell BS4.blk 60).trans hrep
            have f4 := blk_frozen BS4.blk 60
            have hgw : W3.heap.size ≠ g := by have := blk_lt BSM.out.blk; omega
            have BS5 := Aside0.mk (BS4.lay 60 (valOf 1) W3.heap.size _ (by decide) (by rw [hs3]; exact HB2.out.size) hgw hcap hnew hcs)
            have HB5 := Aside0.mk (HB4.out.setCell (p := ⟨g, 60, none⟩) hlo (.slice (some ⟨W3.heap.size, 0, none⟩) (valOf 1).length (grownCap W3 (ByteArray.mk (valOf 1).toArray).size 0 5)))
            clear hbw hnew hs3 BS4 hrep hcs hcap BSM HB2 HB4
            generalize Lib.bytesWorld W3 5 _ = W4 at *
            go_wp2
            go_roundg 1
            case measure => omega
            case rel => exact ⟨1, rfl, by omega, rfl, ⟨_, _, (by rw [HTR1.out]; exact BS5.out.congr HTR3.out)⟩, HB5⟩
          · go_wp2_with (at_builtin; refine Hid.out ?_)
            refine Lib.hid ?_
            refine wpList_append_own _ rfl _ _ 23 rfl w.heap.size 9 i0 (.string ⟨#[]⟩) 1 16 Tryz.underlying23 hi hz0 hz1 hz2 rfl (by decide) _ trl.length (trl.map Value.string) rfl ((HRV.out.alloc _).alloc _) ⟨_, 0, none⟩ 1 1 [.string ⟨#[62]⟩] rfl rfl (cell_new1 _ _ _ _ (by simp)) (by simp [Value.oneCell']) (by simp only [maxLen]; omega) (by omega) (by have := HBL.out.size; simp; omega) ?_
            intro v' w2 hown' hg' _
            obtain ⟨A', c', rfl⟩ := own_slice hown'
            have hbA : Below wr.heap.size wr ((wr.alloc (.cells #[.int .u8 62] 5)).alloc (.cells #[.string ⟨#[62]⟩] 9)) := below_alloc (below_alloc (Below.refl _ _) _) _
            have BSA := HBV.out.below hbA
            have hne : some g ≠ (Value.slice Av trl.length cav).ownBlock := own_ne BSA.row BSA.blk (by decide)
            have hb2 := blk_grown BSA.blk hg' hne
            have c2 : w2.cell? ⟨g, 256, none⟩ = some (.slice Av trl.length cav) := (blk_cell hb2 _).trans BSA.last
            have f2 := blk_frozen hb2 256
            have BSM := Aside0.mk (BSA.more (s := ⟨#[62]⟩) (by simpa using hown') hg')
            have HB2 := Aside0.mk ((HBL.out.trans (hbA.mono HBL.out.size)).grown hg' (by have := HBL.out.size; simp; omega) (fun k hk => own_base BSA.row k hk))
            clear hbA BSA hne hb2 hown' hg' HBV HRV HBK HBL cv hcv d0 d1
            go_wp2
            rw [show (convert 9 41 (.string ⟨#[38, 103, 116, 59]⟩)).run Tryz.prog (w2.setCell ⟨g, 256, none⟩ (.slice A' (trl.length + 1) c')) = _ from HSB.out _]
            simp only [Result.andThen]
            rw [Oper.upon_value]
            have hbw : Below (w2.setCell ⟨g, 256, none⟩ (.slice A' (trl.length + 1) c')).heap.size (w2.setCell ⟨g, 256, none⟩ (.slice A' (trl.length + 1) c')) (Lib.bytesWorld (w2.setCell ⟨g, 256, none⟩ (.slice A' (trl.length + 1) c')) 5 ⟨(valOf 2).toArray⟩) := below_bytes _ _ _
            have hnew := Lib.bytesWorld_at_new (w2.setCell ⟨g, 256, none⟩ (.slice A' (trl.length + 1) c')) 5 ⟨(valOf 2).toArray⟩
            have hs3 : (w2.setCell ⟨g, 256, none⟩ (.slice A' (trl.length + 1) c')).heap.size = w2.heap.size := by simp [World.setCell]
            have HB4 := Aside0.mk ((HB2.out.setCell (p := ⟨g, 256, none⟩) hlo (.slice A' (trl.length + 1) c')).trans (hbw.mono (by rw [hs3]; exact HB2.out.size)))
            have BS4 := BSM.out.below hbw
            generalize hW3 : (w2.setCell ⟨g, 256, none⟩ (.slice A' (trl.length + 1) c')) = W3 at *
            have hcap : (valOf 2).length ≤ grownCap W3 (ByteArray.mk (valOf 2).toArray).size 0 5 := grownCap_ge _ _ _ _
            have hcs : ∀ i (h : i < (valOf 2).length), (Lib.bytesCells W3 5 ⟨(valOf 2).toArray⟩)[i]? = some (.int .u8 ((valOf 2)[i].toNat)) := fun i h => bytesCells_at _ _ _ i h
            have hrep := BS4.rep 62 (by decide)
            rw [show fj 62 = none from hf38] at hrep
            have c4 := (blk_cell BS4.blk 62).trans hrep
            have f4 := blk_frozen BS4.blk 62
            have hgw : W3.heap.size ≠ g := by have := blk_lt BSM.out.blk; omega
            have BS5 := Aside0.mk (BS4.lay 62 (valOf 2) W3.heap.size _ (by decide) (by rw [hs3]; exact HB2.out.size) hgw hcap hnew hcs)
            have HB5 := Aside0.mk (HB4.out.setCell (p := ⟨g, 62, none⟩) hlo (.slice (some ⟨W3.heap.size, 0, none⟩) (valOf 2).length (grownCap W3 (ByteArray.mk (valOf 2).toArray).size 0 5)))
            clear hbw hnew hs3 BS4 hrep hcs hcap BSM HB2 HB4
            generalize Lib.bytesWorld W3 5 _ = W4 at *
            go_wp2
            go_roundg 2
            case measure => omega
            case rel => exact ⟨2, rfl, by omega, rfl, ⟨_, _, (by rw [HTR1.out]; exact BS5.out.congr HTR3.out)⟩, HB5⟩
          · go_wp2_with (at_builtin; refine Hid.out ?_)
            refine Lib.hid ?_
            refine wpList_append_own _ rfl _ _ 23 rfl w.heap.size 9 i0 (.string ⟨#[]⟩) 1 16 Tryz.underlying23 hi hz0 hz1 hz2 rfl (by decide) _ trl.length (trl.map Value.string) rfl ((HRV.out.alloc _).alloc _) ⟨_, 0, none⟩ 1 1 [.string ⟨#[34]⟩] rfl rfl (cell_new1 _ _ _ _ (by simp)) (by simp [Value.oneCell']) (by simp only [maxLen]; omega) (by omega) (by have := HBL.out.size; simp; omega) ?_
            intro v' w2 hown' hg' _
            obtain ⟨A', c', rfl⟩ := own_slice hown'
            have hbA : Below wr.heap.size wr ((wr.alloc (.cells #[.int .u8 34] 5)).alloc (.cells #[.string ⟨#[34]⟩] 9)) := below_alloc (below_alloc (Below.refl _ _) _) _
            have BSA := HBV.out.below hbA
            have hne : some g ≠ (Value.slice Av trl.length cav).ownBlock := own_ne BSA.row BSA.blk (by decide)
            have hb2 := blk_grown BSA.blk hg' hne
            have c2 : w2.cell? ⟨g, 256, none⟩ = some (.slice Av trl.length cav) := (blk_cell hb2 _).trans BSA.last
            have f2 := blk_frozen hb2 256
            have BSM := Aside0.mk (BSA.more (s := ⟨#[34]⟩) (by simpa using hown') hg')
            have HB2 := Aside0.mk ((HBL.out.trans (hbA.mono HBL.out.size)).grown hg' (by have := HBL.out.size; simp; omega) (fun k hk => own_base BSA.row k hk))
            clear hbA BSA hne hb2 hown' hg' HBV HRV HBK HBL cv hcv d0 d1
            go_wp2
            rw [show (convert 9 41 (.string ⟨#[38, 113, 117, 111, 116, 59]⟩)).run Tryz.prog (w2.setCell ⟨g, 256, none⟩ (.slice A' (trl.length + 1) c')) = _ from HSB.out _]
            simp only [Result.andThen]
            rw [Oper.upon_value]
            have hbw : Below (w2.setCell ⟨g, 256, none⟩ (.slice A' (trl.length + 1) c')).heap.size (w2.setCell ⟨g, 256, none⟩ (.slice A' (trl.length + 1) c')) (Lib.bytesWorld (w2.setCell ⟨g, 256, none⟩ (.slice A' (trl.length + 1) c')) 5 ⟨(valOf 3).toArray⟩) := below_bytes _ _ _
            have hnew := Lib.bytesWorld_at_new (w2.setCell ⟨g, 256, none⟩ (.slice A' (trl.length + 1) c')) 5 ⟨(valOf 3).toArray⟩
            have hs3 : (w2.setCell ⟨g, 256, none⟩ (.slice A' (trl.length + 1) c')).heap.size = w2.heap.size := by simp [World.setCell]
            have HB4 := Aside0.mk ((HB2.out.setCell (p := ⟨g, 256, none⟩) hlo (.slice A' (trl.length + 1) c')).trans (hbw.mono (by rw [hs3]; exact HB2.out.size)))
            have BS4 := BSM.out.below hbw
            generalize hW3 : (w2.setCell ⟨g, 256, none⟩ (.slice A' (trl.length + 1) c')) = W3 at *
            have hcap : (valOf 3).length ≤ grownCap W3 (ByteArray.mk (valOf 3).toArray).size 0 5 := grownCap_ge _ _ _ _
            have hcs : ∀ i (h : i < (valOf 3).length), (Lib.bytesCells W3 5 ⟨(valOf 3).toArray⟩)[i]? = some (.int .u8 ((valOf 3)[i].toNat)) := fun i h => bytesCells_at _ _ _ i h
            have hrep := BS4.rep 34 (by decide)
            rw [show fj 34 = none from hf38] at hrep
            have c4 := (blk_cell BS4.blk 34).trans hrep
            have f4 := blk_frozen BS4.blk 34
            have hgw : W3.heap.size ≠ g := by have := blk_lt BSM.out.blk; omega
            have BS5 := Aside0.mk (BS4.lay 34 (valOf 3) W3.heap.size _ (by decide) (by rw [hs3]; exact HB2.out.size) hgw hcap hnew hcs)
            have HB5 := Aside0.mk (HB4.out.setCell (p := ⟨g, 34, none⟩) hlo (.slice (some ⟨W3.heap.size, 0, none⟩) (valOf 3).length (grownCap W3 (ByteArray.mk (valOf 3).toArray).size 0 5)))
            clear hbw hnew hs3 BS4 hrep hcs hcap BSM HB2 HB4
            generalize Lib.bytesWorld W3 5 _ = W4 at *
            go_wp2
            go_roundg 3
            case measure => omega
            case rel => exact ⟨3, rfl, by omega, rfl, ⟨_, _, (by rw [HTR1.out]; exact BS5.out.congr HTR3.out)⟩, HB5⟩
          · go_wp2_with (at_builtin; refine Hid.out ?_)
            refine Lib.hid ?_
            refine wpList_append_own _ rfl _ _ 23 rfl w.heap.size 9 i0 (.string ⟨#[]⟩) 1 16 Tryz.underlying23 hi hz0 hz1 hz2 rfl (by decide) _ trl.length (trl.map Value.string) rfl ((HRV.out.alloc _).alloc _) ⟨_, 0, none⟩ 1 1 [.string ⟨#[39]⟩] rfl rfl (cell_new1 _ _ _ _ (by simp)) (by simp [Value.oneCell']) (by simp only [maxLen]; omega) (by omega) (by have := HBL.out.size; simp; omega) ?_
            intro v' w2 hown' hg' _
            obtain ⟨A', c', rfl⟩ := own_slice hown'
            have hbA : Below wr.heap.size wr ((wr.alloc (.cells #[.int .u8 39] 5)).alloc (.cells #[.string ⟨#[39]⟩] 9)) := below_alloc (below_alloc (Below.refl _ _) _) _
            have BSA := HBV.out.below hbA
            have hne : some g ≠ (Value.slice Av trl.length cav).ownBlock := own_ne BSA.row BSA.blk (by decide)
            have hb2 := blk_grown BSA.blk hg' hne
            have c2 : w2.cell? ⟨g, 256, none⟩ = some (.slice Av trl.length cav) := (blk_cell hb2 _).trans BSA.last
            have f2 := blk_frozen hb2 256
            have BSM := Aside0.mk (BSA.more (s := ⟨#[39]⟩) (by simpa using hown') hg')
            have HB2 := Aside0.mk ((HBL.out.trans (hbA.mono HBL.out.size)).grown hg' (by have := HBL.out.size; simp; omega) (fun k hk => own_base BSA.row k hk))
            clear hbA BSA hne hb2 hown' hg' HBV HRV HBK HBL cv hcv d0 d1
            go_wp2
            rw [show (convert 9 41 (.string ⟨#[38, 35, 51, 57, 59]⟩)).run Tryz.prog (w2.setCell ⟨g, 256, none⟩ (.slice A' (trl.length + 1) c')) = _ from HSB.out _]
            simp only [Result.andThen]
            rw [Oper.upon_value]
            have hbw : Below (w2.setCell ⟨g, 256, none⟩ (.slice A' (trl.length + 1) c')).heap.size (w2.setCell ⟨g, 256, none⟩ (.slice A' (trl.length + 1) c')) (Lib.bytesWorld (w2.setCell ⟨g, 256, none⟩ (.slice A' (trl.length + 1) c')) 5 ⟨(valOf 4).toArray⟩) := below_bytes _ _ _
            have hnew := Lib.bytesWorld_at_new (w2.setCell ⟨g, 256, none⟩ (.slice A' (trl.length + 1) c')) 5 ⟨(valOf 4).toArray⟩
            have hs3 : (w2.setCell ⟨g, 256, none⟩ (.slice A' (trl.length + 1) c')).heap.size = w2.heap.size := by simp [World.setCell]
            have HB4 := Aside0.mk ((HB2.out.setCell (p := ⟨g, 256, none⟩) hlo (.slice A' (trl.length + 1) c')).trans (hbw.mono (by rw [hs3]; exact HB2.out.size)))
            have BS4 := BSM.out.below hbw
            generalize hW3 : (w2.setCell ⟨g, 256, none⟩ (.slice A' (trl.length + 1) c')) = W3 at *
            have hcap : (valOf 4).length ≤ grownCap W3 (ByteArray.mk (valOf 4).toArray).size 0 5 := grownCap_ge _ _ _ _
            have hcs : ∀ i (h : i < (valOf 4).length), (Lib.bytesCells W3 5 ⟨(valOf 4).toArray⟩)[i]? = some (.int .u8 ((valOf 4)[i].toNat)) := fun i h => bytesCells_at _ _ _ i h
            have hrep := BS4.rep 39 (by decide)
            rw [show fj 39 = none from hf38] at hrep
            have c4 := (blk_cell BS4.blk 39).trans hrep
            have f4 := blk_frozen BS4.blk 39
            have hgw : W3.heap.size ≠ g := by have := blk_lt BSM.out.blk; omega
            have BS5 := Aside0.mk (BS4.lay 39 (valOf 4) W3.heap.size _ (by decide) (by rw [hs3]; exact HB2.out.size) hgw hcap hnew hcs)
            have HB5 := Aside0.mk (HB4.out.setCell (p := ⟨g, 39, none⟩) hlo (.slice (some ⟨W3.heap.size, 0, none⟩) (valOf 4).length (grownCap W3 (ByteArray.mk (valOf 4).toArray).size 0 5)))
            clear hbw hnew hs3 BS4 hrep hcs hcap BSM HB2 HB4
            generalize Lib.bytesWorld W3 5 _ = W4 at *
            go_wp2
            go_roundg 4
            case measure => omega
            case rel => exact ⟨4, rfl, by omega, rfl, ⟨_, _, (by rw [HTR1.out]; exact BS5.out.congr HTR3.out)⟩, HB5⟩
    | succ k1 =>
      obtain ⟨c0, c1⟩ := HR.out j (by omega)
      obtain rfl | rfl | rfl | rfl | rfl : j = 0 ∨ j = 1 ∨ j = 2 ∨ j = 3 ∨ j = 4 := by omega
      all_goals
        simp only [Nat.reduceMul, Nat.reduceAdd, keyOf, valOf] at c0 c1
        go_wp2
        go_roundg k1
        case measure => omega
        case rel => first | exact ⟨1, by omega, rfl, by go_num, rfl⟩ | exact ⟨2, by omega, rfl, by go_num, rfl⟩ | exact ⟨3, by omega, rfl, by go_num, rfl⟩ | exact ⟨4, by omega, rfl, by go_num, rfl⟩ | exact ⟨5, by omega, rfl, by go_num, rfl⟩
end Go.Proofs.YtllgcpoljdjjnaaGreat.Pg
