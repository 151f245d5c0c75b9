/- page.Escape: the walk. -/
import Derived.Test.YtllgcpoljdjjnaaGreatRep
set_option linter.unusedVariables false
set_option linter.unusedSimpArgs false
namespace Go.Proofs.YtllgcpoljdjjnaaGreat.Pg
open Go.RowKit Go.Proofs.YtllgcpoljdjjnaaGreatW.PrintWords Go.Proofs.YtllgcpoljdjjnaaGreatW.PrintLast Go.Proofs.YtllgcpoljdjjnaaGreatW.PrintMore

section
variable {B : Nat} {w w' : World} {g : Nat} {f : Nat → Option (List UInt8)} {tr : List ByteArray} {cells : Array Value} {v : Value}
theorem BSv.move (h : BSv B w g f tr cells v) (hm : ∀ k, B ≤ k → k < w.heap.size → w'.heap[k]? = w.heap[k]?) : BSv B w' g f tr cells v := by
  refine ⟨h.lo, (hm g h.lo (blk_lt h.blk)).trans h.blk, h.size, h.last, own_move h.row (fun k hk => hm k (own_base h.row k hk) (own_lt h.row k hk)), fun b hb' => ?_⟩
  have := h.rep b hb'
  cases hf : f b with
  | none => rw [hf] at this; exact this
  | some l =>
    rw [hf] at this
    obtain ⟨rb, cap, h1, h2, h3, cs, fz, h4, h5⟩ := this
    exact ⟨rb, cap, h1, h2, h3, cs, fz, (hm rb h3 (blk_lt h4)).trans h4, h5⟩
theorem BSv.lower (h : BSv B w g f tr cells v) {B' : Nat} (hb : B' ≤ B) : BSv B' w g f tr cells v := by
  refine ⟨Nat.le_trans hb h.lo, h.blk, h.size, h.last, own_weaken h.row hb, fun b hb' => ?_⟩
  have := h.rep b hb'
  cases hf : f b with
  | none => rw [hf] at this; exact this
  | some l =>
    rw [hf] at this
    obtain ⟨rb, cap, h1, h2, h3, hr⟩ := this
    exact ⟨rb, cap, h1, h2, Nat.le_trans hb h3, hr⟩
end

def five : List ByteArray := [⟨#[39]⟩, ⟨#[34]⟩, ⟨#[62]⟩, ⟨#[60]⟩, ⟨#[38]⟩]
def ifaceOf (g : Nat) : Value := .iface 111 (.pointer (some ⟨g, 0, none⟩))

set_option maxRecDepth 100000 in
set_option maxHeartbeats 2000000 in
theorem buildOnce_calls (p r cp : Nat) (x0 x1 x2 : Value) (w : World) (hp : w.heap[p]? = some (.cells #[x0, x1, x2, .nilIface, .slice (some ⟨r, 0, none⟩) 10 cp] 77 (0, 0)))
    (hr : ∀ j, j < 5 → w.cell? ⟨r, 2 * j, none⟩ = some (.string ⟨#[keyOf j]⟩) ∧ w.cell? ⟨r, 2 * j + 1, none⟩ = some (.string ⟨(valOf j).toArray⟩)) :
    Calls Tryz.prog 39 #[.pointer (some ⟨p, 0, none⟩)] w fun e w' => e = .returned (.tuple #[]) ∧ ∃ g, w'.heap[p]? = some (.cells #[x0, x1, x2, ifaceOf g, .slice none 0 0] 77 (0, 0)) ∧ BS w.heap.size w' g (repOf 0) five ∧ Below p w w' := by
  have HP := Aside0.mk hp
  have c4 : w.cell? ⟨p, 4, none⟩ = some (.slice (some ⟨r, 0, none⟩) 10 cp) := blk_cell hp 4
  have hplt := blk_lt hp
  go_enter Tryz.func39, Tryz.ntmps39
  go_wp2_with fail
  refine (build_calls p r cp w c4 hr).mono ?_
  rintro e w1 ⟨g, rfl, hbs, hb⟩
  have hp1 := (hb.block p hplt).trans hp
  have HBS := Aside0.mk hbs
  have HB := Aside0.mk hb
  have hp2 := blk_put hp1 3 (ifaceOf g) rfl
  have d3 : w1.cell? ⟨p, 3, none⟩ = some .nilIface := blk_cell hp1 3
  have f3 := blk_frozen hp1 3
  have d4 : (w1.setCell ⟨p, 3, none⟩ (ifaceOf g)).cell? ⟨p, 4, none⟩ = some (.slice (some ⟨r, 0, none⟩) 10 cp) := blk_cell hp2 4
  have f4 := blk_frozen hp2 4
  have HP2 := Aside0.mk hp2
  clear hbs hb hp hp1 hp2 c4 hr
  unfold ifaceOf at d4 f4
  go_wp2
  go_end0
  refine ⟨rfl, g, blk_put HP2.out 4 (.slice none 0 0) rfl, ?_, ?_⟩
  · obtain ⟨cells, v, h⟩ := HBS.out
    have hne : ∀ k, w.heap.size ≤ k → k ≠ p := fun k hk => by omega
    exact ⟨cells, v, h.move (fun k hk _ => by rw [Below.heap_setCell _ _ _ _ (hne k hk), Below.heap_setCell _ _ _ _ (hne k hk)])⟩
  · exact ((HB.out.mono (show p ≤ w.heap.size by omega)).setCell (p := ⟨p, 3, none⟩) (Nat.le_refl _) _).setCell (p := ⟨p, 4, none⟩) (Nat.le_refl _) _

theorem load_zero (b : Nat) (w : World) (hc : w.cell? ⟨b, 0, none⟩ = some (.int .u32 0)) :
    Calls Tryz.prog 46 #[.pointer (some ⟨b, 0, none⟩)] w fun e w' => e = .returned (.bool false) ∧ w' = w := by
  have hl := run_call_load (P := Tryz.prog) Tryz.func54 (by kernel_rfl) (by kernel_rfl) (by kernel_rfl) .u32 (by kernel_rfl) (w := w) (a := ⟨b, 0, none⟩) (x := 0) hc
  go_enter Tryz.func46, Tryz.ntmps46
  go_wp2
  go_ret
  exact ⟨rfl, rfl⟩

set_option maxRecDepth 100000 in
set_option maxHeartbeats 2000000 in
theorem doSlow_calls (p r cp : Nat) (w : World) (hp : w.heap[p]? = some (.cells #[.int .u32 0, .int .i32 0, .int .u32 0, .nilIface, .slice (some ⟨r, 0, none⟩) 10 cp] 77 (0, 0)))
    (hr : ∀ j, j < 5 → w.cell? ⟨r, 2 * j, none⟩ = some (.string ⟨#[keyOf j]⟩) ∧ w.cell? ⟨r, 2 * j + 1, none⟩ = some (.string ⟨(valOf j).toArray⟩)) (hrp : r ≠ p) :
    Calls Tryz.prog 47 #[.pointer (some ⟨p, 0, none⟩), .func (.func 39) #[.pointer (some ⟨p, 0, none⟩)] #[]] w fun e w' => e = .returned (.tuple #[]) ∧
      ∃ g, w'.heap[p]? = some (.cells #[.int .u32 1, .int .i32 0, .int .u32 0, ifaceOf g, .slice none 0 0] 77 (0, 0)) ∧ BS w.heap.size w' g (repOf 0) five ∧ Below p w w' := by
  have HP := Aside0.mk hp
  have hplt := blk_lt hp
  have hp1 := blk_put hp 1 (.int .i32 1) rfl
  have c1 : w.cell? ⟨p, 1, none⟩ = some (.int .i32 0) := blk_cell hp 1
  have f1 := blk_frozen hp 1
  have hnot : ∀ (x : Bool) (w : World), (Op.unary .not (.bool x)).run Tryz.prog w = .ok (.bool (!x)) w := fun _ _ => rfl
  go_enter_defers Tryz.func47, Tryz.ntmps47
  go_wp2_with (go_at_call 55; refine (lock_free ⟨p, 1, none⟩ _ c1 f1).mono ?_; rintro e w' ⟨rfl, rfl⟩)
  have HP1 := Aside0.mk hp1
  have c0 : (w.setCell ⟨p, 1, none⟩ (.int .i32 1)).cell? ⟨p, 0, none⟩ = some (.int .u32 0) := blk_cell hp1 0
  refine (load_zero p _ c0).mono ?_
  rintro e w' ⟨rfl, rfl⟩
  have hr1 : ∀ j, j < 5 → (w.setCell ⟨p, 1, none⟩ (.int .i32 1)).cell? ⟨r, 2 * j, none⟩ = some (.string ⟨#[keyOf j]⟩) ∧ (w.setCell ⟨p, 1, none⟩ (.int .i32 1)).cell? ⟨r, 2 * j + 1, none⟩ = some (.string ⟨(valOf j).toArray⟩) := fun j hj => by
    have := hr j hj
    exact ⟨(World.cell?_setCell_other _ ⟨p, 1, none⟩ ⟨r, 2 * j, none⟩ _ (fun h => hrp (congrArg Addr.block h).symm)).trans this.1, (World.cell?_setCell_other _ ⟨p, 1, none⟩ ⟨r, 2 * j + 1, none⟩ _ (fun h => hrp (congrArg Addr.block h).symm)).trans this.2⟩
  have HR1 := Aside0.mk hr1
  have HB1 := Aside0.mk ((Below.refl p w).setCell (p := ⟨p, 1, none⟩) (Nat.le_refl _) (.int .i32 1))
  have hsz : (w.setCell ⟨p, 1, none⟩ (.int .i32 1)).heap.size = w.heap.size := by simp [World.setCell]
  clear hr1 hr hp hp1 c0 c1 f1 HP
  generalize (w.setCell ⟨p, 1, none⟩ (.int .i32 1)) = W1 at *
  go_wp2_with fail
  refine (buildOnce_calls p r cp _ _ _ W1 HP1.out HR1.out).mono ?_
  rintro e W2 ⟨rfl, g, hp2, hbs, hb2⟩
  have HP2 := Aside0.mk hp2
  have HBS := Aside0.mk hbs
  have HB2 := Aside0.mk hb2
  clear hp2 hbs hb2
  go_wp2
  refine leaves_cons (f := 57) (args := #[.pointer (some ⟨p, 0, none⟩), .bool true]) (by simp) (by simp [go_sem]) ?_
  refine (store_deferred ⟨p, 0, none⟩ (.int .u32 0) .returning _ (blk_cell HP2.out 0) (blk_frozen HP2.out 0)).mono ?_
  rintro e u' w'' ⟨rfl, rfl, rfl⟩
  refine leaves_cons (f := 56) (args := #[.pointer (some ⟨p, 1, none⟩)]) (by simp [settle]) (by simp [go_sem]) ?_
  have hp3 : (W2.drew.setCell ⟨p, 0, none⟩ (.int .u32 1)).heap[p]? = some (.cells #[.int .u32 1, .int .i32 1, .int .u32 0, ifaceOf g, .slice none 0 0] 77 (0, 0)) := blk_put (w := W2.drew) HP2.out 0 _ rfl
  refine (unlock_deferred ⟨p, 1, none⟩ _ _ (blk_cell hp3 1) (blk_frozen hp3 1)).mono ?_
  rintro e u' w'' ⟨rfl, rfl, rfl⟩
  refine ⟨.tuple #[], by simp [results, Tryz.results47], rfl, g, blk_put hp3 1 (.int .i32 0) rfl, ?_, ?_⟩
  · obtain ⟨cells, v, h⟩ := HBS.out
    rw [hsz] at h
    have hne : ∀ k, w.heap.size ≤ k → k ≠ p := fun k hk => by omega
    exact ⟨cells, v, h.move (fun k hk _ => by rw [Below.heap_setCell _ _ _ _ (hne k hk), Below.heap_setCell _ _ _ _ (hne k hk)]; rfl)⟩
  · exact (((HB1.out.trans HB2.out).drew).setCell (p := ⟨p, 0, none⟩) (Nat.le_refl _) _).setCell (p := ⟨p, 1, none⟩) (Nat.le_refl _) _

set_option maxRecDepth 100000 in
set_option maxHeartbeats 2000000 in
theorem Do_calls (p r cp : Nat) (w : World) (hp : w.heap[p]? = some (.cells #[.int .u32 0, .int .i32 0, .int .u32 0, .nilIface, .slice (some ⟨r, 0, none⟩) 10 cp] 77 (0, 0)))
    (hr : ∀ j, j < 5 → w.cell? ⟨r, 2 * j, none⟩ = some (.string ⟨#[keyOf j]⟩) ∧ w.cell? ⟨r, 2 * j + 1, none⟩ = some (.string ⟨(valOf j).toArray⟩)) (hrp : r ≠ p) :
    Calls Tryz.prog 38 #[.pointer (some ⟨p, 0, none⟩), .func (.func 39) #[.pointer (some ⟨p, 0, none⟩)] #[]] w fun e w' => e = .returned (.tuple #[]) ∧
      ∃ g, w'.heap[p]? = some (.cells #[.int .u32 1, .int .i32 0, .int .u32 0, ifaceOf g, .slice none 0 0] 77 (0, 0)) ∧ BS w.heap.size w' g (repOf 0) five ∧ Below p w w' := by
  have HP := Aside0.mk hp
  have HR := Aside0.mk hr
  have c0 : w.cell? ⟨p, 0, none⟩ = some (.int .u32 0) := blk_cell hp 0
  clear hp hr
  have hnot : ∀ (x : Bool) (w : World), (Op.unary .not (.bool x)).run Tryz.prog w = .ok (.bool (!x)) w := fun _ _ => rfl
  go_enter Tryz.func38, Tryz.ntmps38
  go_wp2_with fail
  refine (load_zero p _ c0).mono ?_
  rintro e w' ⟨rfl, rfl⟩
  go_wp2_with fail
  refine (doSlow_calls p r cp _ HP.out HR.out hrp).mono ?_
  rintro e w' ⟨rfl, h⟩
  have H := Aside0.mk h
  clear h
  go_wp2
  go_end0
  exact ⟨rfl, H.out⟩
end Go.Proofs.YtllgcpoljdjjnaaGreat.Pg
