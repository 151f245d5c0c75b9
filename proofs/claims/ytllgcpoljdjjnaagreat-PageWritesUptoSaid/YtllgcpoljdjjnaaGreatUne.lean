/- page.unescaped: the walk. -/
import Derived.Test.YtllgcpoljdjjnaaGreatEsp
set_option linter.unusedVariables false
set_option linter.unusedSimpArgs false
namespace Go.Proofs.YtllgcpoljdjjnaaGreat.Pg
open Go.RowKit Go.Proofs.YtllgcpoljdjjnaaGreatW.PrintWords Go.Proofs.YtllgcpoljdjjnaaGreatW.PrintLast Go.Proofs.YtllgcpoljdjjnaaGreatW.PrintMore

/-- The first of the five whose escape stands at the head, from place j on. -/
def unesc (l : List UInt8) (j : Nat) : Option Nat := if j < 5 then (if (valOf j).isPrefixOf l then some j else unesc l (j + 1)) else none
termination_by 5 - j
def unescV (l : List UInt8) : Value := match unesc l 0 with
  | some i => .tuple #[.string ⟨#[keyOf i]⟩, .string ⟨(l.drop (valOf i).length).toArray⟩, .bool true]
  | none => .tuple #[.string ⟨#[]⟩, .string ⟨#[]⟩, .bool false]
theorem unesc_hit (l : List UInt8) (j : Nat) (hj : j < 5) (h : (valOf j).isPrefixOf l = true) : unesc l j = some j := by
  rw [unesc, if_pos hj, if_pos h]
theorem unesc_step (l : List UInt8) (j : Nat) (hj : j < 5) (h : (valOf j).isPrefixOf l = false) : unesc l j = unesc l (j + 1) := by
  rw [unesc, if_pos hj, if_neg (by rw [h]; decide)]
theorem unesc_end (l : List UInt8) : unesc l 5 = none := by
  rw [unesc, if_neg (by omega)]
theorem rowV_even (j : Nat) (h : j < 5) : rowV[2 * j]? = some (.string ⟨#[keyOf j]⟩) := by
  match j, h with
  | 0, _ => rfl
  | 1, _ => rfl
  | 2, _ => rfl
  | 3, _ => rfl
  | 4, _ => rfl
theorem rowV_odd (j : Nat) (h : j < 5) : rowV[2 * j + 1]? = some (.string ⟨(valOf j).toArray⟩) := by
  match j, h with
  | 0, _ => rfl
  | 1, _ => rfl
  | 2, _ => rfl
  | 3, _ => rfl
  | 4, _ => rfl
set_option maxRecDepth 100000 in
set_option maxHeartbeats 2000000 in
theorem unescaped_calls (l : List UInt8) (w : World) :
    Calls Tryz.prog 36 #[.string ⟨l.toArray⟩] w fun e w' => e = .returned (unescV l) ∧ Below w.heap.size w w' := by
  go_enter Tryz.func36, Tryz.ntmps36
  go_wp2_with fail
  refine (escapes_calls _).mono ?_
  rintro e w1 ⟨rfl, hw⟩
  have h1 := Aside0.mk (show w1.heap[w.heap.size]? = some (.cells rowV 9 (0, 0)) by rw [hw]; exact blk_new w _)
  have HB1 := Aside0.mk (show Below w.heap.size w w1 by rw [hw]; exact below_alloc (Below.refl _ _) _)
  clear hw
  go_wp2
  go_loopg [6, 7, 8] 5 (fun kq v6 v7 v8 w2 => ∃ (j : Nat), j + kq = 5 ∧ v6 = .int .i64 ((2 * j : Nat) : Int) ∧ unesc l 0 = unesc l j ∧ w1 = w2)
  case atStart => exact ⟨0, by simp, rfl, rfl, rfl⟩
  case round =>
    obtain ⟨j, hj, rfl, hu, rfl⟩ := hrel
    have HU := Aside0.mk hu
    clear hu
    cases gk with
    | zero =>
      obtain rfl : j = 5 := by omega
      go_wp2
      go_ret3
      exact ⟨by unfold unescV; rw [HU.out, unesc_end]; rfl, HB1.out⟩
    | succ k1 =>
      have hj5 : j < 5 := by omega
      have hlt : ((2 * j : Nat) : Int) < 10 := by omega
      have c0 : w1.cell? ⟨w.heap.size, 2 * j, none⟩ = some (.string ⟨#[keyOf j]⟩) := (blk_cell h1.out _).trans (rowV_even j hj5)
      have c1 : w1.cell? ⟨w.heap.size, 2 * j + 1, none⟩ = some (.string ⟨(valOf j).toArray⟩) := (blk_cell h1.out _).trans (rowV_odd j hj5)
      cases hp : (valOf j).isPrefixOf l with
      | false =>
        have hpp : Lib.hasPrefix l (valOf j) = false := hp
        go_wp2_with (go_at_call 44; refine (Tryz.strings_CutPrefix _ _ _).mono ?_; rintro e w' ⟨rfl, hw⟩; rw [hw]; clear hw w')
        go_roundg k1
        case measure => omega
        case rel => exact ⟨j + 1, by omega, by go_num, by rw [HU.out, unesc_step l j hj5 hp], rfl⟩
      | true =>
        have hpp : Lib.hasPrefix l (valOf j) = true := hp
        go_wp2_with (go_at_call 44; refine (Tryz.strings_CutPrefix _ _ _).mono ?_; rintro e w' ⟨rfl, hw⟩; rw [hw]; clear hw w')
        go_ret3
        refine ⟨?_, HB1.out⟩
        unfold unescV
        rw [HU.out, unesc_hit l j hj5 hp]
        unfold Lib.trimPrefix
        rw [if_pos hpp]
        rfl
end Go.Proofs.YtllgcpoljdjjnaaGreat.Pg
