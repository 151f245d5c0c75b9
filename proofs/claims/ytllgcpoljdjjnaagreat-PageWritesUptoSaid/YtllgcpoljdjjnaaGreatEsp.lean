/- page.escapes, strings.NewReplacer, (*strings.Replacer).Replace, page.Escape: the walks. -/
import Derived.Test.YtllgcpoljdjjnaaGreatBsr
set_option linter.unusedVariables false
set_option linter.unusedSimpArgs false
namespace Go.Proofs.YtllgcpoljdjjnaaGreat.Pg
open Go.RowKit Go.Proofs.YtllgcpoljdjjnaaGreatW.PrintWords Go.Proofs.YtllgcpoljdjjnaaGreatW.PrintLast Go.Proofs.YtllgcpoljdjjnaaGreatW.PrintMore

def rowV : Array Value := (rowS.map Value.string).toArray
set_option maxRecDepth 100000 in
set_option maxHeartbeats 2000000 in
theorem escapes_calls (w : World) :
    Calls Tryz.prog 23 #[] w fun e w' => e = .returned (.slice (some ⟨w.heap.size, 0, none⟩) 10 10) ∧ w' = w.alloc (.cells rowV 9) := by
  go_enter Tryz.func23, Tryz.ntmps23
  go_wp2
  go_ret
  exact ⟨rfl, rfl⟩

theorem row_ten {w : World} {B : Nat} {v : Value} (h : w.ownsRow B 9 1 v (0 + 10) ([] ++ rowV.toList)) : ∃ r cp, v = .slice (some ⟨r, 0, none⟩) 10 cp ∧ B ≤ r ∧ r < w.heap.size ∧ ∀ j, j < 5 → w.cell? ⟨r, 2 * j, none⟩ = some (.string ⟨#[keyOf j]⟩) ∧ w.cell? ⟨r, 2 * j + 1, none⟩ = some (.string ⟨(valOf j).toArray⟩) := by
  have hb := fun k hk => own_base h k hk
  have hlt := fun k hk => own_lt h k hk
  obtain ⟨_, h⟩ := h
  rcases h with ⟨_, h5⟩ | ⟨g1, cap1, cur, hv, _, hg1, _, _, _, htk⟩
  · cases h5
  · refine ⟨g1, cap1, hv, hb g1 (by rw [hv]; rfl), hlt g1 (by rw [hv]; rfl), ?_⟩
    have q : ∀ t, t < 10 → w.cell? ⟨g1, t, none⟩ = rowV[t]? := fun t ht => by
      rw [blk_cell hg1]
      have e : cur[t]? = (cur.toList.take ((0 + 10) * 1))[t]? := by rw [List.getElem?_take_of_lt (by omega)]; simp
      rw [e, htk]
      simp
    intro j hj
    rw [q (2 * j) (by omega), q (2 * j + 1) (by omega)]
    match j, hj with
    | 0, _ => exact ⟨rfl, rfl⟩
    | 1, _ => exact ⟨rfl, rfl⟩
    | 2, _ => exact ⟨rfl, rfl⟩
    | 3, _ => exact ⟨rfl, rfl⟩
    | 4, _ => exact ⟨rfl, rfl⟩
set_option maxRecDepth 100000 in
set_option maxHeartbeats 2000000 in
theorem New_calls (r c : Nat) (w : World) (hr : w.heap[r]? = some (.cells rowV 9 (0, 0))) :
    Calls Tryz.prog 22 #[.slice (some ⟨r, 0, none⟩) 10 c] w fun e w' => ∃ p r2 cp, e = .returned (.pointer (some ⟨p, 0, none⟩)) ∧ w'.heap[p]? = some (.cells #[.int .u32 0, .int .i32 0, .int .u32 0, .nilIface, .slice (some ⟨r2, 0, none⟩) 10 cp] 77 (0, 0)) ∧
      (∀ j, j < 5 → w'.cell? ⟨r2, 2 * j, none⟩ = some (.string ⟨#[keyOf j]⟩) ∧ w'.cell? ⟨r2, 2 * j + 1, none⟩ = some (.string ⟨(valOf j).toArray⟩)) ∧ r2 ≠ p ∧ w.heap.size ≤ p ∧ Below w.heap.size w w' := by
  have HR := Aside0.mk hr
  clear hr
  go_enter Tryz.func22, Tryz.ntmps22
  go_wp2_with (at_builtin; refine Hid.out ?_)
  refine Lib.hid ?_
  obtain ⟨i0, hi, hz0, hz1, hz2⟩ := info_parts infoS
  refine wpList_append_own _ rfl _ _ 23 rfl w.heap.size 9 i0 (.string ⟨#[]⟩) 1 16 Tryz.underlying23 hi hz0 hz1 hz2 rfl (by decide) (.slice none 0 0) 0 [] rfl (World.ownsRow_nil _ _ _ _) ⟨r, 0, none⟩ 10 c rowV.toList rfl rfl (fun j v hv => by
    have e : (⟨r, 0, none⟩ : Addr).add j = ⟨r, j, none⟩ := by unfold Addr.add; split <;> simp_all
    rw [e, blk_cell HR.out, ← hv, Array.getElem?_toList]) (by simp [rowV, rowS, Value.oneCell']) (by simp only [maxLen]; omega) (by omega) (Nat.le_refl _) ?_
  intro v' w2 hown' hg' hnil
  obtain ⟨r2, cp, hv, hlo, hcell⟩ := row_ten hown'
  subst hv
  have HG := Aside0.mk hg'
  have HC := Aside0.mk hcell
  have HO := Aside0.mk hown'
  clear hown' hg' hnil hi hz0 hz1 hz2 hcell
  go_wp2
  go_ret
  refine ⟨w2.heap.size, r2, cp, rfl, ?_, ?_, ?_, ?_, ?_⟩
  · exact blk_new w2 _
  · intro j hj
    have h := HC.out.2 j hj
    have hlt := HC.out.1
    exact ⟨(World.cell?_alloc_lt _ _ (a := ⟨r2, 2 * j, none⟩) hlt).trans h.1, (World.cell?_alloc_lt _ _ (a := ⟨r2, 2 * j + 1, none⟩) hlt).trans h.2⟩
  · have := HC.out.1
    omega
  · exact HG.out.size
  · exact below_alloc ((Below.refl _ _).grown HG.out (Nat.le_refl _) (fun k hk => by cases hk)) _

set_option maxRecDepth 100000 in
set_option maxHeartbeats 2000000 in
theorem RReplace_calls (p r cp : Nat) (l : List UInt8) (w : World) (hp : w.heap[p]? = some (.cells #[.int .u32 0, .int .i32 0, .int .u32 0, .nilIface, .slice (some ⟨r, 0, none⟩) 10 cp] 77 (0, 0)))
    (hr : ∀ j, j < 5 → w.cell? ⟨r, 2 * j, none⟩ = some (.string ⟨#[keyOf j]⟩) ∧ w.cell? ⟨r, 2 * j + 1, none⟩ = some (.string ⟨(valOf j).toArray⟩)) (hrp : r ≠ p) (hl : l.length ≤ 1000000000000) :
    Calls Tryz.prog 24 #[.pointer (some ⟨p, 0, none⟩), .string ⟨l.toArray⟩] w fun e w' => e = .returned (.string ⟨(escL l).toArray⟩) ∧ Below p w w' := by
  have HP := Aside0.mk hp
  have HR := Aside0.mk hr
  have HPL := Aside0.mk (blk_lt hp)
  clear hp hr
  go_enter Tryz.func24, Tryz.ntmps24
  go_wp2_with fail
  refine (Do_calls p r cp _ HP.out HR.out hrp).mono ?_
  rintro e w1 ⟨rfl, g, hp1, hbs, hb⟩
  have c3 : w1.cell? ⟨p, 3, none⟩ = some (ifaceOf g) := blk_cell hp1 3
  have HBS := Aside0.mk hbs
  have HB := Aside0.mk hb
  clear hp1 hbs hb
  unfold ifaceOf at c3
  have hm : ∀ (n : Nat) (w : World), (method (n + 1) 111 (.pointer (some ⟨g, 0, none⟩)) "Replace").run Tryz.prog w = .ok (114, .pointer (some ⟨g, 0, none⟩)) w := fun _ _ => by kernel_rfl
  go_wp2_with fail
  refine (Replace_calls _ g l w1 HBS.out hl).mono ?_
  rintro e w2 ⟨rfl, h2⟩
  have H2 := Aside0.mk h2
  clear h2
  go_wp2
  go_ret
  have := HB.out.size
  have := HPL.out
  exact ⟨rfl, HB.out.trans (H2.out.mono (by omega))⟩

set_option maxRecDepth 100000 in
set_option maxHeartbeats 2000000 in
theorem Escape_calls (l : List UInt8) (w : World) (hl : l.length ≤ 1000000000000) :
    Calls Tryz.prog 12 #[.string ⟨l.toArray⟩] w fun e w' => e = .returned (.string ⟨(escL l).toArray⟩) ∧ Below w.heap.size w w' := by
  go_enter Tryz.func12, Tryz.ntmps12
  go_wp2_with fail
  refine (escapes_calls _).mono ?_
  rintro e w1 ⟨rfl, hw⟩
  have h1 := Aside0.mk (show w1.heap[w.heap.size]? = some (.cells rowV 9 (0, 0)) by rw [hw]; exact blk_new w _)
  have HB1 := Aside0.mk (show Below w.heap.size w w1 by rw [hw]; exact below_alloc (Below.refl _ _) _)
  clear hw
  go_wp2_with fail
  refine (New_calls w.heap.size 10 w1 h1.out).mono ?_
  rintro e w2 ⟨p, r2, cp, rfl, hp, hr, hrp, hlo, hb⟩
  have HP := Aside0.mk hp
  have HR := Aside0.mk hr
  have HB := Aside0.mk hb
  have HL := Aside0.mk hlo
  clear hp hr hb hlo
  go_wp2_with fail
  refine (RReplace_calls p r2 cp l _ HP.out HR.out hrp hl).mono ?_
  rintro e w3 ⟨rfl, h3⟩
  have H3 := Aside0.mk h3
  clear h3
  go_wp2
  go_ret
  have := HB1.out.size
  have := HL.out
  exact ⟨rfl, (HB1.out.trans (HB.out.mono HB1.out.size)).trans (H3.out.mono (by omega))⟩
end Go.Proofs.YtllgcpoljdjjnaaGreat.Pg
