/- LexBack: the walk. -/
import Derived.Test.YtidkjiglmfhjpaaDoorLxE
import Derived.Test.YtidkjiglmfhjpaaDoorLxL3
set_option linter.unusedVariables false
set_option linter.unusedSimpArgs false
namespace Go.Proofs.YtidkjiglmfhjpaaDoor.Lx
open Go.RowKit Go.Proofs.YtidkjiglmfhjpaaDoorW.PrintWords Go.Proofs.YtidkjiglmfhjpaaDoorW.PrintLast Go.Proofs.YtidkjiglmfhjpaaDoorW.PrintMore
open Go.Proofs.YtidkjiglmfhjpaaDoor.PS

set_option maxRecDepth 100000 in
set_option maxHeartbeats 4000000 in
theorem LexBack_calls (A : Option Addr) (c : Nat) (l : List S33) (w : World) (hC : Kd.C k33 w A l.length l) (hc : l.length ≤ c) (hl : ToksOk l) (htab : LW w) :
    Calls Tryd.prog 7 #[.slice A l.length c] w fun e w' => e = .returned (.bool true) ∧ Below w.heap.size w w' := by
  have HT := Aside0.mk htab
  have HC := Aside0.mk hC
  have HL := Aside0.mk hl
  clear htab hC hl
  cases hj : joinF false (l.map toJ) with
  | none =>
    have hjf : lex_Join.f 0 l = some (⟨#[]⟩, 1) := by
      unfold lex_Join.f joinA
      rw [toksOk_join HL.out, hj]
      rfl
    have HJ := Aside0.mk hjf
    clear hjf hj
    go_enter Tryd.func7, Tryd.ntmps7
    go_wp2_with fail
    refine (assizelaw01_alive.calls 0 true _ (alive_pure 0) HT.out).mono ?_
    rintro e w1 ⟨rfl, h1⟩
    have B1 := Aside0.mk h1
    clear h1
    go_wp2_with fail
    refine (lex_Join.calls 0 A c l _ _ _ (Kd.C_below HC.out B1.out) hc HJ.out (HT.out.below B1.out)).mono ?_
    rintro e w2 ⟨rfl, h2⟩
    have B2 := Aside0.mk (B1.out.trans (h2.mono B1.out.size))
    clear h2
    go_wp2
    go_ret
    exact ⟨rfl, B2.out⟩
  | some o =>
    have hjf : lex_Join.f 0 l = some (toB o, 0) := by
      unfold lex_Join.f joinA
      rw [toksOk_join HL.out, hj]
      rfl
    have HJ := Aside0.mk hjf
    have HJF := Aside0.mk hj
    clear hjf hj
    obtain ⟨ts, cd, p, hts⟩ : ∃ ts cd p, tokensR o = (ts, cd, p) := ⟨_, _, _, rfl⟩
    have HTS := Aside0.mk hts
    clear hts
    have hso : (toB o).size = o.length := size_toB o
    by_cases q1 : 65536 < o.length
    · have hcd : cd = 2 ∧ ts = [] := by
        have := HTS.out
        unfold tokensR at this
        rw [if_pos q1] at this
        cases this
        exact ⟨rfl, rfl⟩
      obtain ⟨rfl, rfl⟩ := hcd
      have q1z : (65536 : Int) < (o.length : Int) := by omega
      clear q1
      go_enter Tryd.func7, Tryd.ntmps7
      go_wp2_with fail
      refine (assizelaw01_alive.calls 0 true _ (alive_pure 0) HT.out).mono ?_
      rintro e w1 ⟨rfl, h1⟩
      have B1 := Aside0.mk h1
      clear h1
      go_wp2_with fail
      refine (lex_Join.calls 0 A c l _ _ _ (Kd.C_below HC.out B1.out) hc HJ.out (HT.out.below B1.out)).mono ?_
      rintro e w2 ⟨rfl, h2⟩
      have B2 := Aside0.mk (B1.out.trans (h2.mono B1.out.size))
      clear h2
      go_wp2_with fail
      refine (toks_calls (toB o) _ (HT.out.below B2.out)).mono ?_
      rintro e w3 ⟨A', c', he, h1, h2, h3⟩
      rw [data_toB, HTS.out] at he h1 h2
      subst he
      have B3 := Aside0.mk (B2.out.trans (h3.mono B2.out.size))
      clear h1 h2 h3
      go_wp2
      go_ret
      exact ⟨rfl, by first | exact B3.out | exact B3.out.alloc B3.out.size _⟩
    · obtain ⟨ts', e1, hbare⟩ := tokensR_join (l.map toJ) o (fun x hx => by
        obtain ⟨y, hy, rfl⟩ := List.mem_map.1 hx
        exact (HL.out.2 y hy).2.1) HJF.out (by omega)
      obtain ⟨rfl, rfl, rfl⟩ : ts' = ts ∧ 0 = cd ∧ 0 = p := by
        have := e1.symm.trans HTS.out
        injection this with g1 g2
        injection g2 with g2 g3
        exact ⟨g1, g2, g3⟩
      have hpos : ∀ x ∈ l, 0 ≤ x.f0 := fun x hx => by
        have := written_pos (joinF_mem _ _ _ HJF.out (toJ x) (List.mem_map.2 ⟨x, hx, rfl⟩))
        have h2 : (toJ x).k = x.f0 := rfl
        omega
      have hbs := Aside0.mk (bare_same hbare (fun x hx => ((tokensR_ok HTS.out).1 x hx).1.2.2.1) hpos)
      have hlen : ts'.length = l.length := by
        have := congrArg List.length hbare
        simpa using this
      have hq : ¬ (65536 : Int) < (o.length : Int) := by omega
      have hll := HL.out.1
      clear q1 hbare e1 hpos
      go_enter Tryd.func7, Tryd.ntmps7
      go_wp2_with fail
      refine (assizelaw01_alive.calls 0 true _ (alive_pure 0) HT.out).mono ?_
      rintro e w1 ⟨rfl, h1⟩
      have B1 := Aside0.mk h1
      clear h1
      go_wp2_with fail
      refine (lex_Join.calls 0 A c l _ _ _ (Kd.C_below HC.out B1.out) hc HJ.out (HT.out.below B1.out)).mono ?_
      rintro e w2 ⟨rfl, h2⟩
      have B2 := Aside0.mk (B1.out.trans (h2.mono B1.out.size))
      clear h2
      go_wp2_with fail
      refine (toks_calls (toB o) _ (HT.out.below B2.out)).mono ?_
      rintro e w3 ⟨A', c', he, h1, h2, h3⟩
      rw [data_toB, HTS.out] at he h1 h2
      subst he
      have B3 := Aside0.mk (B2.out.trans (h3.mono B2.out.size))
      have C3 := Aside0.mk h2
      clear h1 h2 h3
      go_wp2_with fail
      have hb := bare_calls (ts'.map toS) A' c' (w3.alloc (.cells #[.int .i64 0, .int .i64 0] 26)) (Kd.C_alloc C3.out _) (by rw [List.length_map]; omega)
      rw [List.length_map, hlen] at hb
      refine hb.mono ?_
      rintro e w4 ⟨v, rfl, hR, h4⟩
      clear hb
      obtain ⟨A4, c4, rfl⟩ := Kd.R_slice hR
      obtain ⟨g1, g2, g3⟩ := Kd.R_reads' hR
      rw [List.length_map, List.length_map] at g1 g2
      have h4' : Below w3.heap.size w3 w4 := ((Below.refl _ _).alloc (Nat.le_refl _) _).trans (h4.mono (by simp))
      have B4 := Aside0.mk (B3.out.trans (h4'.mono B3.out.size))
      have C4 := Aside0.mk g3
      have L4 : ts'.length ≤ c4 := g2
      clear hR g1 g2 g3 h4 h4'
      go_wp2_with fail
      have hb := bare_calls l A c _ (Kd.C_below HC.out B4.out) (by omega)
      refine hb.mono ?_
      rintro e w5 ⟨v, rfl, hR, h5⟩
      clear hb
      obtain ⟨A5, c5, rfl⟩ := Kd.R_slice hR
      obtain ⟨g1, g2, g3⟩ := Kd.R_reads' hR
      rw [List.length_map] at g1 g2
      have B5 := Aside0.mk (B4.out.trans (h5.mono B4.out.size))
      have C4' := Aside0.mk (Kd.C_below C4.out h5)
      have C5 := Aside0.mk g3
      have L5 : l.length ≤ c5 := g2
      clear hR g1 g2 g3 h5
      go_wp2_with fail
      have D4 := C4'.out
      rw [hbs.out] at D4
      have hsm := assizelaw01_same.calls 2000000 A4 c4 (l.map bareS) A5 c5 (l.map bareS) true w5 D4 (by rw [List.length_map]; omega) C5.out (by rw [List.length_map]; omega) (same_pure _ (by rw [List.length_map]; omega) _ (by rw [List.length_map]; omega))
      rw [List.length_map] at hsm
      refine hsm.mono ?_
      rintro e w6 ⟨rfl, h6⟩
      have B6 := Aside0.mk (B5.out.trans (h6.below.mono B5.out.size))
      clear hsm h6 D4
      go_wp2
      go_ret
      exact ⟨rfl, B6.out⟩
end Go.Proofs.YtidkjiglmfhjpaaDoor.Lx
