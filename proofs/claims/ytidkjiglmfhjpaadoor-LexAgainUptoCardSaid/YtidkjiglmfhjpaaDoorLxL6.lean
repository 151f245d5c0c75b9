/- LexAgain: the walk. -/
import Derived.Test.YtidkjiglmfhjpaaDoorLxE
import Derived.Test.YtidkjiglmfhjpaaDoorLxL3
set_option linter.unusedVariables false
set_option linter.unusedSimpArgs false
namespace Go.Proofs.YtidkjiglmfhjpaaDoor.Lx
open Go.RowKit Go.Proofs.YtidkjiglmfhjpaaDoorW.PrintWords Go.Proofs.YtidkjiglmfhjpaaDoorW.PrintLast Go.Proofs.YtidkjiglmfhjpaaDoorW.PrintMore
open Go.Proofs.YtidkjiglmfhjpaaDoor.PS

theorem tk_wf {L : Nat} {t : Tk} (h : TkOk L t) (hL : L ≤ 65536) (hp : t.pos < L) : (-9223372036854775808 ≤ (toS t).f0 ∧ (toS t).f0 ≤ 9223372036854775807) ∧ (-9223372036854775808 ≤ (toS t).f2 ∧ (toS t).f2 ≤ 9223372036854775807) ∧ (toS t).f1.size ≤ 1048576 := by
  obtain ⟨_, h2, _, h4, h5⟩ := h
  refine ⟨⟨?_, ?_⟩, h2, ?_⟩
  · show (-9223372036854775808 : Int) ≤ (t.kind : Int); omega
  · show (t.kind : Int) ≤ 9223372036854775807; omega
  · show (toB t.text).size ≤ 1048576
    rw [size_toB]
    omega
theorem join_toks {l : List UInt8} {ts : List Tk} (h : tokensR l = (ts, 0, 0)) {o : List UInt8} (ho : joinF false (ts.map tkJ) = some o) : lex_Join.f 0 (ts.map toS) = some (toB o, 0) := by
  obtain ⟨h1, _, h3⟩ := tokensR_ok h
  have hlen := tokensR_len l
  rw [h] at hlen
  have hok : ToksOk (ts.map toS) := ⟨by rw [List.length_map]; exact Nat.le_trans hlen (by decide), fun x hx => by
    obtain ⟨t, ht, rfl⟩ := List.mem_map.1 hx
    exact tk_wf (h1 t ht).1 h3 (h1 t ht).2⟩
  have e : (ts.map toS).map toJ = ts.map tkJ := by
    rw [List.map_map]
    exact List.map_congr_left fun x _ => toJ_toS x
  unfold lex_Join.f joinA
  rw [toksOk_join hok, e, ho]
  rfl
set_option maxRecDepth 100000 in
set_option maxHeartbeats 4000000 in
theorem LexAgain_calls (s : ByteArray) (w : World) (hs : s.size ≤ 100000000) (htab : LW w) :
    Calls Tryd.prog 8 #[.string s] w fun e w' => e = .returned (.bool true) ∧ Below w.heap.size w w' := by
  have HT := Aside0.mk htab
  clear htab
  obtain ⟨ts, cd, p, hts⟩ : ∃ ts cd p, tokensR s.data.toList = (ts, cd, p) := ⟨_, _, _, rfl⟩
  have HTS := Aside0.mk hts
  clear hts
  by_cases q1 : cd = 0
  · subst q1
    obtain rfl := tokensR_zero HTS.out
    obtain ⟨hk1, hk2, hk3⟩ := tokensR_ok HTS.out
    have HK1 := Aside0.mk hk1
    have HK2 := Aside0.mk hk2
    have hslen : s.size = s.data.toList.length := size_list s
    have hss : s.size ≤ 65536 := by omega
    clear hk1 hk2 hk3 hslen
    obtain ⟨o, ho, hag⟩ := again_plain HTS.out
    have HO := Aside0.mk ho
    have HAG := Aside0.mk hag
    have HJ := Aside0.mk (join_toks HTS.out ho)
    clear ho hag
    have hlt : ts.length ≤ 65537 := by
      have := tokensR_len s.data.toList
      rw [HTS.out] at this
      exact this
    have hso : (toB o).size = o.length := size_toB o
    by_cases q2 : 65536 < o.length
    · have q2z : (65536 : Int) < (o.length : Int) := by omega
      clear q2
      go_enter Tryd.func8, Tryd.ntmps8
      go_wp2_with fail
      refine (assizelaw01_alive.calls 0 true _ (alive_pure 0) HT.out).mono ?_
      rintro e w1 ⟨rfl, h1⟩
      have B1 := Aside0.mk h1
      clear h1
      go_wp2_with fail
      refine (toks_calls s _ (HT.out.below B1.out)).mono ?_
      rintro e w2 ⟨A, c, he, h1, h2, h3⟩
      rw [HTS.out] at he h1 h2
      subst he
      have B2 := Aside0.mk (B1.out.trans (h3.mono B1.out.size))
      have C2 := Aside0.mk h2
      have L2 : ts.length ≤ c := h1
      clear h1 h2 h3
      go_wp2_with fail
      have hjm := lex_Join.calls 0 A c (ts.map toS) _ _ (w2.alloc (.cells #[.int .i64 0, .int .i64 0] 26)) (Kd.C_alloc C2.out _) (by rw [List.length_map]; exact L2) HJ.out ((HT.out.below B2.out).below ((Below.refl _ _).alloc (Nat.le_refl _) _))
      rw [List.length_map] at hjm
      refine hjm.mono ?_
      rintro e w3 ⟨rfl, h3⟩
      clear hjm
      have h3' : Below w2.heap.size w2 w3 := ((Below.refl _ _).alloc (Nat.le_refl _) _).trans (h3.mono (by simp))
      have B3 := Aside0.mk (B2.out.trans (h3'.mono B2.out.size))
      have C3 := Aside0.mk (Kd.C_below C2.out h3')
      clear h3 h3'
      go_wp2
      go_ret
      exact ⟨rfl, B3.out⟩
    · obtain ⟨ms, hms, hmb, hmj⟩ := HAG.out (by omega)
      have HMS := Aside0.mk hms
      have HMJ := Aside0.mk (join_toks hms hmj)
      have hbs := Aside0.mk (bare_same (l := ts.map toS) (hmb.trans (by
        rw [List.map_map, List.map_map]
        refine List.map_congr_left fun x hx => ?_
        show bareT x = bareJ (toJ (toS x))
        rw [toJ_toS, (HK1.out x hx).1.2.2.1])) (fun x hx => ((tokensR_ok hms).1 x hx).1.2.2.1) (fun x hx => by
        obtain ⟨y, hy, rfl⟩ := List.mem_map.1 hx
        show (0 : Int) ≤ (y.kind : Int)
        omega))
      have hlen : ms.length = ts.length := by
        have := congrArg List.length hmb
        simpa using this
      have hq : ¬ (65536 : Int) < (o.length : Int) := by omega
      clear q2 hms hmb hmj
      go_enter Tryd.func8, Tryd.ntmps8
      go_wp2_with fail
      refine (assizelaw01_alive.calls 0 true _ (alive_pure 0) HT.out).mono ?_
      rintro e w1 ⟨rfl, h1⟩
      have B1 := Aside0.mk h1
      clear h1
      go_wp2_with fail
      refine (toks_calls s _ (HT.out.below B1.out)).mono ?_
      rintro e w2 ⟨A, c, he, h1, h2, h3⟩
      rw [HTS.out] at he h1 h2
      subst he
      have B2 := Aside0.mk (B1.out.trans (h3.mono B1.out.size))
      have C2 := Aside0.mk h2
      have L2 : ts.length ≤ c := h1
      clear h1 h2 h3
      go_wp2_with fail
      have hjm := lex_Join.calls 0 A c (ts.map toS) _ _ (w2.alloc (.cells #[.int .i64 0, .int .i64 0] 26)) (Kd.C_alloc C2.out _) (by rw [List.length_map]; exact L2) HJ.out ((HT.out.below B2.out).below ((Below.refl _ _).alloc (Nat.le_refl _) _))
      rw [List.length_map] at hjm
      refine hjm.mono ?_
      rintro e w3 ⟨rfl, h3⟩
      clear hjm
      have h3' : Below w2.heap.size w2 w3 := ((Below.refl _ _).alloc (Nat.le_refl _) _).trans (h3.mono (by simp))
      have B3 := Aside0.mk (B2.out.trans (h3'.mono B2.out.size))
      have C3 := Aside0.mk (Kd.C_below C2.out h3')
      clear h3 h3'
      go_wp2_with fail
      refine (toks_calls (toB o) _ (HT.out.below B3.out)).mono ?_
      rintro e w4 ⟨A', c', he, h1, h2, h3⟩
      rw [data_toB, HMS.out] at he h1 h2
      subst he
      have B4 := Aside0.mk (B3.out.trans (h3.mono B3.out.size))
      have C4 := Aside0.mk (Kd.C_below C3.out h3)
      have D4 := Aside0.mk h2
      have L4 : ms.length ≤ c' := h1
      clear h1 h2 h3
      go_wp2_with fail
      have hk4 : (w4.alloc (.cells #[.int .i64 0, .int .i64 0] 26)).heap[w4.heap.size]? = some (.cells #[.int .i64 0, .int .i64 0] 26 (0, 0)) := blk_new w4 _
      have hjm := lex_Join.calls 0 A' c' (ms.map toS) _ _ (w4.alloc (.cells #[.int .i64 0, .int .i64 0] 26)) (Kd.C_alloc D4.out _) (by rw [List.length_map]; exact L4) HMJ.out ((HT.out.below B4.out).below ((Below.refl _ _).alloc (Nat.le_refl _) _))
      rw [List.length_map, hlen] at hjm
      refine hjm.mono ?_
      rintro e w5 ⟨rfl, h5⟩
      clear hjm
      have hk5 := (h5.block _ (by simp)).trans hk4
      have h5' : Below w4.heap.size w4 w5 := ((Below.refl _ _).alloc (Nat.le_refl _) _).trans (h5.mono (by simp))
      have B5 := Aside0.mk (B4.out.trans (h5'.mono B4.out.size))
      have C5 := Aside0.mk (Kd.C_below C4.out h5')
      have D5 := Aside0.mk (Kd.C_below D4.out h5')
      have K5 := Aside0.mk hk5
      clear h5 h5' hk4 hk5
      go_wp2
      have hrd : ∀ j (hj : j < ts.length), rd_T33 (ts.map toS) (j : Int) = toS ts[j] := fun j hj => by
        unfold rd_T33
        rw [List.getD_eq_getElem?_getD, Int.toNat_natCast, List.getElem?_map, List.getElem?_eq_getElem hj]
        rfl
      have HRD := Aside0.mk hrd
      clear hrd
      go_loopg [11] (ts.length) (fun kq u11 w2 => ∃ n : Nat, n + kq = ts.length ∧ u11 = .int .i64 n ∧ Aside0 (Below w5.heap.size w5 w2))
      case atStart => exact ⟨0, by omega, rfl, Aside0.mk (Below.refl _ _)⟩
      case round =>
        obtain ⟨n, hn, rfl, HBel⟩ := hrel
        cases gk with
        | zero =>
          have hge : ¬ ((n : Nat) : Int) < (ts.length : Int) := by omega
          have hk := (HBel.out.block _ (blk_lt K5.out)).trans K5.out
          have x0 : wr.cell? ⟨w4.heap.size, 0, none⟩ = some (.int .i64 0) := blk_cell hk 0
          have fx := fun j => blk_frozen hk j
          clear hk
          go_wp2_with fail
          have B6 := Aside0.mk (B5.out.trans (HBel.out.mono B5.out.size))
          have hb := bare_calls (ts.map toS) A c wr (Kd.C_below C5.out HBel.out) (by rw [List.length_map]; omega)
          rw [List.length_map] at hb
          refine hb.mono ?_
          rintro e w7 ⟨v, rfl, hR, h7⟩
          clear hb
          obtain ⟨A7, c7, rfl⟩ := Kd.R_slice hR
          obtain ⟨g1, g2, g3⟩ := Kd.R_reads' hR
          rw [List.length_map, List.length_map] at g1 g2
          have B7 := Aside0.mk (B6.out.trans (h7.mono B6.out.size))
          have C7 := Aside0.mk g3
          have D7 := Aside0.mk (Kd.C_below D5.out (HBel.out.trans (h7.mono HBel.out.size)))
          have L7 : ts.length ≤ c7 := g2
          clear hR g1 g2 g3 h7 x0 fx
          go_wp2_with fail
          have hb := bare_calls (ms.map toS) A' c' _ D7.out (by rw [List.length_map]; omega)
          rw [List.length_map, hlen] at hb
          refine hb.mono ?_
          rintro e w8 ⟨v, rfl, hR, h8⟩
          clear hb
          obtain ⟨A8, c8, rfl⟩ := Kd.R_slice hR
          obtain ⟨g1, g2, g3⟩ := Kd.R_reads' hR
          rw [List.length_map, List.length_map] at g1 g2
          have B8 := Aside0.mk (B7.out.trans (h8.mono B7.out.size))
          have C8 := Kd.C_below C7.out h8
          have D8 := g3
          rw [hbs.out] at D8
          have L8 : ms.length ≤ c8 := g2
          clear hR g1 g2 g3 h8
          have C8' := Aside0.mk C8
          have D8' := Aside0.mk D8
          clear C8 D8
          go_wp2_with fail
          have hsm := assizelaw01_same.calls 2000000 A7 c7 ((ts.map toS).map bareS) A8 c8 ((ts.map toS).map bareS) true w8 C8'.out (by rw [List.length_map, List.length_map]; exact L7) D8'.out (by rw [List.length_map, List.length_map]; omega) (same_pure _ (by rw [List.length_map, List.length_map]; omega) _ (by rw [List.length_map, List.length_map]; omega))
          rw [List.length_map, List.length_map] at hsm
          refine hsm.mono ?_
          rintro e w9 ⟨rfl, h9⟩
          have B9 := Aside0.mk (B8.out.trans (h9.below.mono B8.out.size))
          clear hsm h9
          go_wp2
          go_ret
          exact ⟨rfl, B9.out⟩
        | succ k1 =>
          have hlt : n < ts.length := by omega
          have hltz : ((n : Nat) : Int) < (ts.length : Int) := by omega
          have cC := Kd.C_below C5.out HBel.out
          obtain ⟨ad, e0, r0, r1, r2, r3⟩ := at_T33 cC (n : Int) (by omega) (by rw [List.length_map]; omega)
          rw [Int.toNat_natCast, HRD.out n hlt] at r3
          clear r0 r1 r2
          have f3 : (toS ts[n]).f3 = (ts[n].pos : Int) := rfl
          rw [f3] at r3
          have hpl := (HK1.out ts[n] (List.getElem_mem hlt)).2
          have g1 : decide ((ts[n].pos : Int) < 0) = false := decide_eq_false (by omega)
          have g2 : decide ((s.size : Int) ≤ (ts[n].pos : Int)) = false := decide_eq_false (by have := size_list s; omega)
          have g2' : decide (s.size ≤ ts[n].pos) = false := decide_eq_false (by have := size_list s; omega)
          subst e0
          clear f3 hpl
          by_cases q0 : n = 0
          · have g4 : decide ((0 : Int) < (n : Int)) = false := decide_eq_false (by omega)
            have g4' : decide (0 < n) = false := decide_eq_false (by omega)
            have Q0 := Aside0.mk q0
            clear q0
            go_wp2
            go_quiet (fail)
            go_wp2
            go_roundg k1
            case measure => omega
            case rel => exact ⟨n + 1, by omega, by go_num, Aside0.mk (pw_below_drewN HBel.out _)⟩
          · have g4 : decide ((0 : Int) < (n : Int)) = true := decide_eq_true (by omega)
            have g4' : decide (0 < n) = true := decide_eq_true (by omega)
            obtain ⟨m, hnm⟩ : ∃ m, n = m + 1 := ⟨n - 1, by omega⟩
            have HNM := Aside0.mk hnm
            have hm : m < ts.length := by omega
            obtain ⟨ad', e0', t0, t1, t2, t3⟩ := at_T33 cC (m : Int) (by omega) (by rw [List.length_map]; omega)
            rw [Int.toNat_natCast, HRD.out m hm] at t3
            obtain rfl : ad = ad' := Option.some.inj e0'
            clear t0 t1 t2 e0'
            have f3' : (toS ts[m]).f3 = (ts[m].pos : Int) := rfl
            rw [f3'] at t3
            have hri := HK2.out m (by omega)
            have g3' : decide (ts[n].pos ≤ ts[m].pos) = false := decide_eq_false (by
              have e : ts[n] = ts[m + 1]'(by omega) := by simp only [hnm]
              rw [e]
              omega)
            have g3 : decide ((ts[n].pos : Int) ≤ (ts[m].pos : Int)) = false := decide_eq_false (by
              have e : ts[n] = ts[m + 1]'(by omega) := by simp only [hnm]
              rw [e]
              omega)
            have hw : IntKind.i64.wrap ((n : Int) - 1) = (m : Int) := by
              rw [show (n : Int) - 1 = (m : Int) by omega]
              exact IntWalk.i64_in _ (by omega)
            clear f3' hri q0 hnm
            go_wp2
            go_quiet (fail)
            go_wp2
            go_roundg k1
            case measure => omega
            case rel => exact ⟨n + 1, by omega, by go_num, Aside0.mk (pw_below_drewN HBel.out _)⟩
  · obtain rfl := tokensR_bad HTS.out q1
    have q1z : ((cd : Int) != 0) = true := by simp; omega
    go_enter Tryd.func8, Tryd.ntmps8
    go_wp2_with fail
    refine (assizelaw01_alive.calls 0 true _ (alive_pure 0) HT.out).mono ?_
    rintro e w1 ⟨rfl, h1⟩
    have B1 := Aside0.mk h1
    clear h1
    go_wp2_with fail
    refine (toks_calls s _ (HT.out.below B1.out)).mono ?_
    rintro e w2 ⟨A, c, he, h1, h2, h3⟩
    rw [HTS.out] at he h1 h2
    subst he
    have B2 := Aside0.mk (B1.out.trans (h3.mono B1.out.size))
    clear h1 h2 h3
    go_wp2
    go_ret
    exact ⟨rfl, by first | exact B2.out | exact B2.out.alloc B2.out.size _⟩
end Go.Proofs.YtidkjiglmfhjpaaDoor.Lx
