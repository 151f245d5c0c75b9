/- LexBeside: the walk. -/
import Derived.Test.YtidkjiglmfhjpaaDoorLxL1
import Derived.Test.YtidkjiglmfhjpaaDoorLxR
set_option linter.unusedVariables false
set_option linter.unusedSimpArgs false
namespace Go.Proofs.YtidkjiglmfhjpaaDoor.Lx
open Go.RowKit Go.Proofs.YtidkjiglmfhjpaaDoorW.PrintWords Go.Proofs.YtidkjiglmfhjpaaDoorW.PrintLast Go.Proofs.YtidkjiglmfhjpaaDoorW.PrintMore
open Go.Proofs.YtidkjiglmfhjpaaDoor.PS

theorem toks_calls (a : ByteArray) (w : World) (h : LW w) : Calls Tryd.prog 10 #[.string a] w fun e w' => ∃ A c, e = .returned (.tuple #[.slice A (tokensR a.data.toList).1.length c, .agg #[.int .i64 (tokensR a.data.toList).2.1, .int .i64 (tokensR a.data.toList).2.2]]) ∧
    (tokensR a.data.toList).1.length ≤ c ∧ Kd.C k33 w' A ((tokensR a.data.toList).1.map toS).length ((tokensR a.data.toList).1.map toS) ∧ Below w.heap.size w w' := by
  refine (lex_Tokens.calls 0 a _ _ _ w rfl h).mono ?_
  rintro e w' ⟨v, rfl, hR, hb⟩
  obtain ⟨A, c, rfl⟩ := Kd.R_slice hR
  obtain ⟨h1, h2, h3⟩ := Kd.R_reads' hR
  rw [List.length_map] at h2 ⊢
  exact ⟨A, c, rfl, h2, by simpa using h3, hb⟩
theorem tokensR_zero {l : List UInt8} {a : List Tk} {p : Nat} (h : tokensR l = (a, 0, p)) : p = 0 := by
  unfold tokensR at h
  split at h
  · simp at h
  · split at h
    · simp at h
      exact h.2.symm
    · simp at h
set_option maxRecDepth 100000 in
set_option maxHeartbeats 4000000 in
theorem LexBeside_calls (s t : ByteArray) (w : World) (hs : s.size ≤ 100000000) (ht : t.size ≤ 100000000) (htab : LW w) :
    Calls Tryd.prog 5 #[.string s, .string t] w fun e w' => e = .returned (.bool true) ∧ Below w.heap.size w w' := by
  have HT := Aside0.mk htab
  clear htab
  obtain ⟨a, ca, pa, ha⟩ : ∃ a ca pa, tokensR s.data.toList = (a, ca, pa) := ⟨_, _, _, rfl⟩
  obtain ⟨b, cb, pb, hb⟩ : ∃ b cb pb, tokensR t.data.toList = (b, cb, pb) := ⟨_, _, _, rfl⟩
  have HA := Aside0.mk ha
  have HB := Aside0.mk hb
  clear ha hb
  by_cases q1 : ca = 0
  · by_cases q2 : cb = 0
    · by_cases q3 : s.size + t.size + 1 ≤ 65536
      · subst q1
        subst q2
        go_enter Tryd.func5, Tryd.ntmps5
        go_wp2_with fail
        refine (assizelaw01_alive.calls 0 true _ (alive_pure 0) HT.out).mono ?_
        rintro e w1 ⟨rfl, h1⟩
        have B1 := Aside0.mk h1
        clear h1
        go_wp2_with fail
        refine (toks_calls s _ (HT.out.below B1.out)).mono ?_
        rintro e w2 ⟨A, c, he, h1, h2, h3⟩
        rw [HA.out] at he h1 h2
        subst he
        have B2 := Aside0.mk (B1.out.trans (h3.mono B1.out.size))
        have C2 := Aside0.mk h2
        have L2 := Aside0.mk h1
        clear h1 h2 h3
        go_wp2_with fail
        refine (toks_calls t _ (HT.out.below (B2.out.alloc B2.out.size _))).mono ?_
        rintro e w3 ⟨A', c', he, h1, h2, h3⟩
        rw [HB.out] at he h1 h2
        subst he
        have hk2 : w3.heap[w2.heap.size]? = some (.cells #[.int .i64 0, .int .i64 (pa : Int)] 26 (0, 0)) := (h3.block _ (by simp)).trans (by simp [World.alloc, -World.alloc_eq])
        have B3 := Aside0.mk ((B2.out.alloc B2.out.size (.cells #[.int .i64 0, .int .i64 (pa : Int)] 26)).trans (h3.mono (by simp; exact Nat.le_succ_of_le B2.out.size)))
        have hz3 : w2.heap.size + 1 ≤ w3.heap.size := by have := h3.size; simpa using this
        have C2' := Aside0.mk (Kd.C_below C2.out (((Below.refl _ _).alloc (Nat.le_refl _) (.cells #[.int .i64 0, .int .i64 (pa : Int)] 26)).trans (h3.mono (by simp))))
        have C3 := Aside0.mk h2
        have L3 := Aside0.mk h1
        have K2 := Aside0.mk hk2
        clear h1 h2 h3
        have x0 : w3.cell? ⟨w2.heap.size, 0, none⟩ = some (.int .i64 0) := blk_cell hk2 0
        have x0a : ∀ o, (w3.alloc o).cell? ⟨w2.heap.size, 0, none⟩ = some (.int .i64 0) := fun o => cell_below' ((Below.refl _ _).alloc (Nat.le_refl _) o) x0
        have fx := fun j => blk_frozen hk2 j
        clear hk2
        have hne : w2.heap.size ≠ w3.heap.size := by omega
        have hz : decide ((65536 : Int) < (s.size : Int) + (t.size : Int) + 1) = false := decide_eq_false (by omega)
        have Q3 := Aside0.mk q3
        clear q3
        have hap : (s ++ ByteArray.mk #[32] ++ t).data.toList = s.data.toList ++ 32 :: t.data.toList := by simp
        obtain rfl := tokensR_zero HA.out
        obtain rfl := tokensR_zero HB.out
        have hbs := tokensR_beside s.data.toList t.data.toList a b HA.out HB.out Q3.out
        rw [← hap] at hbs
        have HBS := Aside0.mk hbs
        have hlb := tokensR_len t.data.toList
        have hla := tokensR_len s.data.toList
        rw [HA.out] at hla
        rw [HB.out] at hlb
        have hla' : a.length ≤ 65537 := hla
        have hlb' : b.length ≤ 65537 := hlb
        clear hbs hap hla hlb
        obtain ⟨cs, hcs⟩ : ∃ cs, cs = a ++ b.map (sh (s.data.toList.length + 1)) := ⟨_, rfl⟩
        have hcl : cs.length = a.length + b.length := by rw [hcs, List.length_append, List.length_map]
        have HCS := Aside0.mk hcs
        go_wp2_with fail
        refine (toks_calls _ _ (HT.out.below (B3.out.alloc B3.out.size _))).mono ?_
        rintro e w4 ⟨A4, c4, he, h1, h2, h3⟩
        rw [HBS.out, ← HCS.out] at he h1 h2
        subst he
        have B4 := Aside0.mk ((B3.out.alloc B3.out.size (.cells #[.int .i64 0, .int .i64 ((0 : Nat) : Int)] 26)).trans (h3.mono (by simp; exact Nat.le_succ_of_le B3.out.size)))
        have hbel := ((Below.refl _ _).alloc (Nat.le_refl w3.heap.size) (.cells #[.int .i64 0, .int .i64 ((0 : Nat) : Int)] 26)).trans (h3.mono (by simp))
        have C2'' := Aside0.mk (Kd.C_below C2'.out hbel)
        have C3' := Aside0.mk (Kd.C_below C3.out hbel)
        have C4 := Aside0.mk h2
        have L4 := Aside0.mk h1
        have hL4 : cs.length ≤ c4 := h1
        clear h1 h2 h3 hcs x0 x0a fx hne hbel hz
        go_wp2_with fail
        have htk : (cs.map toS).take (a.map toS).length = a.map toS := by rw [HCS.out, List.map_append, List.take_left]
        have hC := Kd.C_take (m := (a.map toS).length) C4.out (by rw [List.length_map, List.length_map]; omega)
        rw [htk] at hC
        have hsm := assizelaw01_same.calls 100000 A4 c4 (a.map toS) A c (a.map toS) true (w4.alloc (.cells #[.int .i64 0, .int .i64 0] 26)) (Kd.C_alloc hC _) (by rw [List.length_map]; omega) (Kd.C_alloc C2''.out _) (by rw [List.length_map]; exact L2.out) (same_pure _ (by rw [List.length_map]; omega) _ (by rw [List.length_map]; omega))
        rw [List.length_map] at hsm
        refine hsm.mono ?_
        rintro e w5 ⟨rfl, h5⟩
        have hb5 : Below w4.heap.size w4 w5 := ((Below.refl _ _).alloc (Nat.le_refl _) _).trans (h5.below.mono (by simp))
        have B5 := Aside0.mk (B4.out.trans (hb5.mono B4.out.size))
        have C3'' := Aside0.mk (Kd.C_below C3'.out hb5)
        have C4' := Aside0.mk (Kd.C_below C4.out hb5)
        clear hsm hC htk h5 hb5
        go_wp2
        go_loopg [11] (b.length) (fun kq u11 w2 => ∃ n : Nat, n + kq = b.length ∧ u11 = .int .i64 n ∧ Aside0 (Below w5.heap.size w5 w2))
        case atStart => exact ⟨0, by omega, rfl, Aside0.mk (Below.refl _ _)⟩
        case round =>
          obtain ⟨n, hn, rfl, HBel⟩ := hrel
          cases gk with
          | zero =>
            have hge : ¬ ((n : Nat) : Int) < (b.length : Int) := by omega
            go_wp2
            go_ret
            exact ⟨rfl, B5.out.trans (HBel.out.mono B5.out.size)⟩
          | succ k1 =>
            have hlt : n < b.length := by omega
            have hltz : ((n : Nat) : Int) < (b.length : Int) := by omega
            obtain ⟨ad, rfl, r0, r1, r2, r3⟩ := at_T33 (Kd.C_below C3''.out HBel.out) (n : Int) (by omega) (by rw [List.length_map]; omega)
            obtain ⟨ad4, rfl, t0, t1, t2, t3⟩ := at_T33 (Kd.C_below C4'.out HBel.out) ((a.length + n : Nat) : Int) (by omega) (by rw [List.length_map]; omega)
            rw [Int.toNat_natCast] at r0 r1 r2 r3 t0 t1 t2 t3
            have hg : b[n]? = some b[n] := List.getElem?_eq_getElem hlt
            have e1 : rd_T33 (b.map toS) (n : Int) = toS b[n] := by
              unfold rd_T33
              rw [List.getD_eq_getElem?_getD, Int.toNat_natCast, List.getElem?_map, hg]
              rfl
            have e2 : rd_T33 (cs.map toS) ((a.length + n : Nat) : Int) = toS (sh (s.data.toList.length + 1) b[n]) := by
              unfold rd_T33
              rw [List.getD_eq_getElem?_getD, Int.toNat_natCast, List.getElem?_map, HCS.out, List.getElem?_append_right (by omega), show a.length + n - a.length = n by omega, List.getElem?_map, hg]
              rfl
            have hpos : b[n].pos ≤ 65536 := by
              have := tokensR_pos t.data.toList b[n] (by rw [HB.out]; exact List.getElem_mem hlt)
              exact this
            rw [e1] at r0 r1 r2 r3
            rw [e2] at t0 t1 t2 t3
            have e3 : (toS (sh (s.data.toList.length + 1) b[n])).f3 = (b[n].pos : Int) + ((s.size : Int) + 1) := by
              show ((b[n].pos + (s.data.toList.length + 1) : Nat) : Int) = _
              rw [size_list]
              omega
            rw [e3] at t3
            have T0 := fun o => cell_below' ((Below.refl wr.heap.size wr).alloc (Nat.le_refl _) o) t0
            have T1 := fun o => cell_below' ((Below.refl wr.heap.size wr).alloc (Nat.le_refl _) o) t1
            have T2 := fun o => cell_below' ((Below.refl wr.heap.size wr).alloc (Nat.le_refl _) o) t2
            have T3 := fun o => cell_below' ((Below.refl wr.heap.size wr).alloc (Nat.le_refl _) o) t3
            have f3' : (toS b[n]).f3 = (b[n].pos : Int) := rfl
            rw [f3'] at r3
            have f0e : (toS (sh (s.data.toList.length + 1) b[n])).f0 = (toS b[n]).f0 := rfl
            have f1e : (toS (sh (s.data.toList.length + 1) b[n])).f1 = (toS b[n]).f1 := rfl
            have f2e : (toS (sh (s.data.toList.length + 1) b[n])).f2 = (toS b[n]).f2 := rfl
            rw [f0e] at T0
            rw [f1e] at T1
            rw [f2e] at T2
            clear t0 t1 t2 t3 e1 e2 e3 hg f0e f1e f2e f3'
            have hi1 : (a.length : Int) + (n : Int) < (cs.length : Int) := by omega
            go_wp2
            go_quiet (fail)
            go_wp2
            go_roundg k1
            case measure => omega
            case rel => exact ⟨n + 1, by omega, by go_num, Aside0.mk (pw_below_drewN (HBel.out.alloc HBel.out.size _) _)⟩
      · subst q1
        subst q2
        go_enter Tryd.func5, Tryd.ntmps5
        go_wp2_with fail
        refine (assizelaw01_alive.calls 0 true _ (alive_pure 0) HT.out).mono ?_
        rintro e w1 ⟨rfl, h1⟩
        have B1 := Aside0.mk h1
        clear h1
        go_wp2_with fail
        refine (toks_calls s _ (HT.out.below B1.out)).mono ?_
        rintro e w2 ⟨A, c, he, h1, h2, h3⟩
        rw [HA.out] at he h1 h2
        subst he
        have B2 := Aside0.mk (B1.out.trans (h3.mono B1.out.size))
        have C2 := Aside0.mk h2
        have L2 := Aside0.mk h1
        clear h1 h2 h3
        go_wp2_with fail
        refine (toks_calls t _ (HT.out.below (B2.out.alloc B2.out.size _))).mono ?_
        rintro e w3 ⟨A', c', he, h1, h2, h3⟩
        rw [HB.out] at he h1 h2
        subst he
        have hk2 : w3.heap[w2.heap.size]? = some (.cells #[.int .i64 0, .int .i64 (pa : Int)] 26 (0, 0)) := (h3.block _ (by simp)).trans (by simp [World.alloc, -World.alloc_eq])
        have B3 := Aside0.mk ((B2.out.alloc B2.out.size (.cells #[.int .i64 0, .int .i64 (pa : Int)] 26)).trans (h3.mono (by simp; exact Nat.le_succ_of_le B2.out.size)))
        have hz3 : w2.heap.size + 1 ≤ w3.heap.size := by have := h3.size; simpa using this
        have C2' := Aside0.mk (Kd.C_below C2.out (((Below.refl _ _).alloc (Nat.le_refl _) (.cells #[.int .i64 0, .int .i64 (pa : Int)] 26)).trans (h3.mono (by simp))))
        have C3 := Aside0.mk h2
        have L3 := Aside0.mk h1
        have K2 := Aside0.mk hk2
        clear h1 h2 h3
        have x0 : w3.cell? ⟨w2.heap.size, 0, none⟩ = some (.int .i64 0) := blk_cell hk2 0
        have x0a : ∀ o, (w3.alloc o).cell? ⟨w2.heap.size, 0, none⟩ = some (.int .i64 0) := fun o => cell_below' ((Below.refl _ _).alloc (Nat.le_refl _) o) x0
        have fx := fun j => blk_frozen hk2 j
        clear hk2
        have hne : w2.heap.size ≠ w3.heap.size := by omega
        have hz : (65536 : Int) < (s.size : Int) + (t.size : Int) + 1 := by omega
        go_wp2
        go_ret
        exact ⟨rfl, B3.out.alloc B3.out.size _⟩
    · subst q1
      go_enter Tryd.func5, Tryd.ntmps5
      go_wp2_with fail
      refine (assizelaw01_alive.calls 0 true _ (alive_pure 0) HT.out).mono ?_
      rintro e w1 ⟨rfl, h1⟩
      have B1 := Aside0.mk h1
      clear h1
      go_wp2_with fail
      refine (toks_calls s _ (HT.out.below B1.out)).mono ?_
      rintro e w2 ⟨A, c, he, h1, h2, h3⟩
      rw [HA.out] at he h1 h2
      subst he
      have B2 := Aside0.mk (B1.out.trans (h3.mono B1.out.size))
      have C2 := Aside0.mk h2
      have L2 := Aside0.mk h1
      clear h1 h2 h3
      go_wp2_with fail
      refine (toks_calls t _ (HT.out.below (B2.out.alloc B2.out.size _))).mono ?_
      rintro e w3 ⟨A', c', he, h1, h2, h3⟩
      rw [HB.out] at he h1 h2
      subst he
      have hk2 : w3.heap[w2.heap.size]? = some (.cells #[.int .i64 0, .int .i64 (pa : Int)] 26 (0, 0)) := (h3.block _ (by simp)).trans (by simp [World.alloc, -World.alloc_eq])
      have B3 := Aside0.mk ((B2.out.alloc B2.out.size (.cells #[.int .i64 0, .int .i64 (pa : Int)] 26)).trans (h3.mono (by simp; exact Nat.le_succ_of_le B2.out.size)))
      have hz3 : w2.heap.size + 1 ≤ w3.heap.size := by have := h3.size; simpa using this
      have C2' := Aside0.mk (Kd.C_below C2.out (((Below.refl _ _).alloc (Nat.le_refl _) (.cells #[.int .i64 0, .int .i64 (pa : Int)] 26)).trans (h3.mono (by simp))))
      have C3 := Aside0.mk h2
      have L3 := Aside0.mk h1
      have K2 := Aside0.mk hk2
      clear h1 h2 h3
      have x0 : w3.cell? ⟨w2.heap.size, 0, none⟩ = some (.int .i64 0) := blk_cell hk2 0
      have x0a : ∀ o, (w3.alloc o).cell? ⟨w2.heap.size, 0, none⟩ = some (.int .i64 0) := fun o => cell_below' ((Below.refl _ _).alloc (Nat.le_refl _) o) x0
      have fx := fun j => blk_frozen hk2 j
      clear hk2
      have hne : w2.heap.size ≠ w3.heap.size := by omega
      have hz : ((cb : Int) != 0) = true := by simp; omega
      go_wp2
      go_ret
      exact ⟨rfl, B3.out.alloc B3.out.size _⟩
  · have hz : ((ca : Int) != 0) = true := by simp; omega
    go_enter Tryd.func5, Tryd.ntmps5
    go_wp2_with fail
    refine (assizelaw01_alive.calls 0 true _ (alive_pure 0) HT.out).mono ?_
    rintro e w1 ⟨rfl, h1⟩
    have B1 := Aside0.mk h1
    clear h1
    go_wp2_with fail
    refine (toks_calls s _ (HT.out.below B1.out)).mono ?_
    rintro e w2 ⟨A, c, he, h1, h2, h3⟩
    rw [HA.out] at he h1 h2
    subst he
    have B2 := Aside0.mk (B1.out.trans (h3.mono B1.out.size))
    have C2 := Aside0.mk h2
    have L2 := Aside0.mk h1
    clear h1 h2 h3
    go_wp2_with fail
    refine (toks_calls t _ (HT.out.below (B2.out.alloc B2.out.size _))).mono ?_
    rintro e w3 ⟨A', c', he, h1, h2, h3⟩
    rw [HB.out] at he h1 h2
    subst he
    have hk2 : w3.heap[w2.heap.size]? = some (.cells #[.int .i64 (ca : Int), .int .i64 (pa : Int)] 26 (0, 0)) := (h3.block _ (by simp)).trans (by simp [World.alloc, -World.alloc_eq])
    have B3 := Aside0.mk ((B2.out.alloc B2.out.size (.cells #[.int .i64 (ca : Int), .int .i64 (pa : Int)] 26)).trans (h3.mono (by simp; exact Nat.le_succ_of_le B2.out.size)))
    have hz3 : w2.heap.size + 1 ≤ w3.heap.size := by have := h3.size; simpa using this
    have C2' := Aside0.mk (Kd.C_below C2.out (((Below.refl _ _).alloc (Nat.le_refl _) (.cells #[.int .i64 (ca : Int), .int .i64 (pa : Int)] 26)).trans (h3.mono (by simp))))
    have C3 := Aside0.mk h2
    have L3 := Aside0.mk h1
    have K2 := Aside0.mk hk2
    clear h1 h2 h3
    have x0 : w3.cell? ⟨w2.heap.size, 0, none⟩ = some (.int .i64 (ca : Int)) := blk_cell hk2 0
    have x0a : ∀ o, (w3.alloc o).cell? ⟨w2.heap.size, 0, none⟩ = some (.int .i64 (ca : Int)) := fun o => cell_below' ((Below.refl _ _).alloc (Nat.le_refl _) o) x0
    have fx := fun j => blk_frozen hk2 j
    clear hk2
    have hne : w2.heap.size ≠ w3.heap.size := by omega
    go_wp2
    go_ret
    exact ⟨rfl, B3.out.alloc B3.out.size _⟩
end Go.Proofs.YtidkjiglmfhjpaaDoor.Lx
