/- lex: bare: the walk. -/
import Derived.Test.YtidkjiglmfhjpaaDoorPSx0
import Derived.Test.YtidkjiglmfhjpaaDoorLxB
import Derived.Test.YtidkjiglmfhjpaaDoorLexPrn
set_option linter.unusedVariables false
set_option linter.unusedSimpArgs false
namespace Go.Proofs.YtidkjiglmfhjpaaDoor.Lx
open Go.RowKit Go.Proofs.YtidkjiglmfhjpaaDoorW.PrintWords Go.Proofs.YtidkjiglmfhjpaaDoorW.PrintLast Go.Proofs.YtidkjiglmfhjpaaDoorW.PrintMore
open Go.Proofs.YtidkjiglmfhjpaaDoor.PS

def bareS (x : S33) : S33 := ⟨x.f0, if x.f0 = 7 ∨ x.f0 = 9 then x.f1 else ⟨#[]⟩, if x.f0 = 8 then x.f2 else 0, 0⟩
set_option maxRecDepth 100000 in
set_option maxHeartbeats 4000000 in
theorem bare_calls (l : List S33) (A : Option Addr) (c : Nat) (w : World) (hr : Kd.C k33 w A l.length l) (hl : l.length ≤ 100000000) :
    Calls Tryd.prog 17 #[.slice A l.length c] w fun e w' => ∃ v, e = .returned v ∧ Kd.R k33 33 w' w.heap.size (fun _ => True) v (l.map bareS) ∧ Below w.heap.size w w' := by
  have HR0 := Aside0.mk hr
  clear hr
  go_enter Tryd.func17, Tryd.ntmps17
  go_wp2
  go_loopg [3, 4] (l.length) (fun kq v3 v4 w2 => ∃ n : Nat, n + kq = l.length ∧ v4 = .int .i64 n ∧ Aside0 (Kd.R k33 33 w2 w.heap.size (fun _ => True) v3 ((l.take n).map bareS)) ∧ Aside0 (Below w.heap.size w w2))
  case atStart => exact ⟨0, by omega, rfl, Aside0.mk (Kd.R_nil _ _ _ _ _), Aside0.mk (Below.refl _ _)⟩
  case round =>
    obtain ⟨n, hn, rfl, HO, HB⟩ := hrel
    cases gk with
    | zero =>
      have hge : ¬ ((n : Nat) : Int) < (l.length : Int) := by omega
      have htk : l.take n = l := List.take_of_length_le (by omega)
      rw [htk] at HO
      go_wp2
      go_ret
      exact ⟨_, rfl, HO.out, HB.out⟩
    | succ k1 =>
      have hlt : n < l.length := by omega
      have hltz : ((n : Nat) : Int) < (l.length : Int) := by omega
      obtain ⟨ad, rfl, r0, r1, r2, r3⟩ := at_T33 (Kd.C_below HR0.out HB.out) (n : Int) (by omega) (by omega)
      rw [Int.toNat_natCast] at r0 r1 r2 r3
      have hrd : rd_T33 l (n : Int) = l[n] := by
        unfold rd_T33
        rw [List.getD_eq_getElem?_getD, Int.toNat_natCast, List.getElem?_eq_getElem hlt]
        rfl
      rw [hrd] at r0 r1 r2 r3
      generalize hx : l[n] = x at r0 r1 r2 r3
      obtain ⟨x0, x1, x2, x3⟩ := x
      have HX := Aside0.mk hx
      clear hrd hx
      have hsn : (l.take n).map bareS ++ [bareS l[n]] = (l.take (n + 1)).map bareS := by
        rw [List.take_add_one, List.map_append, List.getElem?_eq_getElem hlt]
        rfl
      rw [HX.out] at hsn
      by_cases q8 : x0 = 8
      · subst q8
        have g8 : ((8 : Int) == 8) = true := rfl
        have hbx : bareS ⟨(8 : Int), x1, x2, x3⟩ = ⟨(8 : Int), (⟨#[]⟩ : ByteArray), x2, 0⟩ := by simp [bareS, *]
        rw [hbx] at hsn
        have HSN := Aside0.mk hsn
        clear hsn hbx
        go_wp2_with (first | (with_reducible refine gate_builtin (b := .append) (xs := #[.tmp 30, .tmp 32]) rfl ?_); at_builtin; refine Kd.R_append k33 (w0 := w) w.heap.size rfl (.tmp 30) (.tmp 32) 23 33 (.agg #[(.int .i64 0), (.string ⟨#[]⟩), (.int .i64 0), (.int .i64 0)]) 40 rfl Tryd.underlying23 info33 rfl (by decide) (by omega) u3 ((l.take n).map bareS) (⟨(8 : Int), (⟨#[]⟩ : ByteArray), x2, 0⟩ : S33) [.int .i64 (8 : Int), .string (⟨#[]⟩ : ByteArray), .int .i64 x2, .int .i64 0] (fun _ => True) (fun _ => False) rfl (by first | (go_simp; done) | (go_simp; rfl)) ?aP (fun _ hk => hk.elim) (fun _ _ => trivial) ?aO ?aB ?aS ?aL ?_; (case aP => exact k33_mkM _ _ _ (⟨(8 : Int), (⟨#[]⟩ : ByteArray), x2, 0⟩ : S33)); (case aO => exact Kd.R_below HO.out (by repeat (first | exact Below.refl _ _ | apply below_alloc | apply pw_below_drewN | apply below_drew1 | refine below_set ?_ (by simp)))); (case aB => exact HB.out.trans (Below.mono (by repeat (first | exact Below.refl _ _ | apply below_alloc | apply pw_below_drewN | apply below_drew1 | refine below_set ?_ (by simp))) HB.out.size)); (case aS => exact Nat.le_trans HB.out.size (Below.size (B := wr.heap.size) (w := wr) (by repeat (first | exact Below.refl _ _ | apply below_alloc | apply pw_below_drewN | apply below_drew1 | refine below_set ?_ (by simp))))); (case aL => rw [List.length_map, List.length_take]; omega); intro v1 w1 ho hb1 hg hat; rw [HSN.out] at ho; have HO1 := Aside0.mk ho; have HB1 := Aside0.mk hb1; clear ho hb1 hg hat)
        go_roundg k1
        case measure => omega
        case rel => exact ⟨n + 1, by omega, by go_num, HO1, HB1⟩
      · have b8 : (x0 != 8) = true := by simp [q8]
        by_cases q7 : x0 = 7
        · subst q7
          have hbx : bareS ⟨(7 : Int), x1, x2, x3⟩ = ⟨(7 : Int), x1, 0, 0⟩ := by simp [bareS, *]
          rw [hbx] at hsn
          have HSN := Aside0.mk hsn
          clear hsn hbx
          go_wp2_with (first | (with_reducible refine gate_builtin (b := .append) (xs := #[.tmp 30, .tmp 32]) rfl ?_); at_builtin; refine Kd.R_append k33 (w0 := w) w.heap.size rfl (.tmp 30) (.tmp 32) 23 33 (.agg #[(.int .i64 0), (.string ⟨#[]⟩), (.int .i64 0), (.int .i64 0)]) 40 rfl Tryd.underlying23 info33 rfl (by decide) (by omega) u3 ((l.take n).map bareS) (⟨(7 : Int), x1, 0, 0⟩ : S33) [.int .i64 (7 : Int), .string x1, .int .i64 0, .int .i64 0] (fun _ => True) (fun _ => False) rfl (by first | (go_simp; done) | (go_simp; rfl)) ?aP (fun _ hk => hk.elim) (fun _ _ => trivial) ?aO ?aB ?aS ?aL ?_; (case aP => exact k33_mkM _ _ _ (⟨(7 : Int), x1, 0, 0⟩ : S33)); (case aO => exact Kd.R_below HO.out (by repeat (first | exact Below.refl _ _ | apply below_alloc | apply pw_below_drewN | apply below_drew1 | refine below_set ?_ (by simp)))); (case aB => exact HB.out.trans (Below.mono (by repeat (first | exact Below.refl _ _ | apply below_alloc | apply pw_below_drewN | apply below_drew1 | refine below_set ?_ (by simp))) HB.out.size)); (case aS => exact Nat.le_trans HB.out.size (Below.size (B := wr.heap.size) (w := wr) (by repeat (first | exact Below.refl _ _ | apply below_alloc | apply pw_below_drewN | apply below_drew1 | refine below_set ?_ (by simp))))); (case aL => rw [List.length_map, List.length_take]; omega); intro v1 w1 ho hb1 hg hat; rw [HSN.out] at ho; have HO1 := Aside0.mk ho; have HB1 := Aside0.mk hb1; clear ho hb1 hg hat)
          go_roundg k1
          case measure => omega
          case rel => exact ⟨n + 1, by omega, by go_num, HO1, HB1⟩
        · have b7 : (x0 != 7) = true := by simp [q7]
          by_cases q9 : x0 = 9
          · subst q9
            have hbx : bareS ⟨(9 : Int), x1, x2, x3⟩ = ⟨(9 : Int), x1, 0, 0⟩ := by simp [bareS, *]
            rw [hbx] at hsn
            have HSN := Aside0.mk hsn
            clear hsn hbx
            go_wp2_with (first | (with_reducible refine gate_builtin (b := .append) (xs := #[.tmp 30, .tmp 32]) rfl ?_); at_builtin; refine Kd.R_append k33 (w0 := w) w.heap.size rfl (.tmp 30) (.tmp 32) 23 33 (.agg #[(.int .i64 0), (.string ⟨#[]⟩), (.int .i64 0), (.int .i64 0)]) 40 rfl Tryd.underlying23 info33 rfl (by decide) (by omega) u3 ((l.take n).map bareS) (⟨(9 : Int), x1, 0, 0⟩ : S33) [.int .i64 (9 : Int), .string x1, .int .i64 0, .int .i64 0] (fun _ => True) (fun _ => False) rfl (by first | (go_simp; done) | (go_simp; rfl)) ?aP (fun _ hk => hk.elim) (fun _ _ => trivial) ?aO ?aB ?aS ?aL ?_; (case aP => exact k33_mkM _ _ _ (⟨(9 : Int), x1, 0, 0⟩ : S33)); (case aO => exact Kd.R_below HO.out (by repeat (first | exact Below.refl _ _ | apply below_alloc | apply pw_below_drewN | apply below_drew1 | refine below_set ?_ (by simp)))); (case aB => exact HB.out.trans (Below.mono (by repeat (first | exact Below.refl _ _ | apply below_alloc | apply pw_below_drewN | apply below_drew1 | refine below_set ?_ (by simp))) HB.out.size)); (case aS => exact Nat.le_trans HB.out.size (Below.size (B := wr.heap.size) (w := wr) (by repeat (first | exact Below.refl _ _ | apply below_alloc | apply pw_below_drewN | apply below_drew1 | refine below_set ?_ (by simp))))); (case aL => rw [List.length_map, List.length_take]; omega); intro v1 w1 ho hb1 hg hat; rw [HSN.out] at ho; have HO1 := Aside0.mk ho; have HB1 := Aside0.mk hb1; clear ho hb1 hg hat)
            go_roundg k1
            case measure => omega
            case rel => exact ⟨n + 1, by omega, by go_num, HO1, HB1⟩
          · have b9 : (x0 != 9) = true := by simp [q9]
            have hbx : bareS ⟨x0, x1, x2, x3⟩ = ⟨x0, (⟨#[]⟩ : ByteArray), 0, 0⟩ := by simp [bareS, *]
            rw [hbx] at hsn
            have HSN := Aside0.mk hsn
            clear hsn hbx
            go_wp2_with (first | (with_reducible refine gate_builtin (b := .append) (xs := #[.tmp 30, .tmp 32]) rfl ?_); at_builtin; refine Kd.R_append k33 (w0 := w) w.heap.size rfl (.tmp 30) (.tmp 32) 23 33 (.agg #[(.int .i64 0), (.string ⟨#[]⟩), (.int .i64 0), (.int .i64 0)]) 40 rfl Tryd.underlying23 info33 rfl (by decide) (by omega) u3 ((l.take n).map bareS) (⟨x0, (⟨#[]⟩ : ByteArray), 0, 0⟩ : S33) [.int .i64 x0, .string (⟨#[]⟩ : ByteArray), .int .i64 0, .int .i64 0] (fun _ => True) (fun _ => False) rfl (by first | (go_simp; done) | (go_simp; rfl)) ?aP (fun _ hk => hk.elim) (fun _ _ => trivial) ?aO ?aB ?aS ?aL ?_; (case aP => exact k33_mkM _ _ _ (⟨x0, (⟨#[]⟩ : ByteArray), 0, 0⟩ : S33)); (case aO => exact Kd.R_below HO.out (by repeat (first | exact Below.refl _ _ | apply below_alloc | apply pw_below_drewN | apply below_drew1 | refine below_set ?_ (by simp)))); (case aB => exact HB.out.trans (Below.mono (by repeat (first | exact Below.refl _ _ | apply below_alloc | apply pw_below_drewN | apply below_drew1 | refine below_set ?_ (by simp))) HB.out.size)); (case aS => exact Nat.le_trans HB.out.size (Below.size (B := wr.heap.size) (w := wr) (by repeat (first | exact Below.refl _ _ | apply below_alloc | apply pw_below_drewN | apply below_drew1 | refine below_set ?_ (by simp))))); (case aL => rw [List.length_map, List.length_take]; omega); intro v1 w1 ho hb1 hg hat; rw [HSN.out] at ho; have HO1 := Aside0.mk ho; have HB1 := Aside0.mk hb1; clear ho hb1 hg hat)
            go_roundg k1
            case measure => omega
            case rel => exact ⟨n + 1, by omega, by go_num, HO1, HB1⟩
/-- What a row of tokens that is handed in is like. -/
def ToksOk (l : List S33) : Prop := l.length ≤ 1048576 ∧ ∀ x ∈ l, (-9223372036854775808 ≤ x.f0 ∧ x.f0 ≤ 9223372036854775807) ∧ (-9223372036854775808 ≤ x.f2 ∧ x.f2 ≤ 9223372036854775807) ∧ x.f1.size ≤ 1048576
theorem jb_le : ∀ (l : List JT) (B : Nat), (∀ x ∈ l, x.t.length ≤ B) → jb l ≤ l.length * (6 * B + 30)
  | [], _, _ => by simp [jb]
  | x :: l, B, h => by
    have h1 := jb_le l B (fun y hy => h y (by simp [hy]))
    have h2 := h x (by simp)
    have e : jb (x :: l) = 6 * x.t.length + 30 + jb l := rfl
    rw [e, List.length_cons, Nat.add_mul, Nat.one_mul]
    omega
theorem toksOk_join {l : List S33} (h : ToksOk l) : joinOk (l.map toJ) = true := by
  obtain ⟨h1, h2⟩ := h
  have h3 := jb_le (l.map toJ) 1048576 (fun x hx => by
    obtain ⟨y, hy, rfl⟩ := List.mem_map.1 hx
    exact (h2 y hy).2.2)
  rw [List.length_map] at h3
  unfold joinOk
  simp only [Bool.and_eq_true, decide_eq_true_eq, List.all_eq_true, List.length_map]
  refine ⟨by omega, Nat.le_trans h3 (by omega), fun x hx => ?_⟩
  obtain ⟨y, hy, rfl⟩ := List.mem_map.1 hx
  obtain ⟨g1, g2, g3⟩ := h2 y hy
  unfold jtOk toJ
  simp only [Bool.and_eq_true, decide_eq_true_eq]
  exact ⟨g1, g2, Nat.le_trans g3 (by decide)⟩
def unb (p : Nat × List UInt8 × Int) : S33 := ⟨p.1, toB p.2.1, p.2.2, 0⟩
theorem toJ_toS (t : Tk) : toJ (toS t) = tkJ t := by
  unfold toJ toS tkJ
  simp [toB]
theorem bareS_unb (x : S33) (h : 0 ≤ x.f0) : bareS x = unb (bareJ (toJ x)) := by
  obtain ⟨x0, x1, x2, x3⟩ := x
  unfold bareS unb bareJ toJ
  simp only
  rw [Int.toNat_of_nonneg h]
  congr 1
  split
  · rfl
  · rfl
theorem bare_same {ts : List Tk} {l : List S33} (h : ts.map bareT = (l.map toJ).map bareJ) (ht : ∀ x ∈ ts, bareJ (tkJ x) = bareT x) (hl : ∀ x ∈ l, 0 ≤ x.f0) : (ts.map toS).map bareS = l.map bareS := by
  have e1 : (ts.map toS).map bareS = (ts.map bareT).map unb := by
    rw [List.map_map, List.map_map]
    refine List.map_congr_left fun x hx => ?_
    show bareS (toS x) = unb (bareT x)
    rw [bareS_unb _ (by show (0 : Int) ≤ (x.kind : Int); omega), toJ_toS, ht x hx]
  have e2 : l.map bareS = ((l.map toJ).map bareJ).map unb := by
    rw [List.map_map, List.map_map]
    exact List.map_congr_left fun x hx => bareS_unb x (hl x hx)
  rw [e1, e2, h]
end Go.Proofs.YtidkjiglmfhjpaaDoor.Lx
