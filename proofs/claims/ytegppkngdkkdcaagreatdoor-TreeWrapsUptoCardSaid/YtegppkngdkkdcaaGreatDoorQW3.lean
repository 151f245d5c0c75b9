/- What TreeWraps stands on, part 3. -/
import Derived.Test.YtegppkngdkkdcaaGreatDoorQW2
set_option linter.unusedVariables false
set_option linter.unusedSimpArgs false
section
set_option linter.unusedVariables false
set_option linter.unusedSimpArgs false
namespace Go.Proofs.YtegppkngdkkdcaaGreatDoor.Tr
open Go.RowKit Go.Proofs.YtegppkngdkkdcaaGreatDoorW.PrintWords Go.Proofs.YtegppkngdkkdcaaGreatDoorW.PrintLast Go.Proofs.YtegppkngdkkdcaaGreatDoorW.PrintMore
open Go.Proofs.YtegppkngdkkdcaaGreatDoor.Lx Go.Proofs.YtegppkngdkkdcaaGreatDoor.PS
theorem set5_mid (A R : List Value) (b0 b1 b2 b3 b4 a0 a1 a2 a3 a4 : Value) : ((((((A ++ b0 :: b1 :: b2 :: b3 :: b4 :: R).set A.length a0).set (A.length + 1) a1).set (A.length + 2) a2).set (A.length + 3) a3).set (A.length + 4) a4) = A ++ a0 :: a1 :: a2 :: a3 :: a4 :: R := by
  simp [List.set_append]
theorem five_of (l : List Value) (h : 5 ≤ l.length) : ∃ b0 b1 b2 b3 b4 R, l = b0 :: b1 :: b2 :: b3 :: b4 :: R := by
  match l, h with
  | b0 :: b1 :: b2 :: b3 :: b4 :: R, _ => exact ⟨_, _, _, _, _, _, rfl⟩
theorem list_put5 {l inner : List Value} {k m : Nat} (hk : k + 5 ≤ m) (h : l.take m = inner) (hm : m ≤ l.length) (a0 a1 a2 a3 a4 : Value) :
    (((((l.set k a0).set (k + 1) a1).set (k + 2) a2).set (k + 3) a3).set (k + 4) a4).take m = inner.take k ++ [a0, a1, a2, a3, a4] ++ inner.drop (k + 5) := by
  have hl : inner.length = m := by rw [← h, List.length_take]; omega
  simp only [List.take_set, h]
  obtain ⟨b0, b1, b2, b3, b4, R, hd⟩ := five_of (inner.drop k) (by rw [List.length_drop]; omega)
  have e : inner = inner.take k ++ b0 :: b1 :: b2 :: b3 :: b4 :: R := by rw [← hd, List.take_append_drop]
  have ek : (inner.take k).length = k := by rw [List.length_take]; omega
  have e5 : inner.drop (k + 5) = R := by rw [← List.drop_drop, hd]; rfl
  have hs := set5_mid (inner.take k) R b0 b1 b2 b3 b4 a0 a1 a2 a3 a4
  rw [← e, ek] at hs
  rw [hs, e5]
  simp
theorem put5_at {w : World} {base g n c i : Nat} {e : TypeId} {inner : List Value} (hi : i < n) (h : w.ownsRow base e 5 (.slice (some ⟨g, 0, none⟩) n c) n inner) (a0 a1 a2 a3 a4 : Value) :
    (put5 w g (i * 5) a0 a1 a2 a3 a4).ownsRow base e 5 (.slice (some ⟨g, 0, none⟩) n c) n (inner.take (i * 5) ++ [a0, a1, a2, a3, a4] ++ inner.drop (i * 5 + 5)) := by
  have hi5 : i * 5 + 5 ≤ n * 5 := by omega
  obtain ⟨h1, h2⟩ := h
  refine ⟨by simp only [List.length_append, List.length_take, List.length_drop, List.length_cons, List.length_nil]; omega, ?_⟩
  rcases h2 with ⟨h2, _⟩ | ⟨g', cap, cur, hv, hg, hh, r1, r2, r3, r4⟩
  · cases h2
  · injection hv with e1 e2 e3
    injection e1 with e1
    injection e1 with e1
    subst e1
    refine .inr ⟨g, cap, _, by rw [e3], hg, put5_blk hh _ _ _ _ _, r1, r2, by simpa using r3, ?_⟩
    simp only [Array.toList_setIfInBounds]
    refine list_put5 hi5 r4 ?_ _ _ _ _ _
    rw [Array.length_toList, r3]
    exact Nat.mul_le_mul_right 5 r1
theorem put5_below {B g k : Nat} {w : World} (hb : B ≤ g) (a0 a1 a2 a3 a4 : Value) : Below B w (put5 w g k a0 a1 a2 a3 a4) :=
  (((((Below.refl B w).setCell (p := ⟨g, k, none⟩) hb a0).setCell (p := ⟨g, k + 1, none⟩) hb a1).setCell (p := ⟨g, k + 2, none⟩) hb a2).setCell (p := ⟨g, k + 3, none⟩) hb a3).setCell (p := ⟨g, k + 4, none⟩) hb a4
def CopQ (x : V) (w : World) (e : Ending) (w' : World) : Prop := Below w.heap.size w w' ∧ ∃ v3 v4, e = .returned (.agg #[.int .i64 x.f0, .int .i64 x.f1, .string x.f2, v3, v4]) ∧
  k26.R 26 w' w.heap.size (fun _ => True) v3 x.f3 ∧ Kd.string.R 9 w' w.heap.size (fun _ => True) v4 x.f4
def CopyC (d : Nat) : Prop := ∀ (x : V) (A3 : Option Addr) (c3 : Nat) (A4 : Option Addr) (c4 : Nat) (w : World), soundR d x = true → fitsR d x → x.f3.length ≤ c3 → k26.C w A3 x.f3.length x.f3 → x.f4.length ≤ c4 → Kd.string.C w A4 x.f4.length x.f4 →
  Calls Tryz.prog 30 #[vArg x A3 c3 A4 c4] w (CopQ x w)
def seg (j : Nat) (inner : List Value) : List Value := (inner.drop (j * 5)).take 5
structure CpI (k : Nat) (rs : List V) (w : World) (g base : Nat) (inner : List Value) (w2 : World) : Prop where
  l : inner.length = rs.length * 5
  m : ∀ j p, rs[j]? = some p → j < k → k26.M w2 base (fun b => b ≠ g) p (seg j inner)
  o : ∀ j p, rs[j]? = some p → k ≤ j → k26.K w p (seg j inner)
theorem seg_put (inner : List Value) (n i j : Nat) (hl : inner.length = n * 5) (hi : i < n) (s : List Value) (hs : s.length = 5) : seg j (inner.take (i * 5) ++ s ++ inner.drop (i * 5 + 5)) = if j = i then s else seg j inner := by
  unfold seg
  have hi5 : i * 5 + 5 ≤ n * 5 := by omega
  have hkl : (inner.take (i * 5)).length = i * 5 := by rw [List.length_take]; omega
  split
  · rename_i h
    subst h
    rw [List.append_assoc, List.drop_append, List.drop_eq_nil_of_le (by omega), hkl, Nat.sub_self, List.drop_zero, List.nil_append, List.take_append_of_le_length (by omega), List.take_of_length_le (by omega)]
  · rename_i h
    rcases Nat.lt_or_ge j i with h1 | h1
    · rw [List.append_assoc, List.drop_append_of_le_length (by omega), List.take_append_of_le_length (by rw [List.length_drop]; omega), List.drop_take, List.take_take, Nat.min_eq_left (by omega)]
    · rw [List.drop_append, List.drop_eq_nil_of_le (by rw [List.length_append]; omega), List.nil_append, List.drop_drop, List.length_append, hkl, hs]
      rw [show i * 5 + 5 + (j * 5 - (i * 5 + 5)) = j * 5 by omega]
theorem res_copied (tmps : Array Value) (w : World) (b : Nat) (v0 v1 v2 v3 v4 : Value) (h4 : tmps.getD 2 undef = .pointer (some ⟨b, 0, none⟩)) (hb : w.heap[b]? = some (.cells #[v0, v1, v2, v3, v4] 26 (0, 0))) :
    (results Tryz.f30 tmps).run Tryz.prog w = .ok (.agg #[v0, v1, v2, v3, v4]) w := by
  have c0 := blk_cell hb 0
  have c1 := blk_cell hb 1
  have c2 := blk_cell hb 2
  have c3 := blk_cell hb 3
  have c4 := blk_cell hb 4
  rw [Array.getD_eq_getD_getElem?] at h4
  simp at c0 c1 c2 c3 c4
  simp [results, Tryz.results30, go_sem, h4, c0, c1, c2, c3, c4]
set_option maxRecDepth 100000 in
set_option maxHeartbeats 2000000 in
theorem copied_step (x : V) (P : V → Prop) (HC : ∀ y ∈ x.f3, ∀ (A3 : Option Addr) (c3 : Nat) (A4 : Option Addr) (c4 : Nat) (w : World), y.f3.length ≤ c3 → k26.C w A3 y.f3.length y.f3 → y.f4.length ≤ c4 → Kd.string.C w A4 y.f4.length y.f4 → Calls Tryz.prog 30 #[vArg y A3 c3 A4 c4] w (CopQ y w))
    (A3 : Option Addr) (c3 : Nat) (A4 : Option Addr) (c4 : Nat) (w : World) (h3 : x.f3.length ≤ 1000000000000) (h4 : x.f4.length ≤ 1000000000000) (l3 : x.f3.length ≤ c3) (g3 : k26.C w A3 x.f3.length x.f3) (l4 : x.f4.length ≤ c4) (g4 : Kd.string.C w A4 x.f4.length x.f4) :
    Calls Tryz.prog 30 #[vArg x A3 c3 A4 c4] w (CopQ x w) := by
  have nv := blkA (blk_new w (.cells #[.int .i64 x.f0, .int .i64 x.f1, .string x.f2, .slice A3 x.f3.length c3, .slice A4 x.f4.length c4] 26 (0, 0))) (.cells zCs.toArray 26 (0, 0))
  have nz := blk_new (w.alloc (.cells #[.int .i64 x.f0, .int .i64 x.f1, .string x.f2, .slice A3 x.f3.length c3, .slice A4 x.f4.length c4] 26 (0, 0))) (.cells zCs.toArray 26 (0, 0))
  rw [show (w.alloc (.cells #[.int .i64 x.f0, .int .i64 x.f1, .string x.f2, .slice A3 x.f3.length c3, .slice A4 x.f4.length c4] 26 (0, 0))).heap.size = w.heap.size + 1 by simp] at nz
  have hb0 : Below w.heap.size w ((w.alloc (.cells #[.int .i64 x.f0, .int .i64 x.f1, .string x.f2, .slice A3 x.f3.length c3, .slice A4 x.f4.length c4] 26 (0, 0))).alloc (.cells zCs.toArray 26 (0, 0))) := ((Below.refl _ _).alloc (Nat.le_refl _) _).alloc (by simp) _
  unfold zCs at *
  have HG := Aside0.mk (And.intro g3 g4)
  have HCC := Aside0.mk HC
  unfold vArg
  clear g3 g4 HC
  go_enter Tryz.func30, Tryz.ntmps30
  go_wp2_with fail
  generalize (w.alloc (.cells #[.int .i64 x.f0, .int .i64 x.f1, .string x.f2, .slice A3 x.f3.length c3, .slice A4 x.f4.length c4] 26 (0, 0))).alloc (.cells [.int .i64 0, .int .i64 0, .string ⟨#[]⟩, .slice none 0 0, .slice none 0 0].toArray 26 (0, 0)) = W2 at *
  refine (CloneS_calls x.f4 A4 c4 w W2 hb0 h4 l4 HG.out.2).mono ?_
  rintro e w3 ⟨v4, in4, rfl, o4, r4, b3⟩
  obtain ⟨B4, d4, rfl⟩ := own_slice o4
  have hv3 := (b3.block _ (blk_lt nv)).trans nv
  have hz3 := (b3.block _ (blk_lt nz)).trans nz
  have hb3 := hb0.trans (b3.mono hb0.size)
  have x0 : w3.cell? ⟨w.heap.size, 0, none⟩ = some (.int .i64 x.f0) := blk_cell hv3 0
  have x1 : w3.cell? ⟨w.heap.size, 1, none⟩ = some (.int .i64 x.f1) := blk_cell hv3 1
  have x2 : w3.cell? ⟨w.heap.size, 2, none⟩ = some (.string x.f2) := blk_cell hv3 2
  have x3 : w3.cell? ⟨w.heap.size, 3, none⟩ = some (.slice A3 x.f3.length c3) := blk_cell hv3 3
  have x4 : w3.cell? ⟨w.heap.size, 4, none⟩ = some (.slice A4 x.f4.length c4) := blk_cell hv3 4
  have xf : ∀ j, w3.frozen? ⟨w.heap.size, j, none⟩ = false := blk_frozen hv3
  have s2 : w.heap.size + 2 ≤ W2.heap.size := by have := blk_lt nz; omega
  have hR4 : Kd.string.R 9 w3 W2.heap.size (fun _ => True) (.slice B4 x.f4.length d4) x.f4 := ⟨fun _ _ => trivial, in4, o4, r4.imp_ (fun _ _ h => h)⟩
  have hv4 := blk_put hv3 4 (.slice B4 x.f4.length d4) rfl
  have hz4 := far1 (j := 4) hz3 (show w.heap.size + 1 ≠ w.heap.size by omega) (.slice B4 x.f4.length d4)
  have hb4 : Below w.heap.size w (w3.setCell ⟨w.heap.size, 4, none⟩ (.slice B4 x.f4.length d4)) := hb3.setCell (p := ⟨w.heap.size, 4, none⟩) (Nat.le_refl _) _
  have hR44 := Kd.R_step (Kd.R_bound hR4) (w1 := w3.setCell ⟨w.heap.size, 4, none⟩ (.slice B4 x.f4.length d4)) (fun k hk _ => far_set _ _ _ _ _ (by have := hk.2.1; omega))
  have hs4 : W2.heap.size ≤ (w3.setCell ⟨w.heap.size, 4, none⟩ (.slice B4 x.f4.length d4)).heap.size := by have := b3.size; simpa [World.setCell] using this
  have H4 := Aside0.mk (And.intro hv4 (And.intro hz4 (And.intro hb4 (And.intro hR44 hs4))))
  clear o4 r4 b3 nv nz hv3 hz3 hb3 hR4 hv4 hz4 hb4 hR44 hs4
  go_wp2_with fail
  generalize w3.setCell ⟨w.heap.size, 4, none⟩ (.slice B4 x.f4.length d4) = W4 at *
  refine (CloneV_calls x.f3 A3 c3 w W4 H4.out.2.2.1 h3 l3 HG.out.1).mono ?_
  rintro e w5 ⟨v3, in3, rfl, o3, r3, b5⟩
  obtain ⟨hv4, hz4, hb4, hR4, hs4⟩ := H4.out
  obtain ⟨B3, d3, rfl⟩ := own_slice o3
  have hv5 := (b5.block _ (blk_lt hv4)).trans hv4
  have hz5 := (b5.block _ (blk_lt hz4)).trans hz4
  have hb5 := hb4.trans (b5.mono hb4.size)
  have hR5 := Kd.R_below hR4 b5
  clear x0 x1 x2 x3 x4 xf H4
  have x0 : w5.cell? ⟨w.heap.size, 0, none⟩ = some (.int .i64 x.f0) := blk_cell hv5 0
  have x1 : w5.cell? ⟨w.heap.size, 1, none⟩ = some (.int .i64 x.f1) := blk_cell hv5 1
  have x2 : w5.cell? ⟨w.heap.size, 2, none⟩ = some (.string x.f2) := blk_cell hv5 2
  have x3 : w5.cell? ⟨w.heap.size, 3, none⟩ = some (.slice A3 x.f3.length c3) := blk_cell hv5 3
  have x4 : w5.cell? ⟨w.heap.size, 4, none⟩ = some (.slice B4 x.f4.length d4) := blk_cell hv5 4
  have xf : ∀ j, w5.frozen? ⟨w.heap.size, j, none⟩ = false := blk_frozen hv5
  have hv6 := blk_put hv5 3 (.slice B3 x.f3.length d3) rfl
  have hz6 := far1 (j := 3) hz5 (show w.heap.size + 1 ≠ w.heap.size by omega) (.slice B3 x.f3.length d3)
  have hb6 : Below w.heap.size w (w5.setCell ⟨w.heap.size, 3, none⟩ (.slice B3 x.f3.length d3)) := hb5.setCell (p := ⟨w.heap.size, 3, none⟩) (Nat.le_refl _) _
  have hR6 := Kd.R_step hR5 (w1 := w5.setCell ⟨w.heap.size, 3, none⟩ (.slice B3 x.f3.length d3)) (fun k hk _ => far_set _ _ _ _ _ (by have := hk.2.1; omega))
  have hs6 : W4.heap.size ≤ (w5.setCell ⟨w.heap.size, 3, none⟩ (.slice B3 x.f3.length d3)).heap.size := by have := b5.size; simpa [World.setCell] using this
  have ho6 : (w5.setCell ⟨w.heap.size, 3, none⟩ (.slice B3 x.f3.length d3)).ownsRow W2.heap.size 26 5 (.slice B3 x.f3.length d3) x.f3.length in3 := own_weaken (own_move o3 (fun k hk => far_set _ _ _ _ _ (by have := own_base o3 k hk; omega))) hs4
  obtain ⟨g, hg, hgb⟩ : ∃ g, (0 < x.f3.length → B3 = some ⟨g, 0, none⟩) ∧ W4.heap.size ≤ g := by
    rcases o3.2 with ⟨e, h0⟩ | ⟨g, cap, cur, e, hb, _⟩
    · exact ⟨W4.heap.size, fun h => by omega, Nat.le_refl _⟩
    · injection e with e _ _
      exact ⟨g, fun _ => e, hb⟩
  have hI6 : CpI 0 x.f3 w g W2.heap.size in3 (w5.setCell ⟨w.heap.size, 3, none⟩ (.slice B3 x.f3.length d3)) := ⟨r3.1, fun j p _ h => absurd h (Nat.not_lt_zero _), fun j p hj _ => r3.2 j p hj⟩
  have H6 := Aside0.mk (And.intro hv6 (And.intro hz6 (And.intro hb6 (And.intro (Kd.R_mono hR6 (ok' := fun k => W2.heap.size ≤ k) (fun k hk => hk.2.1)) (And.intro hs6 (And.intro ho6 hI6))))))
  clear o3 r3 b5 hv4 hz4 hb4 hR4 hv5 hz5 hb5 hR5 hv6 hz6 hb6 hR6 hs6 ho6 hI6
  go_wp2_with fail
  generalize w5.setCell ⟨w.heap.size, 3, none⟩ (.slice B3 x.f3.length d3) = W6 at *
  clear x0 x1 x2 x3 x4 xf
  go_loopg [3, 4, 16] x.f3.length (fun kq v3 v4 v16 w2 => ∃ (k : Nat) (inner : List Value), k + kq = x.f3.length ∧ v16 = .int .i64 k ∧ W4.heap.size ≤ w2.heap.size ∧ Aside0 (w2.heap[w.heap.size]? = some (.cells #[.int .i64 x.f0, .int .i64 x.f1, .string x.f2, .slice B3 x.f3.length d3, .slice B4 x.f4.length d4] 26 (0, 0))) ∧
    Aside0 (w2.heap[w.heap.size + 1]? = some (.cells #[.int .i64 0, .int .i64 0, .string ⟨#[]⟩, .slice none 0 0, .slice none 0 0] 26 (0, 0))) ∧ Aside0 (Below w.heap.size w w2) ∧ Aside0 (Kd.string.R 9 w2 W2.heap.size (fun k => W2.heap.size ≤ k) (.slice B4 x.f4.length d4) x.f4) ∧
    Aside0 (w2.ownsRow W2.heap.size 26 5 (.slice B3 x.f3.length d3) x.f3.length inner) ∧ Aside0 (CpI k x.f3 w g W2.heap.size inner w2))
  case atStart => exact ⟨0, in3, by omega, rfl, H6.out.2.2.2.2.1, Aside0.mk H6.out.1, Aside0.mk H6.out.2.1, Aside0.mk H6.out.2.2.1, Aside0.mk H6.out.2.2.2.1, Aside0.mk H6.out.2.2.2.2.2.1, Aside0.mk H6.out.2.2.2.2.2.2⟩
  case round =>
    obtain ⟨k, inner, hk, rfl, hsr, HV, HZ, HB, HR, HO, HI⟩ := hrel
    clear H6
    have x0 : wr.cell? ⟨w.heap.size, 0, none⟩ = some (.int .i64 x.f0) := blk_cell HV.out 0
    have x1 : wr.cell? ⟨w.heap.size, 1, none⟩ = some (.int .i64 x.f1) := blk_cell HV.out 1
    have x2 : wr.cell? ⟨w.heap.size, 2, none⟩ = some (.string x.f2) := blk_cell HV.out 2
    have x3 : wr.cell? ⟨w.heap.size, 3, none⟩ = some (.slice B3 x.f3.length d3) := blk_cell HV.out 3
    have x4 : wr.cell? ⟨w.heap.size, 4, none⟩ = some (.slice B4 x.f4.length d4) := blk_cell HV.out 4
    cases gk with
    | zero =>
      have hge : ¬ ((k : Nat) : Int) < (x.f3.length : Int) := by omega
      obtain rfl : k = x.f3.length := by omega
      have y0 : wr.cell? ⟨w.heap.size + 1, 0, none⟩ = some (.int .i64 0) := blk_cell HZ.out 0
      have y1 : wr.cell? ⟨w.heap.size + 1, 1, none⟩ = some (.int .i64 0) := blk_cell HZ.out 1
      have y2 : wr.cell? ⟨w.heap.size + 1, 2, none⟩ = some (.string ⟨#[]⟩) := blk_cell HZ.out 2
      have y3 : wr.cell? ⟨w.heap.size + 1, 3, none⟩ = some (.slice none 0 0) := blk_cell HZ.out 3
      have y4 : wr.cell? ⟨w.heap.size + 1, 4, none⟩ = some (.slice none 0 0) := blk_cell HZ.out 4
      have yf : ∀ j, wr.frozen? ⟨w.heap.size + 1, j, none⟩ = false := blk_frozen HZ.out
      go_wp2
      have hz7 := blk_set5 HZ.out (.int .i64 x.f0) (.int .i64 x.f1) (.string x.f2) (.slice B3 x.f3.length d3) (.slice B4 x.f4.length d4)
      refine bodyPost_ret (v := .agg #[.int .i64 x.f0, .int .i64 x.f1, .string x.f2, .slice B3 x.f3.length d3, .slice B4 x.f4.length d4]) (res_copied _ _ (w.heap.size + 1) _ _ _ _ _ rfl hz7) rfl ?_
      have hfar : ∀ k, W2.heap.size ≤ k → (((((wr.setCell ⟨w.heap.size + 1, 0, none⟩ (.int .i64 x.f0)).setCell ⟨w.heap.size + 1, 1, none⟩ (.int .i64 x.f1)).setCell ⟨w.heap.size + 1, 2, none⟩ (.string x.f2)).setCell ⟨w.heap.size + 1, 3, none⟩ (.slice B3 x.f3.length d3)).setCell ⟨w.heap.size + 1, 4, none⟩ (.slice B4 x.f4.length d4)).heap[k]? = wr.heap[k]? := fun k hk => far5' (by omega) _ _ _ _ _
      refine ⟨below5 HB.out (by omega) _ _ _ _ _, _, _, rfl, ?_, ?_⟩
      · refine Kd.R_lower (Kd.R_step (w := wr) (base := W2.heap.size) (ok := fun k => W2.heap.size ≤ k) ?_ (fun k hk _ => hfar k hk) |> fun h => Kd.R_mono h (fun _ _ => trivial)) (by omega)
        refine ⟨fun k hk => own_base HO.out k hk, inner, HO.out, HI.out.l, fun j p hj => ?_⟩
        have hm := HI.out.m j p hj (List.getElem?_eq_some_iff.1 hj).1
        refine k26.M_mono (fun k hk => ⟨hk.2.1, fun e => hk.1 ?_⟩) (k26.M_bound hm)
        have hpos : 0 < x.f3.length := by have := (List.getElem?_eq_some_iff.1 hj).1; omega
        rw [hg hpos] at e
        simpa [Value.ownBlock] using e
      · exact Kd.R_lower (Kd.R_mono (Kd.R_step HR.out (fun k hk _ => hfar k hk)) (fun _ _ => trivial)) (by omega)
    | succ k1 =>
      have hlt : ((k : Nat) : Int) < (x.f3.length : Int) := by omega
      have hlt' : k < x.f3.length := by omega
      obtain rfl := hg (by omega)
      have hget : x.f3[k]? = some x.f3[k] := List.getElem?_eq_getElem hlt'
      obtain ⟨E3, e3, E4, e4, hsg, m3, q3, m4, q4⟩ := k26_open (HI.out.o k x.f3[k] hget (Nat.le_refl _))
      have hin : ∀ j, j < 5 → inner[k * 5 + j]? = (seg k inner)[j]? := fun j hj => by
        unfold seg
        rw [List.getElem?_take, if_pos hj, List.getElem?_drop]
      have hcell : ∀ j u, j < 5 → (seg k inner)[j]? = some u → wr.cell? ⟨g, k * 5 + j, none⟩ = some u := fun j u hj hu => by
        have h := HO.out.cells (g := g) rfl _ _ ((hin j hj).trans hu)
        rwa [show (⟨g, 0, none⟩ : Addr).add (k * 5 + j) = ⟨g, k * 5 + j, none⟩ by unfold Addr.add; split <;> simp_all] at h
      rw [hsg] at hcell
      have r0 : wr.cell? ⟨g, k * 5, none⟩ = some (.int .i64 x.f3[k].f0) := hcell 0 _ (by omega) rfl
      have r1 : wr.cell? ⟨g, k * 5 + 1, none⟩ = some (.int .i64 x.f3[k].f1) := hcell 1 _ (by omega) rfl
      have r2 : wr.cell? ⟨g, k * 5 + 2, none⟩ = some (.string x.f3[k].f2) := hcell 2 _ (by omega) rfl
      have r3 : wr.cell? ⟨g, k * 5 + 3, none⟩ = some (.slice E3 x.f3[k].f3.length e3) := hcell 3 _ (by omega) rfl
      have r4 : wr.cell? ⟨g, k * 5 + 4, none⟩ = some (.slice E4 x.f3[k].f4.length e4) := hcell 4 _ (by omega) rfl
      have HY := Aside0.mk (HCC.out x.f3[k] (List.getElem_mem _))
      have HGET := Aside0.mk hget
      have HQ := Aside0.mk (And.intro m3 (And.intro q3 (And.intro m4 q4)))
      have HCELL := Aside0.mk (fun (j : Nat) (u : Value) (hj : j < 5) (hu : [Value.int .i64 x.f3[k].f0, .int .i64 x.f3[k].f1, .string x.f3[k].f2, .slice E3 x.f3[k].f3.length e3, .slice E4 x.f3[k].f4.length e4][j]? = some u) => (show inner[k * 5 + j]? = some u from (hin j hj).trans (hsg ▸ hu)))
      clear hin hcell hsg m3 q3 m4 q4 hget
      generalize x.f3[k] = y at *
      have hba := (Below.refl wr.heap.size wr).alloc (Nat.le_refl _) (.cells #[.int .i64 y.f0, .int .i64 y.f1, .string y.f2, .slice E3 y.f3.length e3, .slice E4 y.f4.length e4] 26 (0, 0))
      have HBA := Aside0.mk hba
      have NV := Aside0.mk (blk_new wr (.cells #[.int .i64 y.f0, .int .i64 y.f1, .string y.f2, .slice E3 y.f3.length e3, .slice E4 y.f4.length e4] 26 (0, 0)))
      clear hba
      go_wp2_with fail
      have hv7 := (HBA.out.block _ (blk_lt HV.out)).trans HV.out
      have nv7 := NV.out
      have s7 : wr.heap.size + 1 ≤ (wr.alloc (.cells #[.int .i64 y.f0, .int .i64 y.f1, .string y.f2, .slice E3 y.f3.length e3, .slice E4 y.f4.length e4] 26 (0, 0))).heap.size := by simp
      clear x0 x1 x2 x3 x4 r0 r1 r2 r3 r4
      generalize wr.alloc (.cells #[.int .i64 y.f0, .int .i64 y.f1, .string y.f2, .slice E3 y.f3.length e3, .slice E4 y.f4.length e4] 26 (0, 0)) = W7 at *
      have k3 : W7.drew.cell? ⟨w.heap.size, 3, none⟩ = some (.slice (some ⟨g, 0, none⟩) x.f3.length d3) := blk_cell (w := W7.drew) hv7 3
      have b0 : W7.drew.cell? ⟨wr.heap.size, 0, none⟩ = some (.int .i64 y.f0) := blk_cell (w := W7.drew) nv7 0
      have b1 : W7.drew.cell? ⟨wr.heap.size, 1, none⟩ = some (.int .i64 y.f1) := blk_cell (w := W7.drew) nv7 1
      have b2 : W7.drew.cell? ⟨wr.heap.size, 2, none⟩ = some (.string y.f2) := blk_cell (w := W7.drew) nv7 2
      have b3 : W7.drew.cell? ⟨wr.heap.size, 3, none⟩ = some (.slice E3 y.f3.length e3) := blk_cell (w := W7.drew) nv7 3
      have b4 : W7.drew.cell? ⟨wr.heap.size, 4, none⟩ = some (.slice E4 y.f4.length e4) := blk_cell (w := W7.drew) nv7 4
      have hdr : Below W7.heap.size W7 W7.drew := ⟨rfl, rfl, rfl, Nat.le_refl _, fun _ _ => rfl⟩
      have hltn : k < x.f3.length := hlt'
      refine start_ (n := 7) (S := fun w' => w'.cell? ⟨w.heap.size, 3, none⟩ = some (.slice (some ⟨g, 0, none⟩) x.f3.length d3) ∧ w'.cell? ⟨wr.heap.size, 0, none⟩ = some (.int .i64 y.f0) ∧ w'.cell? ⟨wr.heap.size, 1, none⟩ = some (.int .i64 y.f1) ∧ w'.cell? ⟨wr.heap.size, 2, none⟩ = some (.string y.f2) ∧ w'.cell? ⟨wr.heap.size, 3, none⟩ = some (.slice E3 y.f3.length e3) ∧ w'.cell? ⟨wr.heap.size, 4, none⟩ = some (.slice E4 y.f4.length e4)) (ds := [6]) #[false, false, false, false, false, false, false] (by kernel_rfl) rfl rfl ⟨k3, b0, b1, b2, b3, b4⟩ (fun hHeld => ?_)
      refine pure_ (i := 0) (N := some 21) (v := ?_) (a' := ?_) #[true, false, false, false, false, false, false] rfl rfl (by kernel_rfl) (fun _ _ _ h => h) (Or.inl ⟨by rfl, ?_⟩) ?_ ?_
      rotate_left
      · intro w'
        go_simp
        with_reducible rfl
      rotate_left
      · simp only [Act.put, List.setIfInBounds_toArray, List.set_cons_zero, List.set_cons_succ, i64_w, i32_w]
        rfl
      refine take_ (i := 1) (N := some 22) (v := ?_) (a' := ?_) #[true, true, false, false, false, false, false] rfl rfl (by kernel_rfl) (fun _ _ _ h => h) (Or.inl ⟨by rfl, ?_⟩) hHeld ?_ ?_
      rotate_left
      · rintro w' ⟨g3, g4, g5, g6, g7, g8⟩
        go_simp
        with_reducible rfl
      rotate_left
      · simp only [Act.put, List.setIfInBounds_toArray, List.set_cons_zero, List.set_cons_succ, i64_w, i32_w]
        rfl
      refine pure_ (i := 2) (N := some 23) (v := ?_) (a' := ?_) #[true, true, true, false, false, false, false] rfl rfl (by kernel_rfl) (fun _ _ _ h => h) (Or.inl ⟨by rfl, ?_⟩) ?_ ?_
      rotate_left
      · intro w'
        go_simp
        with_reducible rfl
      rotate_left
      · simp only [Act.put, List.setIfInBounds_toArray, List.set_cons_zero, List.set_cons_succ, i64_w, i32_w]
        rfl
      refine take_ (i := 3) (N := some 24) (v := ?_) (a' := ?_) #[true, true, true, true, false, false, false] rfl rfl (by kernel_rfl) (fun _ _ _ h => h) (Or.inl ⟨by rfl, ?_⟩) hHeld ?_ ?_
      rotate_left
      · rintro w' ⟨g3, g4, g5, g6, g7, g8⟩
        go_simp
        with_reducible rfl
      rotate_left
      · simp only [Act.put, List.setIfInBounds_toArray, List.set_cons_zero, List.set_cons_succ, i64_w, i32_w]
        rfl
      refine one_ (i := 4) (N := some 25) #[true, true, true, true, true, false, false] rfl rfl (by kernel_rfl) (by decide) (fun K hK => ?_)
      refine goes_ Tryz.func30 (by kernel_rfl) rfl #[.agg #[.int .i64 y.f0, .int .i64 y.f1, .string y.f2, .slice E3 y.f3.length e3, .slice E4 y.f4.length e4]] (by rfl) rfl rfl (by simp only [List.map_toArray, List.map_cons, List.map_nil]; rfl) ?_
      have hw7 : Below w.heap.size w W7.drew := (HB.out.trans (HBA.out.mono HB.out.size)).trans (hdr.mono (by have := HB.out.size; omega))
      have H := Aside0.mk (HY.out E3 e3 E4 e4 W7.drew HQ.out.1 (Kd.C_below HQ.out.2.1 hw7) HQ.out.2.2.1 (Kd.C_below HQ.out.2.2.2 hw7))
      unfold vArg at H
      refine H.out.mono ?_
      rintro e w8 ⟨hb8, v3, v4, rfl, hr3, hr4⟩
      have h8v := (hb8.block _ (blk_lt hv7)).trans hv7
      have h8n := (hb8.block _ (blk_lt nv7)).trans nv7
      refine ⟨_, rfl, ?_⟩
      refine hK.out _ _ ⟨blk_cell h8v 3, blk_cell h8n 0, blk_cell h8n 1, blk_cell h8n 2, blk_cell h8n 3, blk_cell h8n 4⟩ fun hHeld => ?_
      clear hK K H
      obtain ⟨F3, f3', rfl⟩ := Kd.R_slice hr3
      obtain ⟨F4, f4', rfl⟩ := Kd.R_slice hr4
      refine pure_ (i := 5) (N := some 26) (v := ?_) (a' := ?_) #[true, true, true, true, true, true, false] rfl rfl (by kernel_rfl) (fun _ _ _ h => h) (Or.inl ⟨by rfl, ?_⟩) ?_ ?_
      rotate_left
      · intro w'
        go_simp
        with_reducible rfl
      rotate_left
      · simp only [Act.put, List.setIfInBounds_toArray, List.set_cons_zero, List.set_cons_succ, i64_w, i32_w]
        rfl
      have hwb8 : Below wr.heap.size wr w8 := (HBA.out.trans (hdr.mono (by omega))).trans (hb8.mono (by show wr.heap.size ≤ W7.drew.heap.size; have : W7.drew.heap.size = W7.heap.size := rfl; omega))
      have ho8 := own_move HO.out (w1 := w8) (fun j hj => hwb8.block j (own_lt HO.out j hj))
      have hgs : g < wr.heap.size := own_lt HO.out g (by simp [Value.ownBlock])
      obtain ⟨cur8, hcur8⟩ : ∃ cur, w8.heap[g]? = some (.cells cur 26 (0, 0)) := by
        rcases ho8.2 with ⟨h, _⟩ | ⟨g', cap, cur, h, h', hh, _⟩
        · cases h
        · injection h with e1 e2 e3
          injection e1 with e1
          injection e1 with e1
          subst e1
          exact ⟨cur, hh⟩
      have hfz8 : ∀ j, w8.frozen? ⟨g, j, none⟩ = false := blk_frozen hcur8
      have hgc8 : ∀ j u, j < 5 → [Value.int .i64 y.f0, .int .i64 y.f1, .string y.f2, .slice E3 y.f3.length e3, .slice E4 y.f4.length e4][j]? = some u → w8.cell? ⟨g, k * 5 + j, none⟩ = some u := fun j u hj hu => by
        have h := ho8.cells (g := g) rfl _ _ (HCELL.out j u hj hu)
        rwa [show (⟨g, 0, none⟩ : Addr).add (k * 5 + j) = ⟨g, k * 5 + j, none⟩ by unfold Addr.add; split <;> simp_all] at h
      have z0 : w8.cell? ⟨g, k * 5, none⟩ = some (.int .i64 y.f0) := hgc8 0 _ (by omega) rfl
      have z1 : w8.cell? ⟨g, k * 5 + 1, none⟩ = some (.int .i64 y.f1) := hgc8 1 _ (by omega) rfl
      have z2 : w8.cell? ⟨g, k * 5 + 2, none⟩ = some (.string y.f2) := hgc8 2 _ (by omega) rfl
      have z3 : w8.cell? ⟨g, k * 5 + 3, none⟩ = some (.slice E3 y.f3.length e3) := hgc8 3 _ (by omega) rfl
      have z4 : w8.cell? ⟨g, k * 5 + 4, none⟩ = some (.slice E4 y.f4.length e4) := hgc8 4 _ (by omega) rfl
      refine last_ (i := 6) (N := none) #[true, true, true, true, true, true, true] rfl rfl (by kernel_rfl) (by decide) (fun K hK => ?_)
      rw [if_pos (by rfl)]
      unfold Oper.wp
      go_simp
      refine hK.out _ _ ?_
      clear hK K hHeld
      refine done_ (by kernel_rfl) ?_
      have h7s : W7.drew.heap.size = W7.heap.size := rfl
      have h9 : (((((w8.setCell ⟨g, k * 5, none⟩ (.int .i64 y.f0)).setCell ⟨g, k * 5 + 1, none⟩ (.int .i64 y.f1)).setCell ⟨g, k * 5 + 2, none⟩ (.string y.f2)).setCell ⟨g, k * 5 + 3, none⟩ (.slice F3 y.f3.length f3')).setCell ⟨g, k * 5 + 4, none⟩ (.slice F4 y.f4.length f4')) = put5 w8 g (k * 5) (.int .i64 y.f0) (.int .i64 y.f1) (.string y.f2) (.slice F3 y.f3.length f3') (.slice F4 y.f4.length f4') := rfl
      rw [h9]
      have hfar : ∀ j, j ≠ g → (put5 w8 g (k * 5) (.int .i64 y.f0) (.int .i64 y.f1) (.string y.f2) (.slice F3 y.f3.length f3') (.slice F4 y.f4.length f4')).heap[j]? = w8.heap[j]? := fun j hj => put5_far hj _ _ _ _ _
      have hV9 := (hfar w.heap.size (by omega)).trans h8v
      have hZ9 := (hfar (w.heap.size + 1) (by omega)).trans ((hwb8.block _ (blk_lt HZ.out)).trans HZ.out)
      have hB9 : Below w.heap.size w (put5 w8 g (k * 5) (.int .i64 y.f0) (.int .i64 y.f1) (.string y.f2) (.slice F3 y.f3.length f3') (.slice F4 y.f4.length f4')) := (hw7.trans (hb8.mono hw7.size)).trans (put5_below (by omega) _ _ _ _ _)
      have hS9 : wr.heap.size ≤ (put5 w8 g (k * 5) (.int .i64 y.f0) (.int .i64 y.f1) (.string y.f2) (.slice F3 y.f3.length f3') (.slice F4 y.f4.length f4')).heap.size := Nat.le_trans hwb8.size (put5_same _ _ _ _ _ _ _ _).size
      have hR9 := Kd.R_mono (Kd.R_step (Kd.R_types (Kd.R_below HR.out hwb8) hcur8 (by decide)) (fun j hj _ => hfar j hj.2)) (ok' := fun k => W2.heap.size ≤ k) (fun j hj => hj.1)
      have hO9 := put5_at hlt' ho8 (.int .i64 y.f0) (.int .i64 y.f1) (.string y.f2) (.slice F3 y.f3.length f3') (.slice F4 y.f4.length f4')
      have hI9 : CpI (k + 1) x.f3 w g W2.heap.size (inner.take (k * 5) ++ [.int .i64 y.f0, .int .i64 y.f1, .string y.f2, .slice F3 y.f3.length f3', .slice F4 y.f4.length f4'] ++ inner.drop (k * 5 + 5)) (put5 w8 g (k * 5) (.int .i64 y.f0) (.int .i64 y.f1) (.string y.f2) (.slice F3 y.f3.length f3') (.slice F4 y.f4.length f4')) := by
        refine ⟨hO9.1, fun j p hj hjk => ?_, fun j p hj hjk => ?_⟩
        · rw [seg_put inner x.f3.length k j HI.out.l hlt' _ rfl]
          split
          · rename_i e
            subst e
            have hpy : p = y := Option.some.inj (hj.symm.trans HGET.out)
            subst hpy
            have hM := k26.M_bound (k26_mkM w8 W7.drew.heap.size (fun _ => True) p hr3 hr4)
            exact k26.M_lower (by omega) (Kd.M_step (k26.M_mono (fun j hj => (show j ≠ g by have := hj.2.1; omega)) hM) (fun j hj _ => hfar j hj))
          · have hm := HI.out.m j p hj (by omega)
            exact Kd.M_step (Kd.M_step hm (fun j _ hj => hwb8.block j hj)) (fun j hj _ => hfar j hj)
        · rw [seg_put inner x.f3.length k j HI.out.l hlt' _ rfl, if_neg (by omega)]
          exact HI.out.o j p hj (by omega)
      have A9 := Aside0.mk (And.intro hV9 (And.intro hZ9 (And.intro hB9 (And.intro hR9 (And.intro hO9 (And.intro hI9 hS9))))))
      clear hV9 hZ9 hB9 hR9 hO9 hI9 hS9 h9 hfar z0 z1 z2 z3 z4 hgc8 hfz8 hcur8 ho8 hwb8 hr3 hr4 h8v h8n hb8 b0 b1 b2 b3 b4 k3 hdr hv7 nv7
      generalize put5 w8 g (k * 5) (.int .i64 y.f0) (.int .i64 y.f1) (.string y.f2) (.slice F3 y.f3.length f3') (.slice F4 y.f4.length f4') = W9 at *
      go_wp2
      go_roundg k1
      case measure => omega
      case rel => exact ⟨k + 1, _, by omega, by go_num, Nat.le_trans hsr A9.out.2.2.2.2.2.2, Aside0.mk A9.out.1, Aside0.mk A9.out.2.1, Aside0.mk A9.out.2.2.1, Aside0.mk A9.out.2.2.2.1, Aside0.mk A9.out.2.2.2.2.1, Aside0.mk A9.out.2.2.2.2.2.1⟩
theorem copied_calls : ∀ d, CopyC d
  | 0 => by
    intro x A3 c3 A4 c4 w hs hf l3 g3 l4 g4
    have hb := sound_bare hs
    simp only [soundR, Bool.and_eq_true, Bool.not_eq_true', Bool.or_eq_false_iff, beq_eq_false_iff_ne] at hs
    obtain ⟨e3, e4⟩ := bareV_leaf hb hs.1.1.1 hs.1.1.2
    exact copied_step x (fun _ => True) (fun y hy => by rw [e3] at hy; cases hy) A3 c3 A4 c4 w hf.1 hf.2 l3 g3 l4 g4
  | d + 1 => by
    intro x A3 c3 A4 c4 w hs hf l3 g3 l4 g4
    simp only [soundR, Bool.and_eq_true, List.all_eq_true] at hs
    exact copied_step x (fun _ => True) (fun y hy B3 e3 B4 e4 w1 m3 q3 m4 q4 => copied_calls d y B3 e3 B4 e4 w1 (hs.2 y hy) (hf.2.2 y hy) m3 q3 m4 q4) A3 c3 A4 c4 w hf.1 hf.2.1 l3 g3 l4 g4
end Go.Proofs.YtegppkngdkkdcaaGreatDoor.Tr
end
section
set_option linter.unusedVariables false
set_option linter.unusedSimpArgs false
namespace Go.Proofs.YtegppkngdkkdcaaGreatDoor.Tr
open Go.RowKit Go.Proofs.YtegppkngdkkdcaaGreatDoorW.PrintWords Go.Proofs.YtegppkngdkkdcaaGreatDoorW.PrintLast Go.Proofs.YtegppkngdkkdcaaGreatDoorW.PrintMore
open Go.Proofs.YtegppkngdkkdcaaGreatDoor.Lx Go.Proofs.YtegppkngdkkdcaaGreatDoor.PS
def idxB (x : ByteArray) : List ByteArray → Option Nat
  | [] => none
  | a :: r => if x = a then some 0 else (idxB x r).map (· + 1)
theorem idxB_get (x : ByteArray) : ∀ (l : List ByteArray) (i : Nat), idxB x l = some i → l[i]? = some x
  | [], _, h => by cases h
  | a :: r, i, h => by
    unfold idxB at h
    split at h
    · rename_i e
      cases h
      rw [e]
      rfl
    · obtain ⟨j, hj, rfl⟩ := Option.map_eq_some_iff.1 h
      rw [List.getElem?_cons_succ]
      exact idxB_get x r j hj
theorem idx_l0 (x : ByteArray) (nm : List ByteArray) (hl : nm.length ≤ 1000000000000) : ∀ (d j k : Nat), j + d = nm.length → d + 1 ≤ k →
    PC.slices_Index_string_string.l0 k nm x (nm.length : Int) (j : Int) = some (match idxB x (nm.drop j) with | some i => ((j + i : Nat) : Int) | none => -1)
  | 0, j, k, hj, hk => by
    obtain ⟨k, rfl⟩ : ∃ k', k = k' + 1 := ⟨k - 1, by omega⟩
    simp only [PC.slices_Index_string_string.l0]
    rw [if_neg (by omega), List.drop_eq_nil_of_le (by omega)]
    rfl
  | d + 1, j, k, hj, hk => by
    obtain ⟨k, rfl⟩ : ∃ k', k = k' + 1 := ⟨k - 1, by omega⟩
    have hlt : j < nm.length := by omega
    simp only [PC.slices_Index_string_string.l0]
    rw [if_pos (by omega), if_pos (by omega), if_pos (by omega)]
    have hrd : rdOf ByteArray.empty nm (j : Int) = nm[j] := by simp [rdOf, List.getD, List.getElem?_eq_getElem hlt]
    rw [hrd, List.drop_eq_getElem_cons hlt]
    unfold idxB
    by_cases he : x = nm[j]
    · rw [if_pos he, if_pos (by rw [← he])]
      simp
    · rw [if_neg he, if_neg (fun e => he (by rw [toList_data, toList_data] at e; rw [← toB_list x, ← toB_list nm[j], e]))]
      have hw : wrap64 ((j : Int) + 1) = ((j + 1 : Nat) : Int) := by
        unfold wrap64
        omega
      rw [hw, idx_l0 x nm hl d (j + 1) k (by omega) (by omega)]
      clear hw
      cases idxB x (nm.drop (j + 1)) with
      | none => rfl
      | some i =>
        simp only [Option.map_some, Option.some.injEq]
        exact congrArg Int.ofNat (by omega)
theorem sound_rows {d : Nat} {x : V} (h : soundR (d + 1) x = true) : ∀ y ∈ x.f3, soundR d y = true := by
  simp only [soundR, Bool.and_eq_true, List.all_eq_true] at h
  exact h.2
def getR (x : V) (name : ByteArray) : V × Bool := if x.f0 = 6 ∧ soundR 8 x = true then (match idxB name x.f4 with | some i => (x.f3.getD i zV, true) | none => (zV, false)) else (zV, false)
def GetQ (r : V × Bool) (w : World) (e : Ending) (w' : World) : Prop := Below w.heap.size w w' ∧ ∃ v3 v4, e = .returned (.tuple #[.agg #[.int .i64 r.1.f0, .int .i64 r.1.f1, .string r.1.f2, v3, v4], .bool r.2]) ∧
  k26.R 26 w' w.heap.size (fun _ => True) v3 r.1.f3 ∧ Kd.string.R 9 w' w.heap.size (fun _ => True) v4 r.1.f4
theorem res_Get (tmps : Array Value) (w : World) (b : Nat) (v0 v1 v2 v3 v4 z : Value) (h4 : tmps.getD 4 undef = .pointer (some ⟨b, 0, none⟩)) (h5 : tmps.getD 5 undef = z) (hb : w.heap[b]? = some (.cells #[v0, v1, v2, v3, v4] 26 (0, 0))) :
    (results Tryz.f14 tmps).run Tryz.prog w = .ok (.tuple #[.agg #[v0, v1, v2, v3, v4], z]) w := by
  have c0 := blk_cell hb 0
  have c1 := blk_cell hb 1
  have c2 := blk_cell hb 2
  have c3 := blk_cell hb 3
  have c4 := blk_cell hb 4
  rw [Array.getD_eq_getD_getElem?] at h4 h5
  simp at c0 c1 c2 c3 c4
  simp [results, Tryz.results14, go_sem, h4, h5, c0, c1, c2, c3, c4]
set_option maxRecDepth 100000 in
set_option maxHeartbeats 2000000 in
theorem Get_calls (x : V) (name : ByteArray) (A3 : Option Addr) (c3 : Nat) (A4 : Option Addr) (c4 : Nat) (w : World) (fx : fitsR 8 x) (l3 : x.f3.length ≤ c3) (g3 : k26.C w A3 x.f3.length x.f3) (l4 : x.f4.length ≤ c4) (g4 : Kd.string.C w A4 x.f4.length x.f4) :
    Calls Tryz.prog 14 #[vArg x A3 c3 A4 c4, .string name] w (GetQ (getR x name) w) := by
  have nv := blkA (blk_new w (.cells #[.int .i64 x.f0, .int .i64 x.f1, .string x.f2, .slice A3 x.f3.length c3, .slice A4 x.f4.length c4] 26 (0, 0))) (.cells zCs.toArray 26 (0, 0))
  have nz := blk_new (w.alloc (.cells #[.int .i64 x.f0, .int .i64 x.f1, .string x.f2, .slice A3 x.f3.length c3, .slice A4 x.f4.length c4] 26 (0, 0))) (.cells zCs.toArray 26 (0, 0))
  rw [show (w.alloc (.cells #[.int .i64 x.f0, .int .i64 x.f1, .string x.f2, .slice A3 x.f3.length c3, .slice A4 x.f4.length c4] 26 (0, 0))).heap.size = w.heap.size + 1 by simp] at nz
  have hb0 : Below w.heap.size w ((w.alloc (.cells #[.int .i64 x.f0, .int .i64 x.f1, .string x.f2, .slice A3 x.f3.length c3, .slice A4 x.f4.length c4] 26 (0, 0))).alloc (.cells zCs.toArray 26 (0, 0))) := ((Below.refl _ _).alloc (Nat.le_refl _) _).alloc (by simp) _
  have hs2 : w.heap.size + 2 ≤ ((w.alloc (.cells #[.int .i64 x.f0, .int .i64 x.f1, .string x.f2, .slice A3 x.f3.length c3, .slice A4 x.f4.length c4] 26 (0, 0))).alloc (.cells zCs.toArray 26 (0, 0))).heap.size := by simp
  unfold zCs at *
  have hlen := fitsR_len fx
  have HFX := Aside0.mk fx
  have HG := Aside0.mk (And.intro g3 g4)
  have HR := Aside0.mk (show getR x name = if x.f0 = 6 ∧ soundR 8 x = true then (match idxB name x.f4 with | some i => (x.f3.getD i zV, true) | none => (zV, false)) else (zV, false) from rfl)
  have HSC := Aside0.mk (sound_calls 8 (Nat.le_refl _))
  generalize getR x name = res at *
  unfold vArg
  have NV := Aside0.mk nv
  have NZ := Aside0.mk nz
  have HB0 := Aside0.mk hb0
  clear g3 g4 fx nv nz hb0
  by_cases h6 : x.f0 = 6
  · have hn6 : (x.f0 != 6) = false := by simp [h6]
    have H6 := Aside0.mk h6
    clear h6
    go_enter Tryz.func14, Tryz.ntmps14
    go_wp2_with fail
    generalize (w.alloc (.cells #[.int .i64 x.f0, .int .i64 x.f1, .string x.f2, .slice A3 x.f3.length c3, .slice A4 x.f4.length c4] 26 (0, 0))).alloc (.cells [.int .i64 0, .int .i64 0, .string ⟨#[]⟩, .slice none 0 0, .slice none 0 0].toArray 26 (0, 0)) = W2 at *
    refine (HSC.out x A3 c3 A4 c4 W2 HFX.out l3 (Kd.C_below HG.out.1 HB0.out) l4 (Kd.C_below HG.out.2 HB0.out)).mono ?_
    rintro e w3 ⟨rfl, b3⟩
    have hv3 := (b3.block _ (blk_lt NV.out)).trans NV.out
    have hz3 := (b3.block _ (blk_lt NZ.out)).trans NZ.out
    have hb3 := HB0.out.trans (b3.mono HB0.out.size)
    have hs3 := b3.size
    have x3 : w3.cell? ⟨w.heap.size, 3, none⟩ = some (.slice A3 x.f3.length c3) := blk_cell hv3 3
    have x4 : w3.cell? ⟨w.heap.size, 4, none⟩ = some (.slice A4 x.f4.length c4) := blk_cell hv3 4
    have z0 : w3.cell? ⟨w.heap.size + 1, 0, none⟩ = some (.int .i64 0) := blk_cell hz3 0
    have z1 : w3.cell? ⟨w.heap.size + 1, 1, none⟩ = some (.int .i64 0) := blk_cell hz3 1
    have z2 : w3.cell? ⟨w.heap.size + 1, 2, none⟩ = some (.string ⟨#[]⟩) := blk_cell hz3 2
    have z3 : w3.cell? ⟨w.heap.size + 1, 3, none⟩ = some (.slice none 0 0) := blk_cell hz3 3
    have z4 : w3.cell? ⟨w.heap.size + 1, 4, none⟩ = some (.slice none 0 0) := blk_cell hz3 4
    have zf : ∀ j, w3.frozen? ⟨w.heap.size + 1, j, none⟩ = false := blk_frozen hz3
    have HV3 := Aside0.mk hv3
    have HZ3 := Aside0.mk hz3
    have HB3 := Aside0.mk hb3
    clear hv3 hz3 hb3 b3 HSC
    cases hs : soundR 8 x with
    | false =>
      have HE := Aside0.mk (show res = (zV, false) by rw [HR.out, if_neg (fun h => by rw [hs] at h; cases h.2)])
      clear hs
      go_wp2
      refine bodyPost_ret (v := .tuple #[.agg #[.int .i64 0, .int .i64 0, .string ⟨#[]⟩, .slice none 0 0, .slice none 0 0], .bool false]) (res_Get _ _ (w.heap.size + 1) _ _ _ _ _ _ rfl rfl (blk_set5 HZ3.out (.int .i64 0) (.int .i64 0) (.string ⟨#[]⟩) (.slice none 0 0) (.slice none 0 0))) rfl ?_
      rw [HE.out]
      exact ⟨below5 HB3.out (by omega) _ _ _ _ _, _, _, rfl, Kd.R_nil _ _ _ _ _, Kd.R_nil _ _ _ _ _⟩
    | true =>
      have HS := Aside0.mk hs
      clear hs
      have hix := idx_l0 name x.f4 hlen.2 x.f4.length 0 (x.f4.length + 1) (by omega) (by omega)
      rw [List.drop_zero] at hix
      cases hq : idxB name x.f4 with
      | none =>
        rw [hq] at hix
        simp only at hix
        have HE := Aside0.mk (show res = (zV, false) by rw [HR.out, if_pos ⟨H6.out, HS.out⟩, hq])
        clear hq
        go_wp2_with fail
        refine (PC.slices_Index_string_string.calls (x.f4.length + 1) A4 c4 x.f4 name _ w3 (Kd.C_below HG.out.2 HB3.out) l4 hix).mono ?_
        rintro e w4 ⟨rfl, hd4⟩
        obtain ⟨nq, rfl⟩ := hd4.out
        clear hd4 hix x3 x4
        go_wp2
        refine bodyPost_ret (v := .tuple #[.agg #[.int .i64 0, .int .i64 0, .string ⟨#[]⟩, .slice none 0 0, .slice none 0 0], .bool false]) (res_Get _ _ (w.heap.size + 1) _ _ _ _ _ _ rfl rfl (blk_set5 (w := w3.drewN nq) HZ3.out (.int .i64 0) (.int .i64 0) (.string ⟨#[]⟩) (.slice none 0 0) (.slice none 0 0))) rfl ?_
        rw [HE.out]
        exact ⟨below5 (w' := w3.drewN nq) ⟨HB3.out.os, HB3.out.tape, HB3.out.output, HB3.out.size, HB3.out.block⟩ (by omega) _ _ _ _ _, _, _, rfl, Kd.R_nil _ _ _ _ _, Kd.R_nil _ _ _ _ _⟩
      | some i =>
        rw [hq] at hix
        simp only [Nat.zero_add] at hix
        have hgi := idxB_get name x.f4 i hq
        have hi4 := (List.getElem?_eq_some_iff.1 hgi).1
        have hb := sound_bare HS.out
        have hl34 : x.f4.length = x.f3.length := by
          unfold bareV bareR at hb
          rw [if_neg (by rw [H6.out]; decide), if_neg (by rw [H6.out]; decide), if_neg (by rw [H6.out]; decide), if_neg (by rw [H6.out]; decide), if_neg (by rw [H6.out]; decide), if_pos H6.out] at hb
          simp at hb
          exact hb.2
        have hlt' : i < x.f3.length := by omega
        have HE := Aside0.mk (show res = (x.f3[i], true) by
          rw [HR.out, if_pos ⟨H6.out, HS.out⟩, hq]
          simp [List.getD, List.getElem?_eq_getElem hlt'])
        have hlt : ((i : Nat) : Int) < (x.f3.length : Int) := by omega
        have hge : ((i : Nat) : Int) ≥ 0 := by omega
        obtain ⟨ad, D3, d3, D4, d4, e, r0, r1, r2, r3, r4, m3, q3, m4, q4⟩ := at_T26 HG.out.1 i (by omega) hlt
        cases e
        have hrd : rd_T26 x.f3 i = x.f3[i] := by simp [rd_T26, List.getD, List.getElem?_eq_getElem hlt']
        rw [hrd] at r0 r1 r2 r3 r4 m3 q3 m4 q4
        rw [Int.toNat_natCast] at r0 r1 r2 r3 r4
        have HQ := Aside0.mk (And.intro m3 (And.intro q3 (And.intro m4 q4)))
        have HSI := Aside0.mk (show soundR 7 x.f3[i] = true from sound_rows (d := 7) HS.out _ (List.getElem_mem _))
        have HFI := Aside0.mk (show fitsR 7 x.f3[i] from HFX.out.2.2 _ (List.getElem_mem _))
        clear hq hgi hb hl34 hrd m3 q3 m4 q4
        generalize x.f3[i] = y at *
        have HIX := Aside0.mk hix
        clear hix
        go_wp2_with fail
        refine (PC.slices_Index_string_string.calls (x.f4.length + 1) A4 c4 x.f4 name _ w3 (Kd.C_below HG.out.2 HB3.out) l4 HIX.out).mono ?_
        rintro e w4 ⟨rfl, hd4⟩
        obtain ⟨nq, rfl⟩ := hd4.out
        have hbd : Below w.heap.size w (w3.drewN nq) := ⟨HB3.out.os, HB3.out.tape, HB3.out.output, HB3.out.size, HB3.out.block⟩
        have hv4 : (w3.drewN nq).heap[w.heap.size]? = _ := HV3.out
        have hz4 : (w3.drewN nq).heap[w.heap.size + 1]? = _ := HZ3.out
        have hs4 : w.heap.size + 2 ≤ (w3.drewN nq).heap.size := by show w.heap.size + 2 ≤ w3.heap.size; omega
        clear hd4 x3 x4 z0 z1 z2 z3 z4 zf
        generalize w3.drewN nq = W4 at *
        have x3 : W4.cell? ⟨w.heap.size, 3, none⟩ = some (.slice (some ad) x.f3.length c3) := blk_cell hv4 3
        replace r0 := cell_below' hbd r0
        replace r1 := cell_below' hbd r1
        replace r2 := cell_below' hbd r2
        replace r3 := cell_below' hbd r3
        replace r4 := cell_below' hbd r4
        have H := Aside0.mk (copied_calls 7 y D3 d3 D4 d4 W4 HSI.out HFI.out HQ.out.1 (Kd.C_below HQ.out.2.1 hbd) HQ.out.2.2.1 (Kd.C_below HQ.out.2.2.2 hbd))
        unfold vArg at H
        have HZ4 := Aside0.mk hz4
        have HBD := Aside0.mk hbd
        clear hv4 hz4 hbd
        go_wp2_with fail
        refine H.out.mono ?_
        rintro e w5 ⟨b5, v3, v4, rfl, h3, h4⟩
        have hz5 := (b5.block _ (blk_lt HZ4.out)).trans HZ4.out
        have z0 : w5.cell? ⟨w.heap.size + 1, 0, none⟩ = some (.int .i64 0) := blk_cell hz5 0
        have z1 : w5.cell? ⟨w.heap.size + 1, 1, none⟩ = some (.int .i64 0) := blk_cell hz5 1
        have z2 : w5.cell? ⟨w.heap.size + 1, 2, none⟩ = some (.string ⟨#[]⟩) := blk_cell hz5 2
        have z3 : w5.cell? ⟨w.heap.size + 1, 3, none⟩ = some (.slice none 0 0) := blk_cell hz5 3
        have z4 : w5.cell? ⟨w.heap.size + 1, 4, none⟩ = some (.slice none 0 0) := blk_cell hz5 4
        have zf : ∀ j, w5.frozen? ⟨w.heap.size + 1, j, none⟩ = false := blk_frozen hz5
        have HZ5 := Aside0.mk hz5
        have HB5 := Aside0.mk (HBD.out.trans (b5.mono (by omega)))
        have H3 := Aside0.mk h3
        have H4 := Aside0.mk h4
        obtain ⟨G3, g3', rfl⟩ := Kd.R_slice h3
        obtain ⟨G4, g4', rfl⟩ := Kd.R_slice h4
        clear hz5 b5 h3 h4 H x3 r0 r1 r2 r3 r4
        go_wp2
        refine bodyPost_ret (v := .tuple #[.agg #[.int .i64 y.f0, .int .i64 y.f1, .string y.f2, .slice G3 y.f3.length g3', .slice G4 y.f4.length g4'], .bool true]) (res_Get _ _ (w.heap.size + 1) _ _ _ _ _ _ rfl rfl (blk_set5 HZ5.out _ _ _ _ _)) rfl ?_
        rw [HE.out]
        have hfar : ∀ k, W4.heap.size ≤ k → (((((w5.setCell ⟨w.heap.size + 1, 0, none⟩ (.int .i64 y.f0)).setCell ⟨w.heap.size + 1, 1, none⟩ (.int .i64 y.f1)).setCell ⟨w.heap.size + 1, 2, none⟩ (.string y.f2)).setCell ⟨w.heap.size + 1, 3, none⟩ (.slice G3 y.f3.length g3')).setCell ⟨w.heap.size + 1, 4, none⟩ (.slice G4 y.f4.length g4')).heap[k]? = w5.heap[k]? := fun k hk => far5' (by omega) _ _ _ _ _
        exact ⟨below5 HB5.out (by omega) _ _ _ _ _, _, _, rfl, Kd.R_mono (Kd.R_lower (Kd.R_step (Kd.R_bound H3.out) (fun k hk _ => hfar k hk.2.1)) (by omega)) (fun _ _ => trivial), Kd.R_mono (Kd.R_lower (Kd.R_step (Kd.R_bound H4.out) (fun k hk _ => hfar k hk.2.1)) (by omega)) (fun _ _ => trivial)⟩
  · have hn6 : (x.f0 != 6) = true := by simp [h6]
    have HE := Aside0.mk (show res = (zV, false) by rw [HR.out, if_neg (fun h => h6 h.1)])
    clear h6
    go_enter Tryz.func14, Tryz.ntmps14
    go_wp2
    refine bodyPost_ret (v := .tuple #[.agg #[.int .i64 0, .int .i64 0, .string ⟨#[]⟩, .slice none 0 0, .slice none 0 0], .bool false]) (res_Get _ _ (w.heap.size + 1) _ _ _ _ _ _ rfl rfl NZ.out) rfl ?_
    rw [HE.out]
    exact ⟨HB0.out, _, _, rfl, Kd.R_nil _ _ _ _ _, Kd.R_nil _ _ _ _ _⟩
end Go.Proofs.YtegppkngdkkdcaaGreatDoor.Tr
end
section
set_option linter.unusedVariables false
set_option linter.unusedSimpArgs false
namespace Go.Proofs.YtegppkngdkkdcaaGreatDoor.Lx
open Go
theorem nextR_appc {L R : List UInt8} {c : UInt8} (hd : isDigit c = false) (hw : isLow c = false) {i : Nat} {r : Tk × Nat} (h : nextR L i = some r) : nextR (L ++ c :: R) i = some r := by
  unfold nextR at h ⊢
  split at h
  · cases h
  · rename_i b hc
    have hlt := (List.getElem?_eq_some_iff.1 hc).1
    rw [getElem?_app hc]
    simp only
    split at h
    · rename_i q; rw [if_pos q]; exact h
    · rename_i q1
      rw [if_neg q1]
      split at h
      · rename_i q; rw [if_pos q]; exact h
      · rename_i q2
        rw [if_neg q2]
        split at h
        · rename_i q3
          rw [if_pos q3]
          obtain ⟨x, h1, h2⟩ := Option.map_eq_some_iff.1 h
          rw [textR_mono (textR_app (R := c :: R) h1) _ (by rw [List.length_append]; omega)]
          exact congrArg some h2
        · rename_i q3
          rw [if_neg q3]
          split at h
          · rename_i q4
            rw [if_pos q4, drop_app (by omega), takeWhile_app isDigit _ c R hd]
            exact h
          · rename_i q4
            rw [if_neg q4]
            split at h
            · rename_i q5
              rw [if_pos q5, drop_app (by omega), takeWhile_app isDigit _ c R hd]
              exact h
            · rename_i q5
              rw [if_neg q5, drop_app (by omega), takeWhile_app isLow _ c R hw]
              exact h
theorem toksR_appc (L R : List UInt8) (c : UInt8) (hb : isBlank c = false) (hd : isDigit c = false) (hw : isLow c = false) : ∀ (f i : Nat) (acc ts : List Tk), toksR L f i acc = .inl ts → i ≤ L.length → ∀ g, f ≤ g → ∃ g', g ≤ g' + (ts.length - acc.length) ∧ acc.length ≤ ts.length ∧ 1 ≤ g' ∧ toksR (L ++ c :: R) g i acc = toksR (L ++ c :: R) g' L.length ts
  | 0, _, _, _, h, _, _, _ => by cases h
  | f + 1, i, acc, ts, h, hi, g, hg => by
    obtain ⟨g, rfl⟩ : ∃ m, g = m + 1 := ⟨g - 1, by omega⟩
    rw [toksR] at h
    have hdl : (L.drop i).length = L.length - i := List.length_drop
    split at h
    · rename_i q
      cases h
      refine ⟨g + 1, by omega, Nat.le_refl _, by omega, ?_⟩
      have e : ((L ++ c :: R).drop i).takeWhile isBlank = L.drop i := by
        rw [drop_app hi, takeWhile_all isBlank _ _ (by omega), List.takeWhile_cons, hb]
        simp
      have e2 : ((L ++ c :: R).drop L.length).takeWhile isBlank = [] := by
        rw [List.drop_left, List.takeWhile_cons, hb]
        rfl
      have e3 : i + (L.drop i).length = L.length := by omega
      rw [toksR, toksR, e, e2, e3]
      rfl
    · rename_i q
      split at h
      · cases h
      · rename_i tk a2 hx
        have hst := nextR_step hx
        obtain ⟨g', h1, h2, h3, h4⟩ := toksR_appc L R c hb hd hw f a2 (acc ++ [tk]) ts h hst.2 g (by omega)
        rw [List.length_append] at h1 h2
        simp only [List.length_cons, List.length_nil] at h1 h2
        refine ⟨g', by omega, by omega, h3, ?_⟩
        have hn := nextR_appc (R := R) hd hw hx
        have e : ((L ++ c :: R).drop i).takeWhile isBlank = (L.drop i).takeWhile isBlank := by
          rw [drop_app hi, takeWhile_part isBlank _ _ (by omega)]
        rw [toksR, e, if_neg (by rw [List.length_append]; simp only [List.length_cons]; omega), hn]
        exact h4
theorem toksR_inl {l : List UInt8} {ts : List Tk} {p : Nat} (h : tokensR l = (ts, 0, p)) : toksR l (l.length + 1) 0 [] = .inl ts ∧ l.length ≤ 65536 ∧ p = 0 := by
  unfold tokensR at h
  split at h
  · cases h
  · cases hx : toksR l (l.length + 1) 0 [] with
    | inl y =>
      rw [hx] at h
      simp only [Prod.mk.injEq] at h
      exact ⟨by rw [h.1], by omega, h.2.2.symm⟩
    | inr y =>
      rw [hx] at h
      simp at h
theorem toksR_both (s R : List UInt8) (c : UInt8) (ts rs : List Tk) (hb : isBlank c = false) (hd : isDigit c = false) (hw : isLow c = false) (fR : Nat) (hs : toksR s (s.length + 1) 0 [] = .inl ts) (hr : toksR (c :: R) fR 0 [] = .inl rs) (g : Nat) (hg : s.length + 1 ≤ g) (hg2 : s.length + fR ≤ g) :
    toksR (s ++ c :: R) g 0 [] = .inl (ts ++ rs.map (sh s.length)) := by
  have hl := toksR_len' s _ _ _ _ hs
  obtain ⟨g', h1, h2, h3, h4⟩ := toksR_appc s R c hb hd hw _ 0 [] ts hs (Nat.zero_le _) g hg
  obtain ⟨ns, n1, n2⟩ := toksR_sh s (c :: R) fR 0 [] rs hr
  have n1' : rs = ns := by simpa using n1
  subst n1'
  rw [h4]
  simp only [List.length_nil] at h1 hl
  have := n2 g' (by omega) ts
  rw [Nat.add_zero] at this
  exact this
theorem step_single (pre suf : List UInt8) (c : UInt8) (k : Nat) (hb : isBlank c = false) (hi : Lib.indexByte singles c = (k : Int)) (f : Nat) (acc : List Tk) : toksR (pre ++ c :: suf) (f + 1) pre.length acc = toksR (pre ++ c :: suf) f (pre.length + 1) (acc ++ [⟨k + 1, [], 0, pre.length⟩]) := by
  have hd : ((pre ++ c :: suf).drop pre.length).takeWhile isBlank = [] := by
    rw [List.drop_left, List.takeWhile_cons, hb]
    rfl
  have hn := nextR_at (L := pre ++ c :: suf) (pre := pre) (suf := suf) (c := c) rfl
  rw [if_pos (by rw [hi]; omega), hi] at hn
  simp only [Int.toNat_natCast] at hn
  rw [toksR, hd, List.length_nil, Nat.add_zero, if_neg (by simp), hn]
theorem step_quote (pre suf t : List UInt8) (f : Nat) (acc : List Tk) : toksR (pre ++ (quoteR t ++ suf)) (f + 1) pre.length acc = toksR (pre ++ (quoteR t ++ suf)) f (pre.length + (quoteR t).length) (acc ++ [⟨7, t, 0, pre.length⟩]) := by
  have hd : ((pre ++ (quoteR t ++ suf)).drop pre.length).takeWhile isBlank = [] := by
    rw [List.drop_left]
    rfl
  have hq : 0 < (quoteR t).length := by simp [quoteR]
  rw [toksR, hd, List.length_nil, Nat.add_zero, if_neg (by simp only [List.length_append]; omega), nextR_quote t rfl]
end Go.Proofs.YtegppkngdkkdcaaGreatDoor.Lx
namespace Go.Proofs.YtegppkngdkkdcaaGreatDoor.Tr
open Go Go.Proofs.YtegppkngdkkdcaaGreatDoor.Lx Go.Proofs.YtegppkngdkkdcaaGreatDoor.PS
theorem toks_arr (s : List UInt8) (ts : List Tk) (hs : toksR s (s.length + 1) 0 [] = .inl ts) (hl : s.length + 2 ≤ 65536) :
    tokensR (91 :: (s ++ [93])) = (⟨3, [], 0, 0⟩ :: (ts.map (sh 1) ++ [⟨4, [], 0, s.length + 1⟩]), 0, 0) := by
  have hb := toksR_both s [] 93 ts [⟨4, [], 0, 0⟩] (by decide) (by decide) (by decide) 2 hs (by kernel_rfl) (s.length + 2) (by omega) (by omega)
  obtain ⟨ns, n1, n2⟩ := toksR_sh [91] (s ++ [93]) (s.length + 2) 0 [] _ hb
  have n1' : ts ++ [(⟨4, [], 0, 0⟩ : Tk)].map (sh s.length) = ns := by simpa using n1
  subst n1'
  have h1 := step_single [] (s ++ [93]) 91 2 (by decide) (by decide +kernel) (s.length + 2) []
  have h2 := n2 (s.length + 2) (Nat.le_refl _) [⟨3, [], 0, 0⟩]
  have h3 : toksR (91 :: (s ++ [93])) (s.length + 2 + 1) 0 [] = .inl (⟨3, [], 0, 0⟩ :: (ts.map (sh 1) ++ [⟨4, [], 0, s.length + 1⟩])) := by
    refine h1.trans ?_
    refine h2.trans ?_
    simp [sh]
  unfold tokensR
  have hlen : (91 :: (s ++ [93])).length = s.length + 2 := by simp
  rw [hlen, if_neg (by omega), h3]
def mapText (s : List UInt8) : List UInt8 := [123, 34, 107, 34, 58] ++ (s ++ [44, 34, 108, 34, 58, 110, 117, 108, 108, 125])
theorem toks_map (s : List UInt8) (ts : List Tk) (hs : toksR s (s.length + 1) 0 [] = .inl ts) (hl : s.length + 15 ≤ 65536) :
    tokensR (mapText s) = (⟨1, [], 0, 0⟩ :: ⟨7, [107], 0, 1⟩ :: ⟨5, [], 0, 4⟩ :: (ts.map (sh 5) ++ [⟨6, [], 0, s.length + 5⟩, ⟨7, [108], 0, s.length + 6⟩, ⟨5, [], 0, s.length + 9⟩, ⟨9, wNul, 0, s.length + 10⟩, ⟨2, [], 0, s.length + 14⟩]), 0, 0) := by
  have hb := toksR_both s [34, 108, 34, 58, 110, 117, 108, 108, 125] 44 ts [⟨6, [], 0, 0⟩, ⟨7, [108], 0, 1⟩, ⟨5, [], 0, 4⟩, ⟨9, wNul, 0, 5⟩, ⟨2, [], 0, 9⟩] (by decide) (by decide) (by decide) 6 hs (by kernel_rfl) (s.length + 13) (by omega) (by omega)
  obtain ⟨ns, n1, n2⟩ := toksR_sh [123, 34, 107, 34, 58] (s ++ [44, 34, 108, 34, 58, 110, 117, 108, 108, 125]) (s.length + 13) 0 [] _ hb
  have n1' : ts ++ [(⟨6, [], 0, 0⟩ : Tk), ⟨7, [108], 0, 1⟩, ⟨5, [], 0, 4⟩, ⟨9, wNul, 0, 5⟩, ⟨2, [], 0, 9⟩].map (sh s.length) = ns := by simpa using n1
  subst n1'
  have h1 := step_single [] ([34, 107, 34, 58] ++ (s ++ [44, 34, 108, 34, 58, 110, 117, 108, 108, 125])) 123 0 (by decide) (by decide +kernel) (s.length + 15) []
  have h2 := step_quote [123] (58 :: (s ++ [44, 34, 108, 34, 58, 110, 117, 108, 108, 125])) [107] (s.length + 14) [⟨1, [], 0, 0⟩]
  have h3 := step_single [123, 34, 107, 34] (s ++ [44, 34, 108, 34, 58, 110, 117, 108, 108, 125]) 58 4 (by decide) (by decide +kernel) (s.length + 13) [⟨1, [], 0, 0⟩, ⟨7, [107], 0, 1⟩]
  have h4 := n2 (s.length + 13) (Nat.le_refl _) [⟨1, [], 0, 0⟩, ⟨7, [107], 0, 1⟩, ⟨5, [], 0, 4⟩]
  have h5 : toksR (mapText s) (s.length + 15 + 1) 0 [] = .inl (⟨1, [], 0, 0⟩ :: ⟨7, [107], 0, 1⟩ :: ⟨5, [], 0, 4⟩ :: (ts.map (sh 5) ++ [⟨6, [], 0, s.length + 5⟩, ⟨7, [108], 0, s.length + 6⟩, ⟨5, [], 0, s.length + 9⟩, ⟨9, wNul, 0, s.length + 10⟩, ⟨2, [], 0, s.length + 14⟩])) := by
    refine h1.trans ?_
    refine h2.trans ?_
    refine h3.trans ?_
    refine h4.trans ?_
    simp [sh]
    omega
  unfold tokensR
  have hlen : (mapText s).length = s.length + 15 := by simp [mapText]
  rw [hlen, if_neg (by omega), h5]
def tokEq (T : List Tk) (len' q : Nat) (ts : List Tk) (len : Nat) : Prop := ∀ i, i < ts.length → (tokAt T len' (q + i)).kind = (tokAt ts len i).kind ∧ (tokAt T len' (q + i)).text = (tokAt ts len i).text ∧ (tokAt T len' (q + i)).num = (tokAt ts len i).num
def SimR (q : Nat) : PRes → PRes → Prop
  | .ok v p1, r => r = .ok v (q + p1)
  | .bad _ _, r => ∃ a, r = .bad 21 a
def GoodR (r : PRes) : Prop := (∃ v p1, r = .ok v p1) ∨ ∃ a, r = .bad 21 a
theorem tok_out {ts : List Tk} {len p : Nat} (h : ts.length ≤ p) : (tokAt ts len p).kind = 0 := by
  unfold tokAt
  rw [List.getD_eq_getElem?_getD, List.getElem?_eq_none h]
  rfl
theorem val_out {ts : List Tk} {len f o p : Nat} {r : PRes} (h : ts.length ≤ p) (e : valP ts len f o p = some r) : ∃ a, r = .bad 20 a := by
  have hk := tok_out (len := len) h
  cases f with
  | zero => simp [valP] at e
  | succ f =>
    simp only [valP] at e
    rw [hk, if_neg (by decide), if_neg (by decide), if_neg (by decide), if_neg (by decide), if_neg (by decide)] at e
    cases e
    exact ⟨_, rfl⟩
theorem arr_out {ts : List Tk} {len f o p : Nat} {acc : List V} {r : PRes} (h : ts.length ≤ p) (e : arrP ts len f o p acc = some r) : ∃ a, r = .bad 20 a := by
  have hk := tok_out (len := len) h
  cases f with
  | zero => simp [arrP] at e
  | succ f =>
    simp only [arrP] at e
    rw [hk, if_neg (by decide)] at e
    cases hv : valP ts len f o p with
    | none => rw [hv] at e; cases e
    | some r1 =>
      rw [hv] at e
      obtain ⟨a, rfl⟩ := val_out h hv
      cases e
      exact ⟨_, rfl⟩
theorem map_out {ts : List Tk} {len f o p : Nat} {acc : List V} {nm : List ByteArray} {r : PRes} (h : ts.length ≤ p) (e : mapP ts len f o p acc nm = some r) : ∃ a, r = .bad 20 a := by
  have hk := tok_out (len := len) h
  cases f with
  | zero => simp [mapP] at e
  | succ f =>
    simp only [mapP] at e
    rw [hk, if_neg (by decide), if_pos (by decide)] at e
    cases e
    exact ⟨_, rfl⟩
theorem good_20 {a : Nat} (h : GoodR (.bad 20 a)) : False := by
  rcases h with ⟨_, _, h⟩ | ⟨_, h⟩
  · cases h
  · cases h
theorem good_3 {a : Nat} (h : GoodR (.bad 3 a)) : False := by
  rcases h with ⟨_, _, h⟩ | ⟨_, h⟩
  · cases h
  · cases h
theorem arr_sim {T : List Tk} {len' q : Nat} {ts : List Tk} {len : Nat} (hT : tokEq T len' q ts len) {n o : Nat} (row : ∀ f f' p r, f ≤ n → f ≤ f' → valP ts len f o p = some r → GoodR r → ∃ r', valP T len' f' o (q + p) = some r' ∧ SimR q r r') :
    ∀ (f f' p : Nat) (acc : List V) (r : PRes), f ≤ n → f ≤ f' → arrP ts len f o p acc = some r → GoodR r → ∃ r', arrP T len' f' o (q + p) acc = some r' ∧ SimR q r r'
  | 0, _, p, acc, r, _, _, e, _ => by simp [arrP] at e
  | f + 1, f', p, acc, r, hn, hff, e, hg => by
    obtain ⟨f', rfl⟩ : ∃ m, f' = m + 1 := ⟨f' - 1, by omega⟩
    have hp : p < ts.length := by
      rcases Nat.lt_or_ge p ts.length with h | h
      · exact h
      · obtain ⟨a, rfl⟩ := arr_out h e
        exact (good_20 hg).elim
    have t0 := (hT p hp).1
    simp only [arrP] at e ⊢
    rw [t0]
    by_cases k4 : (tokAt ts len p).kind = 4
    · rw [if_pos k4] at e ⊢
      cases e
      exact ⟨_, rfl, rfl⟩
    · rw [if_neg k4] at e ⊢
      cases hv : valP ts len f o p with
      | none => rw [hv] at e; cases e
      | some r1 =>
        rw [hv] at e
        cases r1 with
        | bad c a =>
          cases e
          obtain ⟨r', h1, h2⟩ := row f f' p _ (by omega) (by omega) hv hg
          obtain ⟨a', rfl⟩ := h2
          rw [h1]
          exact ⟨_, rfl, a', rfl⟩
        | ok v p1 =>
          obtain ⟨r', h1, h2⟩ := row f f' p _ (by omega) (by omega) hv (.inl ⟨_, _, rfl⟩)
          have h2 : r' = .ok v (q + p1) := h2
          subst h2
          rw [h1]
          simp only at e ⊢
          by_cases k : (tokAt ts len p1).kind = 4
          · rw [if_pos k] at e
            rw [if_pos (by rw [(hT p1 (tok_in (len := len) (by omega))).1]; exact k)]
            cases e
            exact ⟨_, rfl, rfl⟩
          · rw [if_neg k] at e
            by_cases k6 : (tokAt ts len p1).kind = 6
            · have e1 := (hT p1 (tok_in (len := len) (by omega))).1
              rw [if_neg (by omega)] at e
              by_cases k7 : (tokAt ts len (p1 + 1)).kind = 4
              · rw [if_pos k7] at e
                cases e
                exact (good_20 hg).elim
              · rw [if_neg k7] at e
                have hp2 : p1 + 1 < ts.length := by
                  rcases Nat.lt_or_ge (p1 + 1) ts.length with h | h
                  · exact h
                  · obtain ⟨a, rfl⟩ := arr_out h e
                    exact (good_20 hg).elim
                have e2 := (hT (p1 + 1) hp2).1
                rw [← Nat.add_assoc] at e2
                rw [if_neg (by omega), if_neg (by omega), if_neg (by omega)]
                have := arr_sim hT row f f' (p1 + 1) (acc ++ [v]) r (by omega) (by omega) e hg
                rw [← Nat.add_assoc] at this
                exact this
            · rw [if_pos k6] at e
              cases e
              exact (good_20 hg).elim
theorem map_sim {T : List Tk} {len' q : Nat} {ts : List Tk} {len : Nat} (hT : tokEq T len' q ts len) {n o : Nat} (row : ∀ f f' p r, f ≤ n → f ≤ f' → valP ts len f o p = some r → GoodR r → ∃ r', valP T len' f' o (q + p) = some r' ∧ SimR q r r') :
    ∀ (f f' p : Nat) (acc : List V) (nm : List ByteArray) (r : PRes), f ≤ n → f ≤ f' → mapP ts len f o p acc nm = some r → GoodR r → ∃ r', mapP T len' f' o (q + p) acc nm = some r' ∧ SimR q r r'
  | 0, _, p, acc, nm, r, _, _, e, _ => by simp [mapP] at e
  | f + 1, f', p, acc, nm, r, hn, hff, e, hg => by
    obtain ⟨f', rfl⟩ : ∃ m, f' = m + 1 := ⟨f' - 1, by omega⟩
    have hp : p < ts.length := by
      rcases Nat.lt_or_ge p ts.length with h | h
      · exact h
      · obtain ⟨a, rfl⟩ := map_out h e
        exact (good_20 hg).elim
    obtain ⟨t0, t1, _⟩ := hT p hp
    simp only [mapP] at e ⊢
    rw [t0, t1]
    by_cases k2 : (tokAt ts len p).kind = 2
    · rw [if_pos k2] at e ⊢
      cases e
      exact ⟨_, rfl, rfl⟩
    · rw [if_neg k2] at e ⊢
      by_cases k7 : (tokAt ts len p).kind = 7
      · rw [if_neg (by omega)] at e ⊢
        by_cases kn : hasN (tokAt ts len p).text nm = true
        · rw [if_pos kn] at e
          cases e
          exact (good_3 hg).elim
        · rw [if_neg kn] at e ⊢
          by_cases k5 : (tokAt ts len (p + 1)).kind = 5
          · rw [if_neg (by omega)] at e
            have e5 := (hT (p + 1) (tok_in (len := len) (by omega))).1
            rw [← Nat.add_assoc] at e5
            rw [if_neg (by omega)]
            cases hv : valP ts len f o (p + 2) with
            | none => rw [hv] at e; cases e
            | some r1 =>
              rw [hv] at e
              cases r1 with
              | bad c a =>
                cases e
                obtain ⟨r', h1, h2⟩ := row f f' (p + 2) _ (by omega) (by omega) hv hg
                obtain ⟨a', rfl⟩ := h2
                rw [← Nat.add_assoc] at h1
                rw [h1]
                exact ⟨_, rfl, a', rfl⟩
              | ok v p1 =>
                obtain ⟨r', h1, h2⟩ := row f f' (p + 2) _ (by omega) (by omega) hv (.inl ⟨_, _, rfl⟩)
                have h2 : r' = .ok v (q + p1) := h2
                subst h2
                rw [← Nat.add_assoc] at h1
                rw [h1]
                simp only at e ⊢
                by_cases k : (tokAt ts len p1).kind = 2
                · rw [if_pos k] at e
                  rw [if_pos (by rw [(hT p1 (tok_in (len := len) (by omega))).1]; exact k)]
                  cases e
                  exact ⟨_, rfl, rfl⟩
                · rw [if_neg k] at e
                  by_cases k6 : (tokAt ts len p1).kind = 6
                  · have e1 := (hT p1 (tok_in (len := len) (by omega))).1
                    rw [if_neg (by omega)] at e
                    by_cases k8 : (tokAt ts len (p1 + 1)).kind = 2
                    · rw [if_pos k8] at e
                      cases e
                      exact (good_20 hg).elim
                    · rw [if_neg k8] at e
                      have hp2 : p1 + 1 < ts.length := by
                        rcases Nat.lt_or_ge (p1 + 1) ts.length with h | h
                        · exact h
                        · obtain ⟨a, rfl⟩ := map_out h e
                          exact (good_20 hg).elim
                      have e2 := (hT (p1 + 1) hp2).1
                      rw [← Nat.add_assoc] at e2
                      rw [if_neg (by omega), if_neg (by omega), if_neg (by omega)]
                      have := map_sim hT row f f' (p1 + 1) (acc ++ [v]) (nm ++ [toB (tokAt ts len p).text]) r (by omega) (by omega) e hg
                      rw [← Nat.add_assoc] at this
                      exact this
                  · rw [if_pos k6] at e
                    cases e
                    exact (good_20 hg).elim
          · rw [if_pos k5] at e
            cases e
            exact (good_20 hg).elim
      · rw [if_pos k7] at e
        cases e
        exact (good_20 hg).elim
theorem val_sim {T : List Tk} {len' q : Nat} {ts : List Tk} {len : Nat} (hT : tokEq T len' q ts len) : ∀ (n o f f' p : Nat) (r : PRes), f ≤ n → f ≤ f' → valP ts len f o p = some r → GoodR r → ∃ r', valP T len' f' o (q + p) = some r' ∧ SimR q r r'
  | n, o, 0, _, p, r, _, _, e, _ => by simp [valP] at e
  | 0, o, f + 1, _, p, r, hn, _, e, _ => by omega
  | n + 1, o, f + 1, f', p, r, hn, hff, e, hg => by
    obtain ⟨f', rfl⟩ : ∃ m, f' = m + 1 := ⟨f' - 1, by omega⟩
    have hp : p < ts.length := by
      rcases Nat.lt_or_ge p ts.length with h | h
      · exact h
      · obtain ⟨a, rfl⟩ := val_out h e
        exact (good_20 hg).elim
    obtain ⟨t0, t1, t2⟩ := hT p hp
    simp only [valP] at e ⊢
    rw [t0, t1, t2]
    split at e
    · rename_i k
      rw [if_pos k]
      cases e
      exact ⟨_, rfl, rfl⟩
    · rename_i k
      rw [if_neg k]
      split at e
      · rename_i k1
        rw [if_pos k1]
        cases e
        exact ⟨_, rfl, rfl⟩
      · rename_i k1
        rw [if_neg k1]
        split at e
        · rename_i k2
          rw [if_pos k2]
          cases e
          exact ⟨_, rfl, rfl⟩
        · rename_i k2
          rw [if_neg k2]
          split at e
          · rename_i k3
            rw [if_pos k3]
            split at e
            · rename_i k8
              rw [if_pos k8]
              cases e
              exact ⟨_, rfl, _, rfl⟩
            · rename_i k8
              rw [if_neg k8]
              have := arr_sim hT (n := n) (o := o + 1) (fun f f' p r h1 h2 e hg => val_sim hT n (o + 1) f f' p r h1 h2 e hg) f f' (p + 1) [] r (by omega) (by omega) e hg
              rw [← Nat.add_assoc] at this
              exact this
          · rename_i k3
            rw [if_neg k3]
            split at e
            · rename_i k4
              rw [if_pos k4]
              split at e
              · rename_i k8
                rw [if_pos k8]
                cases e
                exact ⟨_, rfl, _, rfl⟩
              · rename_i k8
                rw [if_neg k8]
                have := map_sim hT (n := n) (o := o + 1) (fun f f' p r h1 h2 e hg => val_sim hT n (o + 1) f f' p r h1 h2 e hg) f f' (p + 1) [] [] r (by omega) (by omega) e hg
                rw [← Nat.add_assoc] at this
                exact this
            · cases e
              exact (good_20 hg).elim
theorem arr_deep {ts : List Tk} {len n o : Nat} (row : ∀ f p v p1, f ≤ n → valP ts len f o p = some (.ok v p1) → valP ts len f (o + 1) p = some (.ok v p1) ∨ ∃ a, valP ts len f (o + 1) p = some (.bad 21 a)) :
    ∀ (f p : Nat) (acc : List V) (v : V) (p1 : Nat), f ≤ n → arrP ts len f o p acc = some (.ok v p1) → arrP ts len f (o + 1) p acc = some (.ok v p1) ∨ ∃ a, arrP ts len f (o + 1) p acc = some (.bad 21 a)
  | 0, p, acc, v, p1, _, e => by simp [arrP] at e
  | f + 1, p, acc, v, p1, hn, e => by
    simp only [arrP] at e ⊢
    split at e
    · rename_i k
      rw [if_pos k]
      exact .inl e
    · rename_i k
      rw [if_neg k]
      cases hv : valP ts len f o p with
      | none => rw [hv] at e; cases e
      | some r1 =>
        rw [hv] at e
        cases r1 with
        | bad c a => cases e
        | ok v2 p2 =>
          rcases row f p v2 p2 (by omega) hv with h | ⟨a, h⟩
          · rw [h]
            simp only at e ⊢
            split at e
            · rename_i k4
              rw [if_pos k4]
              exact .inl e
            · rename_i k4
              rw [if_neg k4]
              split at e
              · cases e
              · rename_i k6
                rw [if_neg k6]
                split at e
                · cases e
                · rename_i k7
                  rw [if_neg k7]
                  exact arr_deep row f (p2 + 1) (acc ++ [v2]) v p1 (by omega) e
          · rw [h]
            exact .inr ⟨a, rfl⟩
theorem map_deep {ts : List Tk} {len n o : Nat} (row : ∀ f p v p1, f ≤ n → valP ts len f o p = some (.ok v p1) → valP ts len f (o + 1) p = some (.ok v p1) ∨ ∃ a, valP ts len f (o + 1) p = some (.bad 21 a)) :
    ∀ (f p : Nat) (acc : List V) (nm : List ByteArray) (v : V) (p1 : Nat), f ≤ n → mapP ts len f o p acc nm = some (.ok v p1) → mapP ts len f (o + 1) p acc nm = some (.ok v p1) ∨ ∃ a, mapP ts len f (o + 1) p acc nm = some (.bad 21 a)
  | 0, p, acc, nm, v, p1, _, e => by simp [mapP] at e
  | f + 1, p, acc, nm, v, p1, hn, e => by
    simp only [mapP] at e ⊢
    split at e
    · rename_i k
      rw [if_pos k]
      exact .inl e
    · rename_i k
      rw [if_neg k]
      split at e
      · cases e
      · rename_i k2
        rw [if_neg k2]
        split at e
        · cases e
        · rename_i k3
          rw [if_neg k3]
          split at e
          · cases e
          · rename_i k5
            rw [if_neg k5]
            cases hv : valP ts len f o (p + 2) with
            | none => rw [hv] at e; cases e
            | some r1 =>
              rw [hv] at e
              cases r1 with
              | bad c a => cases e
              | ok v2 p2 =>
                rcases row f (p + 2) v2 p2 (by omega) hv with h | ⟨a, h⟩
                · rw [h]
                  simp only at e ⊢
                  split at e
                  · rename_i k4
                    rw [if_pos k4]
                    exact .inl e
                  · rename_i k4
                    rw [if_neg k4]
                    split at e
                    · cases e
                    · rename_i k6
                      rw [if_neg k6]
                      split at e
                      · cases e
                      · rename_i k7
                        rw [if_neg k7]
                        exact map_deep row f (p2 + 1) (acc ++ [v2]) _ v p1 (by omega) e
                · rw [h]
                  exact .inr ⟨a, rfl⟩
theorem val_deep {ts : List Tk} {len : Nat} : ∀ (n o f p : Nat) (v : V) (p1 : Nat), o ≤ 8 → f ≤ n → valP ts len f o p = some (.ok v p1) → valP ts len f (o + 1) p = some (.ok v p1) ∨ ∃ a, valP ts len f (o + 1) p = some (.bad 21 a)
  | n, o, 0, p, v, p1, _, _, e => by simp [valP] at e
  | 0, o, f + 1, p, v, p1, _, hn, e => by omega
  | n + 1, o, f + 1, p, v, p1, ho, hn, e => by
    simp only [valP] at e ⊢
    split at e
    · rename_i k
      rw [if_pos k]
      exact .inl e
    · rename_i k
      rw [if_neg k]
      split at e
      · rename_i k1
        rw [if_pos k1]
        exact .inl e
      · rename_i k1
        rw [if_neg k1]
        split at e
        · rename_i k2
          rw [if_pos k2]
          exact .inl e
        · rename_i k2
          rw [if_neg k2]
          split at e
          · rename_i k3
            rw [if_pos k3]
            split at e
            · cases e
            · by_cases h8 : o + 1 = 8
              · rw [if_pos h8]
                exact .inr ⟨_, rfl⟩
              · rw [if_neg h8]
                exact arr_deep (n := n) (fun f p v p1 h e => val_deep n (o + 1) f p v p1 (by omega) h e) f (p + 1) [] v p1 (by omega) e
          · rename_i k3
            rw [if_neg k3]
            split at e
            · rename_i k4
              rw [if_pos k4]
              split at e
              · cases e
              · by_cases h8 : o + 1 = 8
                · rw [if_pos h8]
                  exact .inr ⟨_, rfl⟩
                · rw [if_neg h8]
                  exact map_deep (n := n) (fun f p v p1 h e => val_deep n (o + 1) f p v p1 (by omega) h e) f (p + 1) [] [] v p1 (by omega) e
            · cases e
theorem good_kind {ts : List Tk} {len f o p : Nat} {r : PRes} (e : valP ts len f o p = some r) (hg : GoodR r) : (tokAt ts len p).kind ≠ 4 ∧ (tokAt ts len p).kind ≠ 2 := by
  cases f with
  | zero => simp [valP] at e
  | succ f =>
    simp only [valP] at e
    constructor
    · intro h
      rw [h, if_neg (by decide), if_neg (by decide), if_neg (by decide), if_neg (by decide), if_neg (by decide)] at e
      cases e
      exact good_20 hg
    · intro h
      rw [h, if_neg (by decide), if_neg (by decide), if_neg (by decide), if_neg (by decide), if_neg (by decide)] at e
      cases e
      exact good_20 hg
def kB : ByteArray := ⟨#[107]⟩
def lB : ByteArray := ⟨#[108]⟩
theorem wraps (s : List UInt8) (v : V) (h : parseR s = (v, 0, 0)) (hl : s.length + 20 ≤ 65536) :
    (parseR (91 :: (s ++ [93])) = (⟨5, 0, ⟨#[]⟩, [v], []⟩, 0, 0) ∧ parseR (mapText s) = (⟨6, 0, ⟨#[]⟩, [v, nulV], [kB, lB]⟩, 0, 0)) ∨ ∃ a b, parseR (91 :: (s ++ [93])) = (zV, 21, a) ∧ parseR (mapText s) = (zV, 21, b) := by
  unfold parseR at h
  split at h
  · rename_i ts p0 ht
    obtain ⟨htk, _, _⟩ := toksR_inl ht
    have T := tsOk_of ht
    obtain ⟨hto, _, _⟩ := tokensR_ok ht
    obtain ⟨r, hr⟩ := (fuel_all ts s.length (2 * ts.length + 2)).1 0 0 (by omega)
    have hres := val_ok T _ _ 0 0 r (Nat.le_refl _) (by omega) hr
    rw [hr] at h
    cases r with
    | bad c a =>
      simp only [Prod.mk.injEq] at h
      exact absurd h.2.1 hres.1
    | ok v' p =>
      simp only at h
      split at h
      · rename_i hk0
        have hv : v' = v := by cases h; rfl
        subst hv
        have hpn : p = ts.length := by
          rcases Nat.lt_or_ge p ts.length with h1 | h1
          · exfalso
            have hm := (hto ts[p] (List.getElem_mem _)).1.1
            have := written_pos hm
            unfold tokAt at hk0
            rw [List.getD_eq_getElem?_getD, List.getElem?_eq_getElem h1] at hk0
            simp only [Option.getD_some] at hk0
            omega
          · have := hres.2.2
            omega
        subst hpn
        have hA := toks_arr s ts htk (by omega)
        have hM := toks_map s ts htk (by omega)
        have EA : tokEq (⟨3, [], 0, 0⟩ :: (ts.map (sh 1) ++ [⟨4, [], 0, s.length + 1⟩])) (91 :: (s ++ [93])).length 1 ts s.length := by
          intro i hi
          unfold tokAt
          simp only [List.getD_eq_getElem?_getD]
          rw [Nat.add_comm 1 i, List.getElem?_cons_succ, List.getElem?_append_left (by simpa using hi), List.getElem?_map, List.getElem?_eq_getElem hi]
          exact ⟨rfl, rfl, rfl⟩
        have EM : tokEq (⟨1, [], 0, 0⟩ :: ⟨7, [107], 0, 1⟩ :: ⟨5, [], 0, 4⟩ :: (ts.map (sh 5) ++ [⟨6, [], 0, s.length + 5⟩, ⟨7, [108], 0, s.length + 6⟩, ⟨5, [], 0, s.length + 9⟩, ⟨9, wNul, 0, s.length + 10⟩, ⟨2, [], 0, s.length + 14⟩])) (mapText s).length 3 ts s.length := by
          intro i hi
          unfold tokAt
          simp only [List.getD_eq_getElem?_getD]
          rw [Nat.add_comm 3 i, List.getElem?_cons_succ, List.getElem?_cons_succ, List.getElem?_cons_succ, List.getElem?_append_left (by simpa using hi), List.getElem?_map, List.getElem?_eq_getElem hi]
          exact ⟨rfl, rfl, rfl⟩
        have hd := val_deep (2 * ts.length + 2) 0 (2 * ts.length + 2) 0 v' ts.length (by omega) (Nat.le_refl _) hr
        have getA : ∀ i, ts.length ≤ i → (tokAt (⟨3, [], 0, 0⟩ :: (ts.map (sh 1) ++ [⟨4, [], 0, s.length + 1⟩])) (91 :: (s ++ [93])).length (i + 1)) = ([⟨4, [], 0, s.length + 1⟩] : List Tk).getD (i - ts.length) ⟨0, [], 0, (91 :: (s ++ [93])).length⟩ := by
          intro i hi
          unfold tokAt
          simp only [List.getD_eq_getElem?_getD]
          rw [List.getElem?_cons_succ, List.getElem?_append_right (by simpa using hi), List.length_map]
        have getM : ∀ i, ts.length ≤ i → (tokAt (⟨1, [], 0, 0⟩ :: ⟨7, [107], 0, 1⟩ :: ⟨5, [], 0, 4⟩ :: (ts.map (sh 5) ++ [⟨6, [], 0, s.length + 5⟩, ⟨7, [108], 0, s.length + 6⟩, ⟨5, [], 0, s.length + 9⟩, ⟨9, wNul, 0, s.length + 10⟩, ⟨2, [], 0, s.length + 14⟩])) (mapText s).length (i + 3)) = ([⟨6, [], 0, s.length + 5⟩, ⟨7, [108], 0, s.length + 6⟩, ⟨5, [], 0, s.length + 9⟩, ⟨9, wNul, 0, s.length + 10⟩, ⟨2, [], 0, s.length + 14⟩] : List Tk).getD (i - ts.length) ⟨0, [], 0, (mapText s).length⟩ := by
          intro i hi
          unfold tokAt
          simp only [List.getD_eq_getElem?_getD]
          rw [List.getElem?_cons_succ, List.getElem?_cons_succ, List.getElem?_cons_succ, List.getElem?_append_right (by simpa using hi), List.length_map]
        have lenA : (⟨3, [], 0, 0⟩ :: (ts.map (sh 1) ++ [⟨4, [], 0, s.length + 1⟩]) : List Tk).length = ts.length + 2 := by simp
        have lenM : (⟨1, [], 0, 0⟩ :: ⟨7, [107], 0, 1⟩ :: ⟨5, [], 0, 4⟩ :: (ts.map (sh 5) ++ [⟨6, [], 0, s.length + 5⟩, ⟨7, [108], 0, s.length + 6⟩, ⟨5, [], 0, s.length + 9⟩, ⟨9, wNul, 0, s.length + 10⟩, ⟨2, [], 0, s.length + 14⟩]) : List Tk).length = ts.length + 8 := by simp
        have A0 : (tokAt (⟨3, [], 0, 0⟩ :: (ts.map (sh 1) ++ [⟨4, [], 0, s.length + 1⟩])) (91 :: (s ++ [93])).length 0) = ⟨3, [], 0, 0⟩ := rfl
        have M0 : (tokAt (⟨1, [], 0, 0⟩ :: ⟨7, [107], 0, 1⟩ :: ⟨5, [], 0, 4⟩ :: (ts.map (sh 5) ++ [⟨6, [], 0, s.length + 5⟩, ⟨7, [108], 0, s.length + 6⟩, ⟨5, [], 0, s.length + 9⟩, ⟨9, wNul, 0, s.length + 10⟩, ⟨2, [], 0, s.length + 14⟩])) (mapText s).length 0) = ⟨1, [], 0, 0⟩ := rfl
        have M1 : (tokAt (⟨1, [], 0, 0⟩ :: ⟨7, [107], 0, 1⟩ :: ⟨5, [], 0, 4⟩ :: (ts.map (sh 5) ++ [⟨6, [], 0, s.length + 5⟩, ⟨7, [108], 0, s.length + 6⟩, ⟨5, [], 0, s.length + 9⟩, ⟨9, wNul, 0, s.length + 10⟩, ⟨2, [], 0, s.length + 14⟩])) (mapText s).length 1) = ⟨7, [107], 0, 1⟩ := rfl
        have M2 : (tokAt (⟨1, [], 0, 0⟩ :: ⟨7, [107], 0, 1⟩ :: ⟨5, [], 0, 4⟩ :: (ts.map (sh 5) ++ [⟨6, [], 0, s.length + 5⟩, ⟨7, [108], 0, s.length + 6⟩, ⟨5, [], 0, s.length + 9⟩, ⟨9, wNul, 0, s.length + 10⟩, ⟨2, [], 0, s.length + 14⟩])) (mapText s).length 2) = ⟨5, [], 0, 4⟩ := rfl
        unfold parseR
        rw [hA, hM]
        simp only [lenA, lenM]
        generalize (⟨3, [], 0, 0⟩ :: (ts.map (sh 1) ++ [⟨4, [], 0, s.length + 1⟩]) : List Tk) = TA at *
        generalize (⟨1, [], 0, 0⟩ :: ⟨7, [107], 0, 1⟩ :: ⟨5, [], 0, 4⟩ :: (ts.map (sh 5) ++ [⟨6, [], 0, s.length + 5⟩, ⟨7, [108], 0, s.length + 6⟩, ⟨5, [], 0, s.length + 9⟩, ⟨9, wNul, 0, s.length + 10⟩, ⟨2, [], 0, s.length + 14⟩]) : List Tk) = TM at *
        generalize (91 :: (s ++ [93])).length = LA at *
        generalize (mapText s).length = LM at *
        have a1 : (tokAt TA LA (ts.length + 1)).kind = 4 := by rw [getA ts.length (Nat.le_refl _), Nat.sub_self]; rfl
        have a2 : (tokAt TA LA (ts.length + 2)).kind = 0 := by rw [show ts.length + 2 = (ts.length + 1) + 1 by omega, getA (ts.length + 1) (by omega), show ts.length + 1 - ts.length = 1 by omega]; rfl
        have m3 : (tokAt TM LM (ts.length + 3)).kind = 6 := by rw [getM ts.length (Nat.le_refl _), Nat.sub_self]; rfl
        have m4 : tokAt TM LM (ts.length + 4) = ⟨7, [108], 0, s.length + 6⟩ := by rw [show ts.length + 4 = (ts.length + 1) + 3 by omega, getM (ts.length + 1) (by omega), show ts.length + 1 - ts.length = 1 by omega]; rfl
        have m5 : (tokAt TM LM (ts.length + 5)).kind = 5 := by rw [show ts.length + 5 = (ts.length + 2) + 3 by omega, getM (ts.length + 2) (by omega), show ts.length + 2 - ts.length = 2 by omega]; rfl
        have m6 : tokAt TM LM (ts.length + 6) = ⟨9, wNul, 0, s.length + 10⟩ := by rw [show ts.length + 6 = (ts.length + 3) + 3 by omega, getM (ts.length + 3) (by omega), show ts.length + 3 - ts.length = 3 by omega]; rfl
        have m7 : (tokAt TM LM (ts.length + 7)).kind = 2 := by rw [show ts.length + 7 = (ts.length + 4) + 3 by omega, getM (ts.length + 4) (by omega), show ts.length + 4 - ts.length = 4 by omega]; rfl
        have m8 : (tokAt TM LM (ts.length + 8)).kind = 0 := by rw [show ts.length + 8 = (ts.length + 5) + 3 by omega, getM (ts.length + 5) (by omega), show ts.length + 5 - ts.length = 5 by omega]; rfl
        have fA : 2 * (ts.length + 2) + 2 = (2 * ts.length + 4) + 1 + 1 := by omega
        have fM : 2 * (ts.length + 8) + 2 = ((2 * ts.length + 14) + 1 + 1) + 1 + 1 := by omega
        have hFA : 2 * ts.length + 2 ≤ 2 * ts.length + 4 := by omega
        have hFM : 2 * ts.length + 2 ≤ 2 * ts.length + 14 + 1 + 1 := by omega
        rw [fA, fM]
        generalize 2 * ts.length + 4 = F at *
        generalize 2 * ts.length + 14 = G at *
        have eA : valP TA LA (F + 1 + 1) 0 0 = arrP TA LA (F + 1) 1 1 [] := by
          simp only [valP]
          rw [A0, if_neg (by decide), if_neg (by decide), if_neg (by decide), if_pos rfl, if_neg (by decide)]
        have eM : valP TM LM (G + 1 + 1 + 1 + 1) 0 0 = mapP TM LM (G + 1 + 1 + 1) 1 1 [] [] := by
          rw [valP]
          rw [M0, if_neg (by decide), if_neg (by decide), if_neg (by decide), if_neg (by decide), if_pos rfl, if_neg (by decide)]
        rw [eA, eM]
        rcases hd with hd | ⟨a, hd⟩
        · obtain ⟨rA, hvA, sA⟩ := val_sim EA _ 1 (2 * ts.length + 2) F 0 _ (Nat.le_refl _) hFA hd (.inl ⟨_, _, rfl⟩)
          have sA : rA = .ok v' (1 + ts.length) := sA
          subst sA
          obtain ⟨rM, hvM, sM⟩ := val_sim EM _ 1 (2 * ts.length + 2) (G + 1 + 1) 0 _ (Nat.le_refl _) hFM hd (.inl ⟨_, _, rfl⟩)
          have sM : rM = .ok v' (3 + ts.length) := sM
          subst sM
          have kA := (good_kind hvA (.inl ⟨_, _, rfl⟩)).1
          rw [Nat.add_zero] at hvA hvM kA
          rw [Nat.add_comm 1 ts.length] at hvA
          rw [Nat.add_comm 3 ts.length] at hvM
          have e2 : arrP TA LA (F + 1) 1 1 [] = some (.ok ⟨5, 0, ⟨#[]⟩, [v'], []⟩ (ts.length + 2)) := by
            rw [arrP, if_neg kA, hvA]
            simp only
            rw [if_pos a1]
            rfl
          have e4 : mapP TM LM (G + 1 + 1) 1 (ts.length + 3 + 1) [v'] [toB [107]] = some (.ok ⟨6, 0, ⟨#[]⟩, [v', nulV], [kB, lB]⟩ (ts.length + 8)) := by
            have hv0 : valP TM LM (G + 1) 1 (ts.length + 3 + 1 + 2) = some (.ok nulV (ts.length + 7)) := by
              rw [valP, show ts.length + 3 + 1 + 2 = ts.length + 6 by omega, m6, if_neg (show ¬ (9 : Nat) = 8 by decide), if_neg (show ¬ (9 : Nat) = 7 by decide), if_pos rfl]
              rfl
            rw [mapP, show ts.length + 3 + 1 = ts.length + 4 by omega, m4, if_neg (show ¬ (7 : Nat) = 2 by decide), if_neg (show ¬ (7 : Nat) ≠ 7 by decide), if_neg (show ¬ hasN [108] [toB [107]] = true by decide +kernel), show ts.length + 4 + 1 = ts.length + 5 by omega, if_neg (by rw [m5]; decide), show ts.length + 4 + 2 = ts.length + 3 + 1 + 2 by omega, hv0]
            simp only
            rw [if_pos m7]
            rfl
          have e3 : mapP TM LM (G + 1 + 1 + 1) 1 1 [] [] = some (.ok ⟨6, 0, ⟨#[]⟩, [v', nulV], [kB, lB]⟩ (ts.length + 8)) := by
            rw [mapP, M1, if_neg (by decide), if_neg (by decide), if_neg (by decide), M2, if_neg (by decide), hvM]
            simp only
            rw [if_neg (by omega), if_neg (by omega), if_neg (by rw [show ts.length + 3 + 1 = ts.length + 4 by omega, m4]; exact (show ¬ (7 : Nat) = 2 by decide))]
            exact e4
          refine .inl ⟨?_, ?_⟩
          · rw [e2]
            simp only
            rw [if_pos a2]
          · rw [e3]
            simp only
            rw [if_pos m8]
        · obtain ⟨rA, hvA, a1', rfl⟩ := val_sim EA _ 1 (2 * ts.length + 2) F 0 _ (Nat.le_refl _) hFA hd (.inr ⟨_, rfl⟩)
          obtain ⟨rM, hvM, b1', rfl⟩ := val_sim EM _ 1 (2 * ts.length + 2) (G + 1 + 1) 0 _ (Nat.le_refl _) hFM hd (.inr ⟨_, rfl⟩)
          have kA := (good_kind hvA (.inr ⟨_, rfl⟩)).1
          rw [Nat.add_zero] at hvA hvM kA
          have e2 : arrP TA LA (F + 1) 1 1 [] = some (.bad 21 a1') := by
            rw [arrP, if_neg kA, hvA]
          have e3 : mapP TM LM (G + 1 + 1 + 1) 1 1 [] [] = some (.bad 21 b1') := by
            rw [mapP, M1, if_neg (by decide), if_neg (by decide), if_neg (by decide), M2, if_neg (by decide), hvM]
          exact .inr ⟨a1', b1', by rw [e2], by rw [e3]⟩
      · cases h
  · rename_i ts c' a' hne ht
    cases h
    exact absurd rfl hne
end Go.Proofs.YtegppkngdkkdcaaGreatDoor.Tr
end
section
namespace Go.Proofs.YtegppkngdkkdcaaGreatDoor.PS
open Go.RowKit Go.Proofs.YtegppkngdkkdcaaGreatDoorW.PrintWords Go.Proofs.YtegppkngdkkdcaaGreatDoorW.PrintLast Go.Proofs.YtegppkngdkkdcaaGreatDoorW.PrintMore
attribute [local go_sem] max2_int min2_int max_two min_two max_three min_three max_four min_four   -- for this text's walks alone
set_option linter.unusedVariables false
set_option linter.unusedSimpArgs false
def assizelaw02_alive.f (k : Nat)  : Option (Bool) := (tree_Parse.f k (⟨#[91, 49, 44, 32, 110, 117, 108, 108, 93]⟩ : ByteArray)).bind fun bt101 => ((tree_Print.f k bt101.1 bt101.2.1 bt101.2.2.1 bt101.2.2.2.1 bt101.2.2.2.2.1).bind fun bt114 => (if bt101.2.2.2.2.2.1 = 0 then (if bt101.1 = 5 then (if (bt101.2.2.2.1.length : Int) = 2 then (if bt114.2 = 0 then (some (bt114.1.toList == ([91, 49, 44, 110, 117, 108, 108, 93] : List UInt8))) else (some false)) else (some false)) else (some false)) else (some false)))
theorem assizelaw02_alive.mono : ∀ k, LeO (assizelaw02_alive.f k ) (assizelaw02_alive.f (k + 1) ) := by
  intro  k
  unfold assizelaw02_alive.f
  repeat' first
      | (with_reducible exact tree_Parse.mono _ _)
      | (with_reducible exact tree_Print.mono _ _ _ _ _ _)
      | (with_reducible exact LeO.refl _)
      | (with_reducible exact LeO.none _)
      | (with_reducible refine LeO.ite ?_ ?_)
      | (with_reducible refine LeO.bind ?_ (fun _ => ?_))
      | exact tree_Parse.mono _ _
      | exact tree_Print.mono _ _ _ _ _ _
      | exact LeO.none _
      | refine LeO.ite ?_ ?_
      | refine LeO.bind ?_ (fun _ => ?_)
set_option maxHeartbeats 8000000 in
set_option maxRecDepth 100000 in
theorem assizelaw02_alive.calls (k : Nat)  (r : Bool) (w : World) (h : assizelaw02_alive.f k  = some r) (htab : Go.Proofs.YtegppkngdkkdcaaGreatDoor.Lx.LW w) :
    Calls Tryz.prog 7 #[] w fun e w' => e = .returned (.bool r) ∧ Below w.heap.size w w' := by
  have HTAB := Aside0.mk htab
  clear htab
  have hu26 := Tryz.underlying26
  have hu29 := Tryz.underlying29
  have HB := Aside0.mk (Below.refl w.heap.size w)
  have H : ((tree_Parse.f k (⟨#[91, 49, 44, 32, 110, 117, 108, 108, 93]⟩ : ByteArray)).bind fun bt101 => ((tree_Print.f k bt101.1 bt101.2.1 bt101.2.2.1 bt101.2.2.2.1 bt101.2.2.2.2.1).bind fun bt114 => (if bt101.2.2.2.2.2.1 = 0 then (if bt101.1 = 5 then (if (bt101.2.2.2.1.length : Int) = 2 then (if bt114.2 = 0 then (some (bt114.1.toList == ([91, 49, 44, 110, 117, 108, 108, 93] : List UInt8))) else (some false)) else (some false)) else (some false)) else (some false)))) = some r := h
  clear h
  replace H := Option.bind_eq_some_iff.mp H
  obtain ⟨⟨t101, t102, t103, t104, t107, t110, t111⟩, A10, H⟩ := H
  replace H : ((tree_Print.f k t101 t102 t103 t104 t107).bind fun bt114 => (if t110 = 0 then (if t101 = 5 then (if (t104.length : Int) = 2 then (if bt114.2 = 0 then (some (bt114.1.toList == ([91, 49, 44, 110, 117, 108, 108, 93] : List UInt8))) else (some false)) else (some false)) else (some false)) else (some false))) = some r := H
  have A1 := Aside0.mk A10
  clear A10
  replace H := Option.bind_eq_some_iff.mp H
  obtain ⟨⟨t114, t115⟩, A20, H⟩ := H
  replace H : (if t110 = 0 then (if t101 = 5 then (if (t104.length : Int) = 2 then (if t115 = 0 then (some (t114.toList == ([91, 49, 44, 110, 117, 108, 108, 93] : List UInt8))) else (some false)) else (some false)) else (some false)) else (some false)) = some r := H
  have A2 := Aside0.mk A20
  clear A20
  by_cases c3 : t110 = 0
  · rw [if_pos c3] at H
    have c3b0 : (t110 == 0) = true := beq_iff_eq.mpr c3
    have c3b1 : (t110 != 0) = false := bne_eq_false_iff_eq.mpr c3
    clear c3
    by_cases c4 : t101 = 5
    · rw [if_pos c4] at H
      have c4b0 : (t101 == 5) = true := beq_iff_eq.mpr c4
      have c4b1 : (t101 != 5) = false := bne_eq_false_iff_eq.mpr c4
      clear c4
      by_cases c5 : (t104.length : Int) = 2
      · rw [if_pos c5] at H
        have c5b0 : ((t104.length : Int) == 2) = true := beq_iff_eq.mpr c5
        have c5b1 : ((t104.length : Int) != 2) = false := bne_eq_false_iff_eq.mpr c5
        clear c5
        by_cases c6 : t115 = 0
        · rw [if_pos c6] at H
          have c6b0 : (t115 == 0) = true := beq_iff_eq.mpr c6
          have c6b1 : (t115 != 0) = false := bne_eq_false_iff_eq.mpr c6
          clear c6
          obtain rfl := Option.some.inj H
          go_enter Tryz.func7, Tryz.ntmps7
          go_wp2_with (first | ((with_reducible refine gate_callee (f := 8) rfl ?_); refine goesL_ (some 6) rfl rfl Tryz.func8 (by kernel_rfl) rfl #[.string (⟨#[91, 49, 44, 32, 110, 117, 108, 108, 93]⟩ : ByteArray)] rfl (by (try simp only [List.map_toArray, List.map_cons, List.map_nil]); first | done | rfl | (simp only [List.length_drop, List.length_take]; rfl)) ?_; (with_reducible refine (tree_Parse.calls k (⟨#[91, 49, 44, 32, 110, 117, 108, 108, 93]⟩ : ByteArray) t101 t102 t103 t104 t107 t110 t111 _ A1.out (HTAB.out.below (by repeat (first | (with_reducible first | exact HB.out | apply below_alloc | apply pw_below_drewN | apply below_drew1 | refine below_set ?_ (by assumption) | refine below_set ?_ (Aside0.out (by assumption))) | exact HB.out)))).mono ?_); rintro e w7 ⟨v105, v108, rfl, ho0, ho1, hb⟩; refine ⟨_, rfl, ?_⟩; have n0_ := Aside0.mk (Kd.R_lower ho0 (below_size (by repeat (first | (with_reducible first | exact HB.out | apply below_alloc | apply pw_below_drewN | apply below_drew1) | exact HB.out)))); have n1_ := Aside0.mk (Kd.R_lower ho1 (below_size (by repeat (first | (with_reducible first | exact HB.out | apply below_alloc | apply pw_below_drewN | apply below_drew1) | exact HB.out)))); have n2_ := Aside0.mk (below_step (by repeat (first | (with_reducible first | exact HB.out | apply below_alloc | apply pw_below_drewN | apply below_drew1) | exact HB.out)) hb); clear HB; have HO106 := n0_; have HO109 := n1_; have HB := n2_; clear n0_ n1_ n2_; (try clear hb); (try clear hb2); (try clear hk); (try clear hi); (try clear ho0); (try clear ho1)) | ((with_reducible refine gate_dst (N := 1) rfl ?_); (try (refine gate_guard (by rfl) ?_; dsimp only)); refine box_event ?hg (N := 1) ?hd (cs := #[.int .i64 0, .int .i64 0, .string (⟨#[]⟩ : ByteArray), .slice none 0 0, .slice none 0 0]) (t := 26) ?hr ?_; (case hd => rfl); (case hg => rfl); (case hr => first | (go_simp; done) | (go_simp; rfl)); intro gb112 hg w8 hbox hb; have n0_ := Aside0.mk (Kd.R_below (Kd.R_elderB (by (with_reducible repeat (first | apply Kd.R_alloc | apply Kd.R_drewN | apply Kd.R_drew)); exact HO106.out) gb112 (Nat.le_of_eq hg.symm)) hb); have n1_ := Aside0.mk (Kd.R_below (by (with_reducible repeat (first | apply Kd.R_alloc | apply Kd.R_drewN | apply Kd.R_drew)); exact HO109.out) hb); have n2_ := Aside0.mk (below_step (by repeat (first | (with_reducible first | exact HB.out | apply below_alloc | apply pw_below_drewN | apply below_drew1) | exact HB.out)) hb); have n3_ := Aside0.mk (hbox); have n4_ := Aside0.mk ((by rw [hg]; exact (below_size (by repeat (first | (with_reducible first | exact HB.out | apply below_alloc | apply pw_below_drewN | apply below_drew1) | exact HB.out))) : w.heap.size ≤ gb112)); have n5_ := Aside0.mk ((by rw [hg]; exact (below_size (by repeat (first | (with_reducible first | exact HB.out | apply below_alloc | apply pw_below_drewN | apply below_drew1) | exact HB.out))) : w.heap.size ≤ gb112)); clear HO106; clear HO109; clear HB; have HO106 := n0_; have HO109 := n1_; have HB := n2_; have BK112 := n3_; have GW112 := n4_; have GE112 := n5_; clear n0_ n1_ n2_ n3_ n4_ n5_; clear hb hbox hg) | ((with_reducible refine gate_dst (N := 2) rfl ?_); (try (refine gate_guard (by rfl) ?_; dsimp only)); refine box_event ?hg (N := 2) ?hd (cs := #[.int .i64 0, .int .i64 0]) (t := 29) ?hr ?_; (case hd => rfl); (case hg => rfl); (case hr => first | (go_simp; done) | (go_simp; rfl)); intro gb113 hg w9 hbox hb; have n0_ := Aside0.mk (Kd.R_below (by (with_reducible repeat (first | apply Kd.R_alloc | apply Kd.R_drewN | apply Kd.R_drew)); exact HO106.out) hb); have n1_ := Aside0.mk (Kd.R_below (by (with_reducible repeat (first | apply Kd.R_alloc | apply Kd.R_drewN | apply Kd.R_drew)); exact HO109.out) hb); have n2_ := Aside0.mk (blk_below (g := gb112) (o := .cells #[.int .i64 0, .int .i64 0, .string (⟨#[]⟩ : ByteArray), .slice none 0 0, .slice none 0 0] 26 (0, 0)) (by (with_reducible repeat (first | refine blk_drewN ?_ _ | refine blk_drew ?_ | refine blk_alloc ?_ _)); exact BK112.out) hb); have n3_ := Aside0.mk (below_step (by repeat (first | (with_reducible first | exact HB.out | apply below_alloc | apply pw_below_drewN | apply below_drew1 | refine below_set ?_ GE112.out) | exact HB.out)) hb); have n4_ := Aside0.mk (hbox); have n5_ := Aside0.mk ((by rw [hg]; exact (below_size (by repeat (first | (with_reducible first | exact HB.out | apply below_alloc | apply pw_below_drewN | apply below_drew1 | refine below_set ?_ GE112.out) | exact HB.out))) : w.heap.size ≤ gb113)); have n6_ := Aside0.mk ((by rw [hg]; exact (below_size (by repeat (first | (with_reducible first | exact HB.out | apply below_alloc | apply pw_below_drewN | apply below_drew1 | refine below_set ?_ GE112.out) | exact HB.out))) : w.heap.size ≤ gb113)); have n7_ := Aside0.mk ((by rw [hg]; exact Nat.ne_of_lt (blk_lt (g := gb112) (o := .cells #[.int .i64 0, .int .i64 0, .string (⟨#[]⟩ : ByteArray), .slice none 0 0, .slice none 0 0] 26 (0, 0)) (by (with_reducible repeat (first | refine blk_drewN ?_ _ | refine blk_drew ?_ | refine blk_alloc ?_ _)); exact BK112.out)) : gb112 ≠ gb113)); have n8_ := Aside0.mk ((by rw [hg]; exact Nat.ne_of_gt (blk_lt (g := gb112) (o := .cells #[.int .i64 0, .int .i64 0, .string (⟨#[]⟩ : ByteArray), .slice none 0 0, .slice none 0 0] 26 (0, 0)) (by (with_reducible repeat (first | refine blk_drewN ?_ _ | refine blk_drew ?_ | refine blk_alloc ?_ _)); exact BK112.out)) : gb113 ≠ gb112)); clear HO106; clear HO109; clear BK112; clear HB; have HO106 := n0_; have HO109 := n1_; have BK112 := n2_; have HB := n3_; have BK113 := n4_; have GW113 := n5_; have GE113 := n6_; have NB112_113 := n7_; have NB113_112 := n8_; clear n0_ n1_ n2_ n3_ n4_ n5_ n6_ n7_ n8_; clear hb hbox hg; have hnb10 := NB112_113.out; have hnc10 := NB113_112.out; have hcz11_0 : w9.cell? ⟨gb112, 0, none⟩ = some (.int .i64 0) := (blk_cell BK112.out 0).trans rfl; have hcz11_1 : w9.cell? ⟨gb112, 1, none⟩ = some (.int .i64 0) := (blk_cell BK112.out 1).trans rfl; have hcz11_2 : w9.cell? ⟨gb112, 2, none⟩ = some (.string (⟨#[]⟩ : ByteArray)) := (blk_cell BK112.out 2).trans rfl; have hcz11_3 : w9.cell? ⟨gb112, 3, none⟩ = some (.slice none 0 0) := (blk_cell BK112.out 3).trans rfl; have hcz11_4 : w9.cell? ⟨gb112, 4, none⟩ = some (.slice none 0 0) := (blk_cell BK112.out 4).trans rfl; have hfz11_0 := blk_frozen BK112.out 0; have hfz11_1 := blk_frozen BK112.out 1; have hfz11_2 := blk_frozen BK112.out 2; have hfz11_3 := blk_frozen BK112.out 3; have hfz11_4 := blk_frozen BK112.out 4; obtain ⟨Ao12, co12, eo12⟩ := Kd.R_slice HO106.out; subst eo12; obtain ⟨Ao13, co13, eo13⟩ := Kd.R_slice HO109.out; subst eo13; have hcz14_0 : w9.cell? ⟨gb113, 0, none⟩ = some (.int .i64 0) := (blk_cell BK113.out 0).trans rfl; have hcz14_1 : w9.cell? ⟨gb113, 1, none⟩ = some (.int .i64 0) := (blk_cell BK113.out 1).trans rfl; have hfz14_0 := blk_frozen BK113.out 0; have hfz14_1 := blk_frozen BK113.out 1) | ((with_reducible refine gate_callee (f := 12) rfl ?_); refine goesL_ (some 11) rfl rfl Tryz.func12 (by kernel_rfl) rfl #[.agg #[.int .i64 t101, .int .i64 t102, .string t103, .slice Ao12 t104.length co12, .slice Ao13 t107.length co13]] rfl (by (try simp only [List.map_toArray, List.map_cons, List.map_nil]); first | done | rfl | (simp only [List.length_drop, List.length_take]; rfl)) ?_; (with_reducible refine (tree_Print.calls k t101 t102 t103 _ _ t104 _ _ t107 t114 t115 _ ?side1 ?side2 ?side3 ?side4 A2.out (HTAB.out.below (by repeat (first | (with_reducible first | exact HB.out | apply below_alloc | apply pw_below_drewN | apply below_drew1 | refine below_set ?_ (by assumption) | refine below_set ?_ (Aside0.out (by assumption))) | exact HB.out)))).mono ?_); (case side1 => refine (Kd.R_reads' (e := 26) (base := w.heap.size) (ok := fun k_ => (True ∧ k_ ≠ gb112)) (n := t104.length) (c := co12) ?_).2.2; exact (by (with_reducible repeat (first | apply Kd.R_alloc | apply Kd.R_drewN | apply Kd.R_drew)); exact (Kd.R_mono (Kd.R_mono (Kd.R_far (p := ⟨gb113, 1, none⟩) (Kd.R_far (p := ⟨gb113, 0, none⟩) (Kd.R_far (p := ⟨gb112, 4, none⟩) (Kd.R_far (p := ⟨gb112, 3, none⟩) (Kd.R_far (p := ⟨gb112, 2, none⟩) (Kd.R_far (p := ⟨gb112, 1, none⟩) (Kd.R_far (p := ⟨gb112, 0, none⟩) (Kd.R_types (Kd.R_mono HO106.out (fun k_ hk => (⟨hk, hk.2⟩ : _ ∧ k_ ≠ gb112))) BK113.out (by decide)) (fun _ hk => hk.1.2) (.int .i64 t101)) (fun _ hk => hk.1.2) (.int .i64 t102)) (fun _ hk => hk.1.2) (.string t103)) (fun _ hk => hk.1.2) (.slice Ao12 t104.length co12)) (fun _ hk => hk.1.2) (.slice Ao13 t107.length co13)) (fun _ hk => hk.2) (.int .i64 t110)) (fun _ hk => hk.2) (.int .i64 t111)) (fun _ h_ => h_.1)) (fun _ h_ => h_.1)))); (case side2 => exact (Kd.R_reads' HO106.out).2.1); (case side3 => refine (Kd.R_reads' (e := 9) (base := w.heap.size) (ok := fun k_ => True) (n := t107.length) (c := co13) ?_).2.2; exact (by (with_reducible repeat (first | apply Kd.R_alloc | apply Kd.R_drewN | apply Kd.R_drew)); exact (Kd.R_mono (Kd.R_mono (Kd.R_far (p := ⟨gb113, 1, none⟩) (Kd.R_far (p := ⟨gb113, 0, none⟩) (Kd.R_far (p := ⟨gb112, 4, none⟩) (Kd.R_far (p := ⟨gb112, 3, none⟩) (Kd.R_far (p := ⟨gb112, 2, none⟩) (Kd.R_far (p := ⟨gb112, 1, none⟩) (Kd.R_far (p := ⟨gb112, 0, none⟩) (Kd.R_types (Kd.R_types HO109.out BK112.out (by decide)) BK113.out (by decide)) (fun _ hk => hk.1.2) (.int .i64 t101)) (fun _ hk => hk.1.2) (.int .i64 t102)) (fun _ hk => hk.1.2) (.string t103)) (fun _ hk => hk.1.2) (.slice Ao12 t104.length co12)) (fun _ hk => hk.1.2) (.slice Ao13 t107.length co13)) (fun _ hk => hk.2) (.int .i64 t110)) (fun _ hk => hk.2) (.int .i64 t111)) (fun _ h_ => h_.1)) (fun _ h_ => h_.1)))); (case side4 => exact (Kd.R_reads' HO109.out).2.1); rintro e w15 ⟨rfl, hb⟩; refine ⟨_, rfl, ?_⟩; have n0_ := Aside0.mk (Kd.R_below (by (with_reducible repeat (first | apply Kd.R_alloc | apply Kd.R_drewN | apply Kd.R_drew)); exact (Kd.R_mono (Kd.R_mono (Kd.R_far (p := ⟨gb113, 1, none⟩) (Kd.R_far (p := ⟨gb113, 0, none⟩) (Kd.R_far (p := ⟨gb112, 4, none⟩) (Kd.R_far (p := ⟨gb112, 3, none⟩) (Kd.R_far (p := ⟨gb112, 2, none⟩) (Kd.R_far (p := ⟨gb112, 1, none⟩) (Kd.R_far (p := ⟨gb112, 0, none⟩) (Kd.R_types (Kd.R_mono HO106.out (fun k_ hk => (⟨hk, hk.2⟩ : _ ∧ k_ ≠ gb112))) BK113.out (by decide)) (fun _ hk => hk.1.2) (.int .i64 t101)) (fun _ hk => hk.1.2) (.int .i64 t102)) (fun _ hk => hk.1.2) (.string t103)) (fun _ hk => hk.1.2) (.slice Ao12 t104.length co12)) (fun _ hk => hk.1.2) (.slice Ao13 t107.length co13)) (fun _ hk => hk.2) (.int .i64 t110)) (fun _ hk => hk.2) (.int .i64 t111)) (fun _ h_ => h_.1)) (fun _ h_ => h_.1))) hb); have n1_ := Aside0.mk (Kd.R_below (by (with_reducible repeat (first | apply Kd.R_alloc | apply Kd.R_drewN | apply Kd.R_drew)); exact (Kd.R_mono (Kd.R_mono (Kd.R_far (p := ⟨gb113, 1, none⟩) (Kd.R_far (p := ⟨gb113, 0, none⟩) (Kd.R_far (p := ⟨gb112, 4, none⟩) (Kd.R_far (p := ⟨gb112, 3, none⟩) (Kd.R_far (p := ⟨gb112, 2, none⟩) (Kd.R_far (p := ⟨gb112, 1, none⟩) (Kd.R_far (p := ⟨gb112, 0, none⟩) (Kd.R_types (Kd.R_types HO109.out BK112.out (by decide)) BK113.out (by decide)) (fun _ hk => hk.1.2) (.int .i64 t101)) (fun _ hk => hk.1.2) (.int .i64 t102)) (fun _ hk => hk.1.2) (.string t103)) (fun _ hk => hk.1.2) (.slice Ao12 t104.length co12)) (fun _ hk => hk.1.2) (.slice Ao13 t107.length co13)) (fun _ hk => hk.2) (.int .i64 t110)) (fun _ hk => hk.2) (.int .i64 t111)) (fun _ h_ => h_.1)) (fun _ h_ => h_.1))) hb); have n2_ := Aside0.mk (blk_below (g := gb112) (o := .cells #[.int .i64 t101, .int .i64 t102, .string t103, .slice Ao12 t104.length co12, .slice Ao13 t107.length co13] 26 (0, 0)) (by (with_reducible repeat (first | refine blk_drewN ?_ _ | refine blk_drew ?_ | refine blk_alloc ?_ _)); refine blk_far ?_ NB112_113.out _; (with_reducible repeat (first | refine blk_drewN ?_ _ | refine blk_drew ?_ | refine blk_alloc ?_ _)); refine blk_far ?_ NB112_113.out _; (with_reducible repeat (first | refine blk_drewN ?_ _ | refine blk_drew ?_ | refine blk_alloc ?_ _)); refine blk_put (cs := #[.int .i64 t101, .int .i64 t102, .string t103, .slice Ao12 t104.length co12, .slice none 0 0]) ?_ 4 _ rfl; (with_reducible repeat (first | refine blk_drewN ?_ _ | refine blk_drew ?_ | refine blk_alloc ?_ _)); refine blk_put (cs := #[.int .i64 t101, .int .i64 t102, .string t103, .slice none 0 0, .slice none 0 0]) ?_ 3 _ rfl; (with_reducible repeat (first | refine blk_drewN ?_ _ | refine blk_drew ?_ | refine blk_alloc ?_ _)); refine blk_put (cs := #[.int .i64 t101, .int .i64 t102, .string (⟨#[]⟩ : ByteArray), .slice none 0 0, .slice none 0 0]) ?_ 2 _ rfl; (with_reducible repeat (first | refine blk_drewN ?_ _ | refine blk_drew ?_ | refine blk_alloc ?_ _)); refine blk_put (cs := #[.int .i64 t101, .int .i64 0, .string (⟨#[]⟩ : ByteArray), .slice none 0 0, .slice none 0 0]) ?_ 1 _ rfl; (with_reducible repeat (first | refine blk_drewN ?_ _ | refine blk_drew ?_ | refine blk_alloc ?_ _)); refine blk_put (cs := #[.int .i64 0, .int .i64 0, .string (⟨#[]⟩ : ByteArray), .slice none 0 0, .slice none 0 0]) ?_ 0 _ rfl; (with_reducible repeat (first | refine blk_drewN ?_ _ | refine blk_drew ?_ | refine blk_alloc ?_ _)); exact BK112.out) hb); have n3_ := Aside0.mk (blk_below (g := gb113) (o := .cells #[.int .i64 t110, .int .i64 t111] 29 (0, 0)) (by (with_reducible repeat (first | refine blk_drewN ?_ _ | refine blk_drew ?_ | refine blk_alloc ?_ _)); refine blk_put (cs := #[.int .i64 t110, .int .i64 0]) ?_ 1 _ rfl; (with_reducible repeat (first | refine blk_drewN ?_ _ | refine blk_drew ?_ | refine blk_alloc ?_ _)); refine blk_put (cs := #[.int .i64 0, .int .i64 0]) ?_ 0 _ rfl; (with_reducible repeat (first | refine blk_drewN ?_ _ | refine blk_drew ?_ | refine blk_alloc ?_ _)); refine blk_far ?_ NB113_112.out _; (with_reducible repeat (first | refine blk_drewN ?_ _ | refine blk_drew ?_ | refine blk_alloc ?_ _)); refine blk_far ?_ NB113_112.out _; (with_reducible repeat (first | refine blk_drewN ?_ _ | refine blk_drew ?_ | refine blk_alloc ?_ _)); refine blk_far ?_ NB113_112.out _; (with_reducible repeat (first | refine blk_drewN ?_ _ | refine blk_drew ?_ | refine blk_alloc ?_ _)); refine blk_far ?_ NB113_112.out _; (with_reducible repeat (first | refine blk_drewN ?_ _ | refine blk_drew ?_ | refine blk_alloc ?_ _)); refine blk_far ?_ NB113_112.out _; (with_reducible repeat (first | refine blk_drewN ?_ _ | refine blk_drew ?_ | refine blk_alloc ?_ _)); exact BK113.out) hb); have n4_ := Aside0.mk (below_step (by repeat (first | (with_reducible first | exact HB.out | apply below_alloc | apply pw_below_drewN | apply below_drew1 | refine below_set ?_ GE112.out | refine below_set ?_ GE113.out) | exact HB.out)) hb); clear HO106; clear HO109; clear BK112; clear BK113; clear HB; have HO106 := n0_; have HO109 := n1_; have BK112 := n2_; have BK113 := n3_; have HB := n4_; clear n0_ n1_ n2_ n3_ n4_; (try clear hb); (try clear hb2); (try clear hk); (try clear hi); have hcz16_0 : w15.cell? ⟨gb113, 0, none⟩ = some (.int .i64 t110) := (blk_cell BK113.out 0).trans rfl; have hcz16_1 : w15.cell? ⟨gb113, 1, none⟩ = some (.int .i64 t111) := (blk_cell BK113.out 1).trans rfl; have hfz16_0 := blk_frozen BK113.out 0; have hfz16_1 := blk_frozen BK113.out 1; have hcz17_0 : w15.cell? ⟨gb112, 0, none⟩ = some (.int .i64 t101) := (blk_cell BK112.out 0).trans rfl; have hcz17_1 : w15.cell? ⟨gb112, 1, none⟩ = some (.int .i64 t102) := (blk_cell BK112.out 1).trans rfl; have hcz17_2 : w15.cell? ⟨gb112, 2, none⟩ = some (.string t103) := (blk_cell BK112.out 2).trans rfl; have hcz17_3 : w15.cell? ⟨gb112, 3, none⟩ = some (.slice Ao12 t104.length co12) := (blk_cell BK112.out 3).trans rfl; have hcz17_4 : w15.cell? ⟨gb112, 4, none⟩ = some (.slice Ao13 t107.length co13) := (blk_cell BK112.out 4).trans rfl; have hfz17_0 := blk_frozen BK112.out 0; have hfz17_1 := blk_frozen BK112.out 1; have hfz17_2 := blk_frozen BK112.out 2; have hfz17_3 := blk_frozen BK112.out 3; have hfz17_4 := blk_frozen BK112.out 4))
          go_ret
          exact ⟨by first | rfl | (simp [errW_none, errW_some] <;> rfl) | (simp [*, errW_none, errW_some] <;> rfl), by repeat (first | (with_reducible first | exact HB.out | apply below_alloc | apply pw_below_drewN | apply below_drew1 | refine below_set ?_ GE112.out | refine below_set ?_ GE113.out) | exact HB.out)⟩
        · rw [if_neg c6] at H
          have c6b0 : (t115 == 0) = false := beq_eq_false_iff_ne.mpr c6
          have c6b1 : (t115 != 0) = true := bne_iff_ne.mpr c6
          obtain rfl := Option.some.inj H
          go_enter Tryz.func7, Tryz.ntmps7
          go_wp2_with (first | ((with_reducible refine gate_callee (f := 8) rfl ?_); refine goesL_ (some 6) rfl rfl Tryz.func8 (by kernel_rfl) rfl #[.string (⟨#[91, 49, 44, 32, 110, 117, 108, 108, 93]⟩ : ByteArray)] rfl (by (try simp only [List.map_toArray, List.map_cons, List.map_nil]); first | done | rfl | (simp only [List.length_drop, List.length_take]; rfl)) ?_; (with_reducible refine (tree_Parse.calls k (⟨#[91, 49, 44, 32, 110, 117, 108, 108, 93]⟩ : ByteArray) t101 t102 t103 t104 t107 t110 t111 _ A1.out (HTAB.out.below (by repeat (first | (with_reducible first | exact HB.out | apply below_alloc | apply pw_below_drewN | apply below_drew1 | refine below_set ?_ (by assumption) | refine below_set ?_ (Aside0.out (by assumption))) | exact HB.out)))).mono ?_); rintro e w18 ⟨v105, v108, rfl, ho0, ho1, hb⟩; refine ⟨_, rfl, ?_⟩; have n0_ := Aside0.mk (Kd.R_lower ho0 (below_size (by repeat (first | (with_reducible first | exact HB.out | apply below_alloc | apply pw_below_drewN | apply below_drew1) | exact HB.out)))); have n1_ := Aside0.mk (Kd.R_lower ho1 (below_size (by repeat (first | (with_reducible first | exact HB.out | apply below_alloc | apply pw_below_drewN | apply below_drew1) | exact HB.out)))); have n2_ := Aside0.mk (below_step (by repeat (first | (with_reducible first | exact HB.out | apply below_alloc | apply pw_below_drewN | apply below_drew1) | exact HB.out)) hb); clear HB; have HO106 := n0_; have HO109 := n1_; have HB := n2_; clear n0_ n1_ n2_; (try clear hb); (try clear hb2); (try clear hk); (try clear hi); (try clear ho0); (try clear ho1)) | ((with_reducible refine gate_dst (N := 1) rfl ?_); (try (refine gate_guard (by rfl) ?_; dsimp only)); refine box_event ?hg (N := 1) ?hd (cs := #[.int .i64 0, .int .i64 0, .string (⟨#[]⟩ : ByteArray), .slice none 0 0, .slice none 0 0]) (t := 26) ?hr ?_; (case hd => rfl); (case hg => rfl); (case hr => first | (go_simp; done) | (go_simp; rfl)); intro gb112 hg w19 hbox hb; have n0_ := Aside0.mk (Kd.R_below (Kd.R_elderB (by (with_reducible repeat (first | apply Kd.R_alloc | apply Kd.R_drewN | apply Kd.R_drew)); exact HO106.out) gb112 (Nat.le_of_eq hg.symm)) hb); have n1_ := Aside0.mk (Kd.R_below (by (with_reducible repeat (first | apply Kd.R_alloc | apply Kd.R_drewN | apply Kd.R_drew)); exact HO109.out) hb); have n2_ := Aside0.mk (below_step (by repeat (first | (with_reducible first | exact HB.out | apply below_alloc | apply pw_below_drewN | apply below_drew1) | exact HB.out)) hb); have n3_ := Aside0.mk (hbox); have n4_ := Aside0.mk ((by rw [hg]; exact (below_size (by repeat (first | (with_reducible first | exact HB.out | apply below_alloc | apply pw_below_drewN | apply below_drew1) | exact HB.out))) : w.heap.size ≤ gb112)); have n5_ := Aside0.mk ((by rw [hg]; exact (below_size (by repeat (first | (with_reducible first | exact HB.out | apply below_alloc | apply pw_below_drewN | apply below_drew1) | exact HB.out))) : w.heap.size ≤ gb112)); clear HO106; clear HO109; clear HB; have HO106 := n0_; have HO109 := n1_; have HB := n2_; have BK112 := n3_; have GW112 := n4_; have GE112 := n5_; clear n0_ n1_ n2_ n3_ n4_ n5_; clear hb hbox hg) | ((with_reducible refine gate_dst (N := 2) rfl ?_); (try (refine gate_guard (by rfl) ?_; dsimp only)); refine box_event ?hg (N := 2) ?hd (cs := #[.int .i64 0, .int .i64 0]) (t := 29) ?hr ?_; (case hd => rfl); (case hg => rfl); (case hr => first | (go_simp; done) | (go_simp; rfl)); intro gb113 hg w20 hbox hb; have n0_ := Aside0.mk (Kd.R_below (by (with_reducible repeat (first | apply Kd.R_alloc | apply Kd.R_drewN | apply Kd.R_drew)); exact HO106.out) hb); have n1_ := Aside0.mk (Kd.R_below (by (with_reducible repeat (first | apply Kd.R_alloc | apply Kd.R_drewN | apply Kd.R_drew)); exact HO109.out) hb); have n2_ := Aside0.mk (blk_below (g := gb112) (o := .cells #[.int .i64 0, .int .i64 0, .string (⟨#[]⟩ : ByteArray), .slice none 0 0, .slice none 0 0] 26 (0, 0)) (by (with_reducible repeat (first | refine blk_drewN ?_ _ | refine blk_drew ?_ | refine blk_alloc ?_ _)); exact BK112.out) hb); have n3_ := Aside0.mk (below_step (by repeat (first | (with_reducible first | exact HB.out | apply below_alloc | apply pw_below_drewN | apply below_drew1 | refine below_set ?_ GE112.out) | exact HB.out)) hb); have n4_ := Aside0.mk (hbox); have n5_ := Aside0.mk ((by rw [hg]; exact (below_size (by repeat (first | (with_reducible first | exact HB.out | apply below_alloc | apply pw_below_drewN | apply below_drew1 | refine below_set ?_ GE112.out) | exact HB.out))) : w.heap.size ≤ gb113)); have n6_ := Aside0.mk ((by rw [hg]; exact (below_size (by repeat (first | (with_reducible first | exact HB.out | apply below_alloc | apply pw_below_drewN | apply below_drew1 | refine below_set ?_ GE112.out) | exact HB.out))) : w.heap.size ≤ gb113)); have n7_ := Aside0.mk ((by rw [hg]; exact Nat.ne_of_lt (blk_lt (g := gb112) (o := .cells #[.int .i64 0, .int .i64 0, .string (⟨#[]⟩ : ByteArray), .slice none 0 0, .slice none 0 0] 26 (0, 0)) (by (with_reducible repeat (first | refine blk_drewN ?_ _ | refine blk_drew ?_ | refine blk_alloc ?_ _)); exact BK112.out)) : gb112 ≠ gb113)); have n8_ := Aside0.mk ((by rw [hg]; exact Nat.ne_of_gt (blk_lt (g := gb112) (o := .cells #[.int .i64 0, .int .i64 0, .string (⟨#[]⟩ : ByteArray), .slice none 0 0, .slice none 0 0] 26 (0, 0)) (by (with_reducible repeat (first | refine blk_drewN ?_ _ | refine blk_drew ?_ | refine blk_alloc ?_ _)); exact BK112.out)) : gb113 ≠ gb112)); clear HO106; clear HO109; clear BK112; clear HB; have HO106 := n0_; have HO109 := n1_; have BK112 := n2_; have HB := n3_; have BK113 := n4_; have GW113 := n5_; have GE113 := n6_; have NB112_113 := n7_; have NB113_112 := n8_; clear n0_ n1_ n2_ n3_ n4_ n5_ n6_ n7_ n8_; clear hb hbox hg; have hnb21 := NB112_113.out; have hnc21 := NB113_112.out; have hcz22_0 : w20.cell? ⟨gb112, 0, none⟩ = some (.int .i64 0) := (blk_cell BK112.out 0).trans rfl; have hcz22_1 : w20.cell? ⟨gb112, 1, none⟩ = some (.int .i64 0) := (blk_cell BK112.out 1).trans rfl; have hcz22_2 : w20.cell? ⟨gb112, 2, none⟩ = some (.string (⟨#[]⟩ : ByteArray)) := (blk_cell BK112.out 2).trans rfl; have hcz22_3 : w20.cell? ⟨gb112, 3, none⟩ = some (.slice none 0 0) := (blk_cell BK112.out 3).trans rfl; have hcz22_4 : w20.cell? ⟨gb112, 4, none⟩ = some (.slice none 0 0) := (blk_cell BK112.out 4).trans rfl; have hfz22_0 := blk_frozen BK112.out 0; have hfz22_1 := blk_frozen BK112.out 1; have hfz22_2 := blk_frozen BK112.out 2; have hfz22_3 := blk_frozen BK112.out 3; have hfz22_4 := blk_frozen BK112.out 4; obtain ⟨Ao23, co23, eo23⟩ := Kd.R_slice HO106.out; subst eo23; obtain ⟨Ao24, co24, eo24⟩ := Kd.R_slice HO109.out; subst eo24; have hcz25_0 : w20.cell? ⟨gb113, 0, none⟩ = some (.int .i64 0) := (blk_cell BK113.out 0).trans rfl; have hcz25_1 : w20.cell? ⟨gb113, 1, none⟩ = some (.int .i64 0) := (blk_cell BK113.out 1).trans rfl; have hfz25_0 := blk_frozen BK113.out 0; have hfz25_1 := blk_frozen BK113.out 1) | ((with_reducible refine gate_callee (f := 12) rfl ?_); refine goesL_ (some 11) rfl rfl Tryz.func12 (by kernel_rfl) rfl #[.agg #[.int .i64 t101, .int .i64 t102, .string t103, .slice Ao23 t104.length co23, .slice Ao24 t107.length co24]] rfl (by (try simp only [List.map_toArray, List.map_cons, List.map_nil]); first | done | rfl | (simp only [List.length_drop, List.length_take]; rfl)) ?_; (with_reducible refine (tree_Print.calls k t101 t102 t103 _ _ t104 _ _ t107 t114 t115 _ ?side1 ?side2 ?side3 ?side4 A2.out (HTAB.out.below (by repeat (first | (with_reducible first | exact HB.out | apply below_alloc | apply pw_below_drewN | apply below_drew1 | refine below_set ?_ (by assumption) | refine below_set ?_ (Aside0.out (by assumption))) | exact HB.out)))).mono ?_); (case side1 => refine (Kd.R_reads' (e := 26) (base := w.heap.size) (ok := fun k_ => (True ∧ k_ ≠ gb112)) (n := t104.length) (c := co23) ?_).2.2; exact (by (with_reducible repeat (first | apply Kd.R_alloc | apply Kd.R_drewN | apply Kd.R_drew)); exact (Kd.R_mono (Kd.R_mono (Kd.R_far (p := ⟨gb113, 1, none⟩) (Kd.R_far (p := ⟨gb113, 0, none⟩) (Kd.R_far (p := ⟨gb112, 4, none⟩) (Kd.R_far (p := ⟨gb112, 3, none⟩) (Kd.R_far (p := ⟨gb112, 2, none⟩) (Kd.R_far (p := ⟨gb112, 1, none⟩) (Kd.R_far (p := ⟨gb112, 0, none⟩) (Kd.R_types (Kd.R_mono HO106.out (fun k_ hk => (⟨hk, hk.2⟩ : _ ∧ k_ ≠ gb112))) BK113.out (by decide)) (fun _ hk => hk.1.2) (.int .i64 t101)) (fun _ hk => hk.1.2) (.int .i64 t102)) (fun _ hk => hk.1.2) (.string t103)) (fun _ hk => hk.1.2) (.slice Ao23 t104.length co23)) (fun _ hk => hk.1.2) (.slice Ao24 t107.length co24)) (fun _ hk => hk.2) (.int .i64 t110)) (fun _ hk => hk.2) (.int .i64 t111)) (fun _ h_ => h_.1)) (fun _ h_ => h_.1)))); (case side2 => exact (Kd.R_reads' HO106.out).2.1); (case side3 => refine (Kd.R_reads' (e := 9) (base := w.heap.size) (ok := fun k_ => True) (n := t107.length) (c := co24) ?_).2.2; exact (by (with_reducible repeat (first | apply Kd.R_alloc | apply Kd.R_drewN | apply Kd.R_drew)); exact (Kd.R_mono (Kd.R_mono (Kd.R_far (p := ⟨gb113, 1, none⟩) (Kd.R_far (p := ⟨gb113, 0, none⟩) (Kd.R_far (p := ⟨gb112, 4, none⟩) (Kd.R_far (p := ⟨gb112, 3, none⟩) (Kd.R_far (p := ⟨gb112, 2, none⟩) (Kd.R_far (p := ⟨gb112, 1, none⟩) (Kd.R_far (p := ⟨gb112, 0, none⟩) (Kd.R_types (Kd.R_types HO109.out BK112.out (by decide)) BK113.out (by decide)) (fun _ hk => hk.1.2) (.int .i64 t101)) (fun _ hk => hk.1.2) (.int .i64 t102)) (fun _ hk => hk.1.2) (.string t103)) (fun _ hk => hk.1.2) (.slice Ao23 t104.length co23)) (fun _ hk => hk.1.2) (.slice Ao24 t107.length co24)) (fun _ hk => hk.2) (.int .i64 t110)) (fun _ hk => hk.2) (.int .i64 t111)) (fun _ h_ => h_.1)) (fun _ h_ => h_.1)))); (case side4 => exact (Kd.R_reads' HO109.out).2.1); rintro e w26 ⟨rfl, hb⟩; refine ⟨_, rfl, ?_⟩; have n0_ := Aside0.mk (Kd.R_below (by (with_reducible repeat (first | apply Kd.R_alloc | apply Kd.R_drewN | apply Kd.R_drew)); exact (Kd.R_mono (Kd.R_mono (Kd.R_far (p := ⟨gb113, 1, none⟩) (Kd.R_far (p := ⟨gb113, 0, none⟩) (Kd.R_far (p := ⟨gb112, 4, none⟩) (Kd.R_far (p := ⟨gb112, 3, none⟩) (Kd.R_far (p := ⟨gb112, 2, none⟩) (Kd.R_far (p := ⟨gb112, 1, none⟩) (Kd.R_far (p := ⟨gb112, 0, none⟩) (Kd.R_types (Kd.R_mono HO106.out (fun k_ hk => (⟨hk, hk.2⟩ : _ ∧ k_ ≠ gb112))) BK113.out (by decide)) (fun _ hk => hk.1.2) (.int .i64 t101)) (fun _ hk => hk.1.2) (.int .i64 t102)) (fun _ hk => hk.1.2) (.string t103)) (fun _ hk => hk.1.2) (.slice Ao23 t104.length co23)) (fun _ hk => hk.1.2) (.slice Ao24 t107.length co24)) (fun _ hk => hk.2) (.int .i64 t110)) (fun _ hk => hk.2) (.int .i64 t111)) (fun _ h_ => h_.1)) (fun _ h_ => h_.1))) hb); have n1_ := Aside0.mk (Kd.R_below (by (with_reducible repeat (first | apply Kd.R_alloc | apply Kd.R_drewN | apply Kd.R_drew)); exact (Kd.R_mono (Kd.R_mono (Kd.R_far (p := ⟨gb113, 1, none⟩) (Kd.R_far (p := ⟨gb113, 0, none⟩) (Kd.R_far (p := ⟨gb112, 4, none⟩) (Kd.R_far (p := ⟨gb112, 3, none⟩) (Kd.R_far (p := ⟨gb112, 2, none⟩) (Kd.R_far (p := ⟨gb112, 1, none⟩) (Kd.R_far (p := ⟨gb112, 0, none⟩) (Kd.R_types (Kd.R_types HO109.out BK112.out (by decide)) BK113.out (by decide)) (fun _ hk => hk.1.2) (.int .i64 t101)) (fun _ hk => hk.1.2) (.int .i64 t102)) (fun _ hk => hk.1.2) (.string t103)) (fun _ hk => hk.1.2) (.slice Ao23 t104.length co23)) (fun _ hk => hk.1.2) (.slice Ao24 t107.length co24)) (fun _ hk => hk.2) (.int .i64 t110)) (fun _ hk => hk.2) (.int .i64 t111)) (fun _ h_ => h_.1)) (fun _ h_ => h_.1))) hb); have n2_ := Aside0.mk (blk_below (g := gb112) (o := .cells #[.int .i64 t101, .int .i64 t102, .string t103, .slice Ao23 t104.length co23, .slice Ao24 t107.length co24] 26 (0, 0)) (by (with_reducible repeat (first | refine blk_drewN ?_ _ | refine blk_drew ?_ | refine blk_alloc ?_ _)); refine blk_far ?_ NB112_113.out _; (with_reducible repeat (first | refine blk_drewN ?_ _ | refine blk_drew ?_ | refine blk_alloc ?_ _)); refine blk_far ?_ NB112_113.out _; (with_reducible repeat (first | refine blk_drewN ?_ _ | refine blk_drew ?_ | refine blk_alloc ?_ _)); refine blk_put (cs := #[.int .i64 t101, .int .i64 t102, .string t103, .slice Ao23 t104.length co23, .slice none 0 0]) ?_ 4 _ rfl; (with_reducible repeat (first | refine blk_drewN ?_ _ | refine blk_drew ?_ | refine blk_alloc ?_ _)); refine blk_put (cs := #[.int .i64 t101, .int .i64 t102, .string t103, .slice none 0 0, .slice none 0 0]) ?_ 3 _ rfl; (with_reducible repeat (first | refine blk_drewN ?_ _ | refine blk_drew ?_ | refine blk_alloc ?_ _)); refine blk_put (cs := #[.int .i64 t101, .int .i64 t102, .string (⟨#[]⟩ : ByteArray), .slice none 0 0, .slice none 0 0]) ?_ 2 _ rfl; (with_reducible repeat (first | refine blk_drewN ?_ _ | refine blk_drew ?_ | refine blk_alloc ?_ _)); refine blk_put (cs := #[.int .i64 t101, .int .i64 0, .string (⟨#[]⟩ : ByteArray), .slice none 0 0, .slice none 0 0]) ?_ 1 _ rfl; (with_reducible repeat (first | refine blk_drewN ?_ _ | refine blk_drew ?_ | refine blk_alloc ?_ _)); refine blk_put (cs := #[.int .i64 0, .int .i64 0, .string (⟨#[]⟩ : ByteArray), .slice none 0 0, .slice none 0 0]) ?_ 0 _ rfl; (with_reducible repeat (first | refine blk_drewN ?_ _ | refine blk_drew ?_ | refine blk_alloc ?_ _)); exact BK112.out) hb); have n3_ := Aside0.mk (blk_below (g := gb113) (o := .cells #[.int .i64 t110, .int .i64 t111] 29 (0, 0)) (by (with_reducible repeat (first | refine blk_drewN ?_ _ | refine blk_drew ?_ | refine blk_alloc ?_ _)); refine blk_put (cs := #[.int .i64 t110, .int .i64 0]) ?_ 1 _ rfl; (with_reducible repeat (first | refine blk_drewN ?_ _ | refine blk_drew ?_ | refine blk_alloc ?_ _)); refine blk_put (cs := #[.int .i64 0, .int .i64 0]) ?_ 0 _ rfl; (with_reducible repeat (first | refine blk_drewN ?_ _ | refine blk_drew ?_ | refine blk_alloc ?_ _)); refine blk_far ?_ NB113_112.out _; (with_reducible repeat (first | refine blk_drewN ?_ _ | refine blk_drew ?_ | refine blk_alloc ?_ _)); refine blk_far ?_ NB113_112.out _; (with_reducible repeat (first | refine blk_drewN ?_ _ | refine blk_drew ?_ | refine blk_alloc ?_ _)); refine blk_far ?_ NB113_112.out _; (with_reducible repeat (first | refine blk_drewN ?_ _ | refine blk_drew ?_ | refine blk_alloc ?_ _)); refine blk_far ?_ NB113_112.out _; (with_reducible repeat (first | refine blk_drewN ?_ _ | refine blk_drew ?_ | refine blk_alloc ?_ _)); refine blk_far ?_ NB113_112.out _; (with_reducible repeat (first | refine blk_drewN ?_ _ | refine blk_drew ?_ | refine blk_alloc ?_ _)); exact BK113.out) hb); have n4_ := Aside0.mk (below_step (by repeat (first | (with_reducible first | exact HB.out | apply below_alloc | apply pw_below_drewN | apply below_drew1 | refine below_set ?_ GE112.out | refine below_set ?_ GE113.out) | exact HB.out)) hb); clear HO106; clear HO109; clear BK112; clear BK113; clear HB; have HO106 := n0_; have HO109 := n1_; have BK112 := n2_; have BK113 := n3_; have HB := n4_; clear n0_ n1_ n2_ n3_ n4_; (try clear hb); (try clear hb2); (try clear hk); (try clear hi); have hcz27_0 : w26.cell? ⟨gb113, 0, none⟩ = some (.int .i64 t110) := (blk_cell BK113.out 0).trans rfl; have hcz27_1 : w26.cell? ⟨gb113, 1, none⟩ = some (.int .i64 t111) := (blk_cell BK113.out 1).trans rfl; have hfz27_0 := blk_frozen BK113.out 0; have hfz27_1 := blk_frozen BK113.out 1; have hcz28_0 : w26.cell? ⟨gb112, 0, none⟩ = some (.int .i64 t101) := (blk_cell BK112.out 0).trans rfl; have hcz28_1 : w26.cell? ⟨gb112, 1, none⟩ = some (.int .i64 t102) := (blk_cell BK112.out 1).trans rfl; have hcz28_2 : w26.cell? ⟨gb112, 2, none⟩ = some (.string t103) := (blk_cell BK112.out 2).trans rfl; have hcz28_3 : w26.cell? ⟨gb112, 3, none⟩ = some (.slice Ao23 t104.length co23) := (blk_cell BK112.out 3).trans rfl; have hcz28_4 : w26.cell? ⟨gb112, 4, none⟩ = some (.slice Ao24 t107.length co24) := (blk_cell BK112.out 4).trans rfl; have hfz28_0 := blk_frozen BK112.out 0; have hfz28_1 := blk_frozen BK112.out 1; have hfz28_2 := blk_frozen BK112.out 2; have hfz28_3 := blk_frozen BK112.out 3; have hfz28_4 := blk_frozen BK112.out 4))
          go_ret
          exact ⟨by first | rfl | (simp [errW_none, errW_some] <;> rfl) | (simp [*, errW_none, errW_some] <;> rfl), by repeat (first | (with_reducible first | exact HB.out | apply below_alloc | apply pw_below_drewN | apply below_drew1 | refine below_set ?_ GE112.out | refine below_set ?_ GE113.out) | exact HB.out)⟩
      · rw [if_neg c5] at H
        have c5b0 : ((t104.length : Int) == 2) = false := beq_eq_false_iff_ne.mpr c5
        have c5b1 : ((t104.length : Int) != 2) = true := bne_iff_ne.mpr c5
        obtain rfl := Option.some.inj H
        go_enter Tryz.func7, Tryz.ntmps7
        go_wp2_with (first | ((with_reducible refine gate_callee (f := 8) rfl ?_); refine goesL_ (some 6) rfl rfl Tryz.func8 (by kernel_rfl) rfl #[.string (⟨#[91, 49, 44, 32, 110, 117, 108, 108, 93]⟩ : ByteArray)] rfl (by (try simp only [List.map_toArray, List.map_cons, List.map_nil]); first | done | rfl | (simp only [List.length_drop, List.length_take]; rfl)) ?_; (with_reducible refine (tree_Parse.calls k (⟨#[91, 49, 44, 32, 110, 117, 108, 108, 93]⟩ : ByteArray) t101 t102 t103 t104 t107 t110 t111 _ A1.out (HTAB.out.below (by repeat (first | (with_reducible first | exact HB.out | apply below_alloc | apply pw_below_drewN | apply below_drew1 | refine below_set ?_ (by assumption) | refine below_set ?_ (Aside0.out (by assumption))) | exact HB.out)))).mono ?_); rintro e w29 ⟨v105, v108, rfl, ho0, ho1, hb⟩; refine ⟨_, rfl, ?_⟩; have n0_ := Aside0.mk (Kd.R_lower ho0 (below_size (by repeat (first | (with_reducible first | exact HB.out | apply below_alloc | apply pw_below_drewN | apply below_drew1) | exact HB.out)))); have n1_ := Aside0.mk (Kd.R_lower ho1 (below_size (by repeat (first | (with_reducible first | exact HB.out | apply below_alloc | apply pw_below_drewN | apply below_drew1) | exact HB.out)))); have n2_ := Aside0.mk (below_step (by repeat (first | (with_reducible first | exact HB.out | apply below_alloc | apply pw_below_drewN | apply below_drew1) | exact HB.out)) hb); clear HB; have HO106 := n0_; have HO109 := n1_; have HB := n2_; clear n0_ n1_ n2_; (try clear hb); (try clear hb2); (try clear hk); (try clear hi); (try clear ho0); (try clear ho1)) | ((with_reducible refine gate_dst (N := 1) rfl ?_); (try (refine gate_guard (by rfl) ?_; dsimp only)); refine box_event ?hg (N := 1) ?hd (cs := #[.int .i64 0, .int .i64 0, .string (⟨#[]⟩ : ByteArray), .slice none 0 0, .slice none 0 0]) (t := 26) ?hr ?_; (case hd => rfl); (case hg => rfl); (case hr => first | (go_simp; done) | (go_simp; rfl)); intro gb112 hg w30 hbox hb; have n0_ := Aside0.mk (Kd.R_below (Kd.R_elderB (by (with_reducible repeat (first | apply Kd.R_alloc | apply Kd.R_drewN | apply Kd.R_drew)); exact HO106.out) gb112 (Nat.le_of_eq hg.symm)) hb); have n1_ := Aside0.mk (Kd.R_below (by (with_reducible repeat (first | apply Kd.R_alloc | apply Kd.R_drewN | apply Kd.R_drew)); exact HO109.out) hb); have n2_ := Aside0.mk (below_step (by repeat (first | (with_reducible first | exact HB.out | apply below_alloc | apply pw_below_drewN | apply below_drew1) | exact HB.out)) hb); have n3_ := Aside0.mk (hbox); have n4_ := Aside0.mk ((by rw [hg]; exact (below_size (by repeat (first | (with_reducible first | exact HB.out | apply below_alloc | apply pw_below_drewN | apply below_drew1) | exact HB.out))) : w.heap.size ≤ gb112)); have n5_ := Aside0.mk ((by rw [hg]; exact (below_size (by repeat (first | (with_reducible first | exact HB.out | apply below_alloc | apply pw_below_drewN | apply below_drew1) | exact HB.out))) : w.heap.size ≤ gb112)); clear HO106; clear HO109; clear HB; have HO106 := n0_; have HO109 := n1_; have HB := n2_; have BK112 := n3_; have GW112 := n4_; have GE112 := n5_; clear n0_ n1_ n2_ n3_ n4_ n5_; clear hb hbox hg) | ((with_reducible refine gate_dst (N := 2) rfl ?_); (try (refine gate_guard (by rfl) ?_; dsimp only)); refine box_event ?hg (N := 2) ?hd (cs := #[.int .i64 0, .int .i64 0]) (t := 29) ?hr ?_; (case hd => rfl); (case hg => rfl); (case hr => first | (go_simp; done) | (go_simp; rfl)); intro gb113 hg w31 hbox hb; have n0_ := Aside0.mk (Kd.R_below (by (with_reducible repeat (first | apply Kd.R_alloc | apply Kd.R_drewN | apply Kd.R_drew)); exact HO106.out) hb); have n1_ := Aside0.mk (Kd.R_below (by (with_reducible repeat (first | apply Kd.R_alloc | apply Kd.R_drewN | apply Kd.R_drew)); exact HO109.out) hb); have n2_ := Aside0.mk (blk_below (g := gb112) (o := .cells #[.int .i64 0, .int .i64 0, .string (⟨#[]⟩ : ByteArray), .slice none 0 0, .slice none 0 0] 26 (0, 0)) (by (with_reducible repeat (first | refine blk_drewN ?_ _ | refine blk_drew ?_ | refine blk_alloc ?_ _)); exact BK112.out) hb); have n3_ := Aside0.mk (below_step (by repeat (first | (with_reducible first | exact HB.out | apply below_alloc | apply pw_below_drewN | apply below_drew1 | refine below_set ?_ GE112.out) | exact HB.out)) hb); have n4_ := Aside0.mk (hbox); have n5_ := Aside0.mk ((by rw [hg]; exact (below_size (by repeat (first | (with_reducible first | exact HB.out | apply below_alloc | apply pw_below_drewN | apply below_drew1 | refine below_set ?_ GE112.out) | exact HB.out))) : w.heap.size ≤ gb113)); have n6_ := Aside0.mk ((by rw [hg]; exact (below_size (by repeat (first | (with_reducible first | exact HB.out | apply below_alloc | apply pw_below_drewN | apply below_drew1 | refine below_set ?_ GE112.out) | exact HB.out))) : w.heap.size ≤ gb113)); have n7_ := Aside0.mk ((by rw [hg]; exact Nat.ne_of_lt (blk_lt (g := gb112) (o := .cells #[.int .i64 0, .int .i64 0, .string (⟨#[]⟩ : ByteArray), .slice none 0 0, .slice none 0 0] 26 (0, 0)) (by (with_reducible repeat (first | refine blk_drewN ?_ _ | refine blk_drew ?_ | refine blk_alloc ?_ _)); exact BK112.out)) : gb112 ≠ gb113)); have n8_ := Aside0.mk ((by rw [hg]; exact Nat.ne_of_gt (blk_lt (g := gb112) (o := .cells #[.int .i64 0, .int .i64 0, .string (⟨#[]⟩ : ByteArray), .slice none 0 0, .slice none 0 0] 26 (0, 0)) (by (with_reducible repeat (first | refine blk_drewN ?_ _ | refine blk_drew ?_ | refine blk_alloc ?_ _)); exact BK112.out)) : gb113 ≠ gb112)); clear HO106; clear HO109; clear BK112; clear HB; have HO106 := n0_; have HO109 := n1_; have BK112 := n2_; have HB := n3_; have BK113 := n4_; have GW113 := n5_; have GE113 := n6_; have NB112_113 := n7_; have NB113_112 := n8_; clear n0_ n1_ n2_ n3_ n4_ n5_ n6_ n7_ n8_; clear hb hbox hg; have hnb32 := NB112_113.out; have hnc32 := NB113_112.out; have hcz33_0 : w31.cell? ⟨gb112, 0, none⟩ = some (.int .i64 0) := (blk_cell BK112.out 0).trans rfl; have hcz33_1 : w31.cell? ⟨gb112, 1, none⟩ = some (.int .i64 0) := (blk_cell BK112.out 1).trans rfl; have hcz33_2 : w31.cell? ⟨gb112, 2, none⟩ = some (.string (⟨#[]⟩ : ByteArray)) := (blk_cell BK112.out 2).trans rfl; have hcz33_3 : w31.cell? ⟨gb112, 3, none⟩ = some (.slice none 0 0) := (blk_cell BK112.out 3).trans rfl; have hcz33_4 : w31.cell? ⟨gb112, 4, none⟩ = some (.slice none 0 0) := (blk_cell BK112.out 4).trans rfl; have hfz33_0 := blk_frozen BK112.out 0; have hfz33_1 := blk_frozen BK112.out 1; have hfz33_2 := blk_frozen BK112.out 2; have hfz33_3 := blk_frozen BK112.out 3; have hfz33_4 := blk_frozen BK112.out 4; obtain ⟨Ao34, co34, eo34⟩ := Kd.R_slice HO106.out; subst eo34; obtain ⟨Ao35, co35, eo35⟩ := Kd.R_slice HO109.out; subst eo35; have hcz36_0 : w31.cell? ⟨gb113, 0, none⟩ = some (.int .i64 0) := (blk_cell BK113.out 0).trans rfl; have hcz36_1 : w31.cell? ⟨gb113, 1, none⟩ = some (.int .i64 0) := (blk_cell BK113.out 1).trans rfl; have hfz36_0 := blk_frozen BK113.out 0; have hfz36_1 := blk_frozen BK113.out 1) | ((with_reducible refine gate_callee (f := 12) rfl ?_); refine goesL_ (some 11) rfl rfl Tryz.func12 (by kernel_rfl) rfl #[.agg #[.int .i64 t101, .int .i64 t102, .string t103, .slice Ao34 t104.length co34, .slice Ao35 t107.length co35]] rfl (by (try simp only [List.map_toArray, List.map_cons, List.map_nil]); first | done | rfl | (simp only [List.length_drop, List.length_take]; rfl)) ?_; (with_reducible refine (tree_Print.calls k t101 t102 t103 _ _ t104 _ _ t107 t114 t115 _ ?side1 ?side2 ?side3 ?side4 A2.out (HTAB.out.below (by repeat (first | (with_reducible first | exact HB.out | apply below_alloc | apply pw_below_drewN | apply below_drew1 | refine below_set ?_ (by assumption) | refine below_set ?_ (Aside0.out (by assumption))) | exact HB.out)))).mono ?_); (case side1 => refine (Kd.R_reads' (e := 26) (base := w.heap.size) (ok := fun k_ => (True ∧ k_ ≠ gb112)) (n := t104.length) (c := co34) ?_).2.2; exact (by (with_reducible repeat (first | apply Kd.R_alloc | apply Kd.R_drewN | apply Kd.R_drew)); exact (Kd.R_mono (Kd.R_mono (Kd.R_far (p := ⟨gb113, 1, none⟩) (Kd.R_far (p := ⟨gb113, 0, none⟩) (Kd.R_far (p := ⟨gb112, 4, none⟩) (Kd.R_far (p := ⟨gb112, 3, none⟩) (Kd.R_far (p := ⟨gb112, 2, none⟩) (Kd.R_far (p := ⟨gb112, 1, none⟩) (Kd.R_far (p := ⟨gb112, 0, none⟩) (Kd.R_types (Kd.R_mono HO106.out (fun k_ hk => (⟨hk, hk.2⟩ : _ ∧ k_ ≠ gb112))) BK113.out (by decide)) (fun _ hk => hk.1.2) (.int .i64 t101)) (fun _ hk => hk.1.2) (.int .i64 t102)) (fun _ hk => hk.1.2) (.string t103)) (fun _ hk => hk.1.2) (.slice Ao34 t104.length co34)) (fun _ hk => hk.1.2) (.slice Ao35 t107.length co35)) (fun _ hk => hk.2) (.int .i64 t110)) (fun _ hk => hk.2) (.int .i64 t111)) (fun _ h_ => h_.1)) (fun _ h_ => h_.1)))); (case side2 => exact (Kd.R_reads' HO106.out).2.1); (case side3 => refine (Kd.R_reads' (e := 9) (base := w.heap.size) (ok := fun k_ => True) (n := t107.length) (c := co35) ?_).2.2; exact (by (with_reducible repeat (first | apply Kd.R_alloc | apply Kd.R_drewN | apply Kd.R_drew)); exact (Kd.R_mono (Kd.R_mono (Kd.R_far (p := ⟨gb113, 1, none⟩) (Kd.R_far (p := ⟨gb113, 0, none⟩) (Kd.R_far (p := ⟨gb112, 4, none⟩) (Kd.R_far (p := ⟨gb112, 3, none⟩) (Kd.R_far (p := ⟨gb112, 2, none⟩) (Kd.R_far (p := ⟨gb112, 1, none⟩) (Kd.R_far (p := ⟨gb112, 0, none⟩) (Kd.R_types (Kd.R_types HO109.out BK112.out (by decide)) BK113.out (by decide)) (fun _ hk => hk.1.2) (.int .i64 t101)) (fun _ hk => hk.1.2) (.int .i64 t102)) (fun _ hk => hk.1.2) (.string t103)) (fun _ hk => hk.1.2) (.slice Ao34 t104.length co34)) (fun _ hk => hk.1.2) (.slice Ao35 t107.length co35)) (fun _ hk => hk.2) (.int .i64 t110)) (fun _ hk => hk.2) (.int .i64 t111)) (fun _ h_ => h_.1)) (fun _ h_ => h_.1)))); (case side4 => exact (Kd.R_reads' HO109.out).2.1); rintro e w37 ⟨rfl, hb⟩; refine ⟨_, rfl, ?_⟩; have n0_ := Aside0.mk (Kd.R_below (by (with_reducible repeat (first | apply Kd.R_alloc | apply Kd.R_drewN | apply Kd.R_drew)); exact (Kd.R_mono (Kd.R_mono (Kd.R_far (p := ⟨gb113, 1, none⟩) (Kd.R_far (p := ⟨gb113, 0, none⟩) (Kd.R_far (p := ⟨gb112, 4, none⟩) (Kd.R_far (p := ⟨gb112, 3, none⟩) (Kd.R_far (p := ⟨gb112, 2, none⟩) (Kd.R_far (p := ⟨gb112, 1, none⟩) (Kd.R_far (p := ⟨gb112, 0, none⟩) (Kd.R_types (Kd.R_mono HO106.out (fun k_ hk => (⟨hk, hk.2⟩ : _ ∧ k_ ≠ gb112))) BK113.out (by decide)) (fun _ hk => hk.1.2) (.int .i64 t101)) (fun _ hk => hk.1.2) (.int .i64 t102)) (fun _ hk => hk.1.2) (.string t103)) (fun _ hk => hk.1.2) (.slice Ao34 t104.length co34)) (fun _ hk => hk.1.2) (.slice Ao35 t107.length co35)) (fun _ hk => hk.2) (.int .i64 t110)) (fun _ hk => hk.2) (.int .i64 t111)) (fun _ h_ => h_.1)) (fun _ h_ => h_.1))) hb); have n1_ := Aside0.mk (Kd.R_below (by (with_reducible repeat (first | apply Kd.R_alloc | apply Kd.R_drewN | apply Kd.R_drew)); exact (Kd.R_mono (Kd.R_mono (Kd.R_far (p := ⟨gb113, 1, none⟩) (Kd.R_far (p := ⟨gb113, 0, none⟩) (Kd.R_far (p := ⟨gb112, 4, none⟩) (Kd.R_far (p := ⟨gb112, 3, none⟩) (Kd.R_far (p := ⟨gb112, 2, none⟩) (Kd.R_far (p := ⟨gb112, 1, none⟩) (Kd.R_far (p := ⟨gb112, 0, none⟩) (Kd.R_types (Kd.R_types HO109.out BK112.out (by decide)) BK113.out (by decide)) (fun _ hk => hk.1.2) (.int .i64 t101)) (fun _ hk => hk.1.2) (.int .i64 t102)) (fun _ hk => hk.1.2) (.string t103)) (fun _ hk => hk.1.2) (.slice Ao34 t104.length co34)) (fun _ hk => hk.1.2) (.slice Ao35 t107.length co35)) (fun _ hk => hk.2) (.int .i64 t110)) (fun _ hk => hk.2) (.int .i64 t111)) (fun _ h_ => h_.1)) (fun _ h_ => h_.1))) hb); have n2_ := Aside0.mk (blk_below (g := gb112) (o := .cells #[.int .i64 t101, .int .i64 t102, .string t103, .slice Ao34 t104.length co34, .slice Ao35 t107.length co35] 26 (0, 0)) (by (with_reducible repeat (first | refine blk_drewN ?_ _ | refine blk_drew ?_ | refine blk_alloc ?_ _)); refine blk_far ?_ NB112_113.out _; (with_reducible repeat (first | refine blk_drewN ?_ _ | refine blk_drew ?_ | refine blk_alloc ?_ _)); refine blk_far ?_ NB112_113.out _; (with_reducible repeat (first | refine blk_drewN ?_ _ | refine blk_drew ?_ | refine blk_alloc ?_ _)); refine blk_put (cs := #[.int .i64 t101, .int .i64 t102, .string t103, .slice Ao34 t104.length co34, .slice none 0 0]) ?_ 4 _ rfl; (with_reducible repeat (first | refine blk_drewN ?_ _ | refine blk_drew ?_ | refine blk_alloc ?_ _)); refine blk_put (cs := #[.int .i64 t101, .int .i64 t102, .string t103, .slice none 0 0, .slice none 0 0]) ?_ 3 _ rfl; (with_reducible repeat (first | refine blk_drewN ?_ _ | refine blk_drew ?_ | refine blk_alloc ?_ _)); refine blk_put (cs := #[.int .i64 t101, .int .i64 t102, .string (⟨#[]⟩ : ByteArray), .slice none 0 0, .slice none 0 0]) ?_ 2 _ rfl; (with_reducible repeat (first | refine blk_drewN ?_ _ | refine blk_drew ?_ | refine blk_alloc ?_ _)); refine blk_put (cs := #[.int .i64 t101, .int .i64 0, .string (⟨#[]⟩ : ByteArray), .slice none 0 0, .slice none 0 0]) ?_ 1 _ rfl; (with_reducible repeat (first | refine blk_drewN ?_ _ | refine blk_drew ?_ | refine blk_alloc ?_ _)); refine blk_put (cs := #[.int .i64 0, .int .i64 0, .string (⟨#[]⟩ : ByteArray), .slice none 0 0, .slice none 0 0]) ?_ 0 _ rfl; (with_reducible repeat (first | refine blk_drewN ?_ _ | refine blk_drew ?_ | refine blk_alloc ?_ _)); exact BK112.out) hb); have n3_ := Aside0.mk (blk_below (g := gb113) (o := .cells #[.int .i64 t110, .int .i64 t111] 29 (0, 0)) (by (with_reducible repeat (first | refine blk_drewN ?_ _ | refine blk_drew ?_ | refine blk_alloc ?_ _)); refine blk_put (cs := #[.int .i64 t110, .int .i64 0]) ?_ 1 _ rfl; (with_reducible repeat (first | refine blk_drewN ?_ _ | refine blk_drew ?_ | refine blk_alloc ?_ _)); refine blk_put (cs := #[.int .i64 0, .int .i64 0]) ?_ 0 _ rfl; (with_reducible repeat (first | refine blk_drewN ?_ _ | refine blk_drew ?_ | refine blk_alloc ?_ _)); refine blk_far ?_ NB113_112.out _; (with_reducible repeat (first | refine blk_drewN ?_ _ | refine blk_drew ?_ | refine blk_alloc ?_ _)); refine blk_far ?_ NB113_112.out _; (with_reducible repeat (first | refine blk_drewN ?_ _ | refine blk_drew ?_ | refine blk_alloc ?_ _)); refine blk_far ?_ NB113_112.out _; (with_reducible repeat (first | refine blk_drewN ?_ _ | refine blk_drew ?_ | refine blk_alloc ?_ _)); refine blk_far ?_ NB113_112.out _; (with_reducible repeat (first | refine blk_drewN ?_ _ | refine blk_drew ?_ | refine blk_alloc ?_ _)); refine blk_far ?_ NB113_112.out _; (with_reducible repeat (first | refine blk_drewN ?_ _ | refine blk_drew ?_ | refine blk_alloc ?_ _)); exact BK113.out) hb); have n4_ := Aside0.mk (below_step (by repeat (first | (with_reducible first | exact HB.out | apply below_alloc | apply pw_below_drewN | apply below_drew1 | refine below_set ?_ GE112.out | refine below_set ?_ GE113.out) | exact HB.out)) hb); clear HO106; clear HO109; clear BK112; clear BK113; clear HB; have HO106 := n0_; have HO109 := n1_; have BK112 := n2_; have BK113 := n3_; have HB := n4_; clear n0_ n1_ n2_ n3_ n4_; (try clear hb); (try clear hb2); (try clear hk); (try clear hi); have hcz38_0 : w37.cell? ⟨gb113, 0, none⟩ = some (.int .i64 t110) := (blk_cell BK113.out 0).trans rfl; have hcz38_1 : w37.cell? ⟨gb113, 1, none⟩ = some (.int .i64 t111) := (blk_cell BK113.out 1).trans rfl; have hfz38_0 := blk_frozen BK113.out 0; have hfz38_1 := blk_frozen BK113.out 1; have hcz39_0 : w37.cell? ⟨gb112, 0, none⟩ = some (.int .i64 t101) := (blk_cell BK112.out 0).trans rfl; have hcz39_1 : w37.cell? ⟨gb112, 1, none⟩ = some (.int .i64 t102) := (blk_cell BK112.out 1).trans rfl; have hcz39_2 : w37.cell? ⟨gb112, 2, none⟩ = some (.string t103) := (blk_cell BK112.out 2).trans rfl; have hcz39_3 : w37.cell? ⟨gb112, 3, none⟩ = some (.slice Ao34 t104.length co34) := (blk_cell BK112.out 3).trans rfl; have hcz39_4 : w37.cell? ⟨gb112, 4, none⟩ = some (.slice Ao35 t107.length co35) := (blk_cell BK112.out 4).trans rfl; have hfz39_0 := blk_frozen BK112.out 0; have hfz39_1 := blk_frozen BK112.out 1; have hfz39_2 := blk_frozen BK112.out 2; have hfz39_3 := blk_frozen BK112.out 3; have hfz39_4 := blk_frozen BK112.out 4))
        go_ret
        exact ⟨by first | rfl | (simp [errW_none, errW_some] <;> rfl) | (simp [*, errW_none, errW_some] <;> rfl), by repeat (first | (with_reducible first | exact HB.out | apply below_alloc | apply pw_below_drewN | apply below_drew1 | refine below_set ?_ GE112.out | refine below_set ?_ GE113.out) | exact HB.out)⟩
    · rw [if_neg c4] at H
      have c4b0 : (t101 == 5) = false := beq_eq_false_iff_ne.mpr c4
      have c4b1 : (t101 != 5) = true := bne_iff_ne.mpr c4
      obtain rfl := Option.some.inj H
      go_enter Tryz.func7, Tryz.ntmps7
      go_wp2_with (first | ((with_reducible refine gate_callee (f := 8) rfl ?_); refine goesL_ (some 6) rfl rfl Tryz.func8 (by kernel_rfl) rfl #[.string (⟨#[91, 49, 44, 32, 110, 117, 108, 108, 93]⟩ : ByteArray)] rfl (by (try simp only [List.map_toArray, List.map_cons, List.map_nil]); first | done | rfl | (simp only [List.length_drop, List.length_take]; rfl)) ?_; (with_reducible refine (tree_Parse.calls k (⟨#[91, 49, 44, 32, 110, 117, 108, 108, 93]⟩ : ByteArray) t101 t102 t103 t104 t107 t110 t111 _ A1.out (HTAB.out.below (by repeat (first | (with_reducible first | exact HB.out | apply below_alloc | apply pw_below_drewN | apply below_drew1 | refine below_set ?_ (by assumption) | refine below_set ?_ (Aside0.out (by assumption))) | exact HB.out)))).mono ?_); rintro e w40 ⟨v105, v108, rfl, ho0, ho1, hb⟩; refine ⟨_, rfl, ?_⟩; have n0_ := Aside0.mk (Kd.R_lower ho0 (below_size (by repeat (first | (with_reducible first | exact HB.out | apply below_alloc | apply pw_below_drewN | apply below_drew1) | exact HB.out)))); have n1_ := Aside0.mk (Kd.R_lower ho1 (below_size (by repeat (first | (with_reducible first | exact HB.out | apply below_alloc | apply pw_below_drewN | apply below_drew1) | exact HB.out)))); have n2_ := Aside0.mk (below_step (by repeat (first | (with_reducible first | exact HB.out | apply below_alloc | apply pw_below_drewN | apply below_drew1) | exact HB.out)) hb); clear HB; have HO106 := n0_; have HO109 := n1_; have HB := n2_; clear n0_ n1_ n2_; (try clear hb); (try clear hb2); (try clear hk); (try clear hi); (try clear ho0); (try clear ho1)) | ((with_reducible refine gate_dst (N := 1) rfl ?_); (try (refine gate_guard (by rfl) ?_; dsimp only)); refine box_event ?hg (N := 1) ?hd (cs := #[.int .i64 0, .int .i64 0, .string (⟨#[]⟩ : ByteArray), .slice none 0 0, .slice none 0 0]) (t := 26) ?hr ?_; (case hd => rfl); (case hg => rfl); (case hr => first | (go_simp; done) | (go_simp; rfl)); intro gb112 hg w41 hbox hb; have n0_ := Aside0.mk (Kd.R_below (Kd.R_elderB (by (with_reducible repeat (first | apply Kd.R_alloc | apply Kd.R_drewN | apply Kd.R_drew)); exact HO106.out) gb112 (Nat.le_of_eq hg.symm)) hb); have n1_ := Aside0.mk (Kd.R_below (by (with_reducible repeat (first | apply Kd.R_alloc | apply Kd.R_drewN | apply Kd.R_drew)); exact HO109.out) hb); have n2_ := Aside0.mk (below_step (by repeat (first | (with_reducible first | exact HB.out | apply below_alloc | apply pw_below_drewN | apply below_drew1) | exact HB.out)) hb); have n3_ := Aside0.mk (hbox); have n4_ := Aside0.mk ((by rw [hg]; exact (below_size (by repeat (first | (with_reducible first | exact HB.out | apply below_alloc | apply pw_below_drewN | apply below_drew1) | exact HB.out))) : w.heap.size ≤ gb112)); have n5_ := Aside0.mk ((by rw [hg]; exact (below_size (by repeat (first | (with_reducible first | exact HB.out | apply below_alloc | apply pw_below_drewN | apply below_drew1) | exact HB.out))) : w.heap.size ≤ gb112)); clear HO106; clear HO109; clear HB; have HO106 := n0_; have HO109 := n1_; have HB := n2_; have BK112 := n3_; have GW112 := n4_; have GE112 := n5_; clear n0_ n1_ n2_ n3_ n4_ n5_; clear hb hbox hg) | ((with_reducible refine gate_dst (N := 2) rfl ?_); (try (refine gate_guard (by rfl) ?_; dsimp only)); refine box_event ?hg (N := 2) ?hd (cs := #[.int .i64 0, .int .i64 0]) (t := 29) ?hr ?_; (case hd => rfl); (case hg => rfl); (case hr => first | (go_simp; done) | (go_simp; rfl)); intro gb113 hg w42 hbox hb; have n0_ := Aside0.mk (Kd.R_below (by (with_reducible repeat (first | apply Kd.R_alloc | apply Kd.R_drewN | apply Kd.R_drew)); exact HO106.out) hb); have n1_ := Aside0.mk (Kd.R_below (by (with_reducible repeat (first | apply Kd.R_alloc | apply Kd.R_drewN | apply Kd.R_drew)); exact HO109.out) hb); have n2_ := Aside0.mk (blk_below (g := gb112) (o := .cells #[.int .i64 0, .int .i64 0, .string (⟨#[]⟩ : ByteArray), .slice none 0 0, .slice none 0 0] 26 (0, 0)) (by (with_reducible repeat (first | refine blk_drewN ?_ _ | refine blk_drew ?_ | refine blk_alloc ?_ _)); exact BK112.out) hb); have n3_ := Aside0.mk (below_step (by repeat (first | (with_reducible first | exact HB.out | apply below_alloc | apply pw_below_drewN | apply below_drew1 | refine below_set ?_ GE112.out) | exact HB.out)) hb); have n4_ := Aside0.mk (hbox); have n5_ := Aside0.mk ((by rw [hg]; exact (below_size (by repeat (first | (with_reducible first | exact HB.out | apply below_alloc | apply pw_below_drewN | apply below_drew1 | refine below_set ?_ GE112.out) | exact HB.out))) : w.heap.size ≤ gb113)); have n6_ := Aside0.mk ((by rw [hg]; exact (below_size (by repeat (first | (with_reducible first | exact HB.out | apply below_alloc | apply pw_below_drewN | apply below_drew1 | refine below_set ?_ GE112.out) | exact HB.out))) : w.heap.size ≤ gb113)); have n7_ := Aside0.mk ((by rw [hg]; exact Nat.ne_of_lt (blk_lt (g := gb112) (o := .cells #[.int .i64 0, .int .i64 0, .string (⟨#[]⟩ : ByteArray), .slice none 0 0, .slice none 0 0] 26 (0, 0)) (by (with_reducible repeat (first | refine blk_drewN ?_ _ | refine blk_drew ?_ | refine blk_alloc ?_ _)); exact BK112.out)) : gb112 ≠ gb113)); have n8_ := Aside0.mk ((by rw [hg]; exact Nat.ne_of_gt (blk_lt (g := gb112) (o := .cells #[.int .i64 0, .int .i64 0, .string (⟨#[]⟩ : ByteArray), .slice none 0 0, .slice none 0 0] 26 (0, 0)) (by (with_reducible repeat (first | refine blk_drewN ?_ _ | refine blk_drew ?_ | refine blk_alloc ?_ _)); exact BK112.out)) : gb113 ≠ gb112)); clear HO106; clear HO109; clear BK112; clear HB; have HO106 := n0_; have HO109 := n1_; have BK112 := n2_; have HB := n3_; have BK113 := n4_; have GW113 := n5_; have GE113 := n6_; have NB112_113 := n7_; have NB113_112 := n8_; clear n0_ n1_ n2_ n3_ n4_ n5_ n6_ n7_ n8_; clear hb hbox hg; have hnb43 := NB112_113.out; have hnc43 := NB113_112.out; have hcz44_0 : w42.cell? ⟨gb112, 0, none⟩ = some (.int .i64 0) := (blk_cell BK112.out 0).trans rfl; have hcz44_1 : w42.cell? ⟨gb112, 1, none⟩ = some (.int .i64 0) := (blk_cell BK112.out 1).trans rfl; have hcz44_2 : w42.cell? ⟨gb112, 2, none⟩ = some (.string (⟨#[]⟩ : ByteArray)) := (blk_cell BK112.out 2).trans rfl; have hcz44_3 : w42.cell? ⟨gb112, 3, none⟩ = some (.slice none 0 0) := (blk_cell BK112.out 3).trans rfl; have hcz44_4 : w42.cell? ⟨gb112, 4, none⟩ = some (.slice none 0 0) := (blk_cell BK112.out 4).trans rfl; have hfz44_0 := blk_frozen BK112.out 0; have hfz44_1 := blk_frozen BK112.out 1; have hfz44_2 := blk_frozen BK112.out 2; have hfz44_3 := blk_frozen BK112.out 3; have hfz44_4 := blk_frozen BK112.out 4; obtain ⟨Ao45, co45, eo45⟩ := Kd.R_slice HO106.out; subst eo45; obtain ⟨Ao46, co46, eo46⟩ := Kd.R_slice HO109.out; subst eo46; have hcz47_0 : w42.cell? ⟨gb113, 0, none⟩ = some (.int .i64 0) := (blk_cell BK113.out 0).trans rfl; have hcz47_1 : w42.cell? ⟨gb113, 1, none⟩ = some (.int .i64 0) := (blk_cell BK113.out 1).trans rfl; have hfz47_0 := blk_frozen BK113.out 0; have hfz47_1 := blk_frozen BK113.out 1) | ((with_reducible refine gate_callee (f := 12) rfl ?_); refine goesL_ (some 11) rfl rfl Tryz.func12 (by kernel_rfl) rfl #[.agg #[.int .i64 t101, .int .i64 t102, .string t103, .slice Ao45 t104.length co45, .slice Ao46 t107.length co46]] rfl (by (try simp only [List.map_toArray, List.map_cons, List.map_nil]); first | done | rfl | (simp only [List.length_drop, List.length_take]; rfl)) ?_; (with_reducible refine (tree_Print.calls k t101 t102 t103 _ _ t104 _ _ t107 t114 t115 _ ?side1 ?side2 ?side3 ?side4 A2.out (HTAB.out.below (by repeat (first | (with_reducible first | exact HB.out | apply below_alloc | apply pw_below_drewN | apply below_drew1 | refine below_set ?_ (by assumption) | refine below_set ?_ (Aside0.out (by assumption))) | exact HB.out)))).mono ?_); (case side1 => refine (Kd.R_reads' (e := 26) (base := w.heap.size) (ok := fun k_ => (True ∧ k_ ≠ gb112)) (n := t104.length) (c := co45) ?_).2.2; exact (by (with_reducible repeat (first | apply Kd.R_alloc | apply Kd.R_drewN | apply Kd.R_drew)); exact (Kd.R_mono (Kd.R_mono (Kd.R_far (p := ⟨gb113, 1, none⟩) (Kd.R_far (p := ⟨gb113, 0, none⟩) (Kd.R_far (p := ⟨gb112, 4, none⟩) (Kd.R_far (p := ⟨gb112, 3, none⟩) (Kd.R_far (p := ⟨gb112, 2, none⟩) (Kd.R_far (p := ⟨gb112, 1, none⟩) (Kd.R_far (p := ⟨gb112, 0, none⟩) (Kd.R_types (Kd.R_mono HO106.out (fun k_ hk => (⟨hk, hk.2⟩ : _ ∧ k_ ≠ gb112))) BK113.out (by decide)) (fun _ hk => hk.1.2) (.int .i64 t101)) (fun _ hk => hk.1.2) (.int .i64 t102)) (fun _ hk => hk.1.2) (.string t103)) (fun _ hk => hk.1.2) (.slice Ao45 t104.length co45)) (fun _ hk => hk.1.2) (.slice Ao46 t107.length co46)) (fun _ hk => hk.2) (.int .i64 t110)) (fun _ hk => hk.2) (.int .i64 t111)) (fun _ h_ => h_.1)) (fun _ h_ => h_.1)))); (case side2 => exact (Kd.R_reads' HO106.out).2.1); (case side3 => refine (Kd.R_reads' (e := 9) (base := w.heap.size) (ok := fun k_ => True) (n := t107.length) (c := co46) ?_).2.2; exact (by (with_reducible repeat (first | apply Kd.R_alloc | apply Kd.R_drewN | apply Kd.R_drew)); exact (Kd.R_mono (Kd.R_mono (Kd.R_far (p := ⟨gb113, 1, none⟩) (Kd.R_far (p := ⟨gb113, 0, none⟩) (Kd.R_far (p := ⟨gb112, 4, none⟩) (Kd.R_far (p := ⟨gb112, 3, none⟩) (Kd.R_far (p := ⟨gb112, 2, none⟩) (Kd.R_far (p := ⟨gb112, 1, none⟩) (Kd.R_far (p := ⟨gb112, 0, none⟩) (Kd.R_types (Kd.R_types HO109.out BK112.out (by decide)) BK113.out (by decide)) (fun _ hk => hk.1.2) (.int .i64 t101)) (fun _ hk => hk.1.2) (.int .i64 t102)) (fun _ hk => hk.1.2) (.string t103)) (fun _ hk => hk.1.2) (.slice Ao45 t104.length co45)) (fun _ hk => hk.1.2) (.slice Ao46 t107.length co46)) (fun _ hk => hk.2) (.int .i64 t110)) (fun _ hk => hk.2) (.int .i64 t111)) (fun _ h_ => h_.1)) (fun _ h_ => h_.1)))); (case side4 => exact (Kd.R_reads' HO109.out).2.1); rintro e w48 ⟨rfl, hb⟩; refine ⟨_, rfl, ?_⟩; have n0_ := Aside0.mk (Kd.R_below (by (with_reducible repeat (first | apply Kd.R_alloc | apply Kd.R_drewN | apply Kd.R_drew)); exact (Kd.R_mono (Kd.R_mono (Kd.R_far (p := ⟨gb113, 1, none⟩) (Kd.R_far (p := ⟨gb113, 0, none⟩) (Kd.R_far (p := ⟨gb112, 4, none⟩) (Kd.R_far (p := ⟨gb112, 3, none⟩) (Kd.R_far (p := ⟨gb112, 2, none⟩) (Kd.R_far (p := ⟨gb112, 1, none⟩) (Kd.R_far (p := ⟨gb112, 0, none⟩) (Kd.R_types (Kd.R_mono HO106.out (fun k_ hk => (⟨hk, hk.2⟩ : _ ∧ k_ ≠ gb112))) BK113.out (by decide)) (fun _ hk => hk.1.2) (.int .i64 t101)) (fun _ hk => hk.1.2) (.int .i64 t102)) (fun _ hk => hk.1.2) (.string t103)) (fun _ hk => hk.1.2) (.slice Ao45 t104.length co45)) (fun _ hk => hk.1.2) (.slice Ao46 t107.length co46)) (fun _ hk => hk.2) (.int .i64 t110)) (fun _ hk => hk.2) (.int .i64 t111)) (fun _ h_ => h_.1)) (fun _ h_ => h_.1))) hb); have n1_ := Aside0.mk (Kd.R_below (by (with_reducible repeat (first | apply Kd.R_alloc | apply Kd.R_drewN | apply Kd.R_drew)); exact (Kd.R_mono (Kd.R_mono (Kd.R_far (p := ⟨gb113, 1, none⟩) (Kd.R_far (p := ⟨gb113, 0, none⟩) (Kd.R_far (p := ⟨gb112, 4, none⟩) (Kd.R_far (p := ⟨gb112, 3, none⟩) (Kd.R_far (p := ⟨gb112, 2, none⟩) (Kd.R_far (p := ⟨gb112, 1, none⟩) (Kd.R_far (p := ⟨gb112, 0, none⟩) (Kd.R_types (Kd.R_types HO109.out BK112.out (by decide)) BK113.out (by decide)) (fun _ hk => hk.1.2) (.int .i64 t101)) (fun _ hk => hk.1.2) (.int .i64 t102)) (fun _ hk => hk.1.2) (.string t103)) (fun _ hk => hk.1.2) (.slice Ao45 t104.length co45)) (fun _ hk => hk.1.2) (.slice Ao46 t107.length co46)) (fun _ hk => hk.2) (.int .i64 t110)) (fun _ hk => hk.2) (.int .i64 t111)) (fun _ h_ => h_.1)) (fun _ h_ => h_.1))) hb); have n2_ := Aside0.mk (blk_below (g := gb112) (o := .cells #[.int .i64 t101, .int .i64 t102, .string t103, .slice Ao45 t104.length co45, .slice Ao46 t107.length co46] 26 (0, 0)) (by (with_reducible repeat (first | refine blk_drewN ?_ _ | refine blk_drew ?_ | refine blk_alloc ?_ _)); refine blk_far ?_ NB112_113.out _; (with_reducible repeat (first | refine blk_drewN ?_ _ | refine blk_drew ?_ | refine blk_alloc ?_ _)); refine blk_far ?_ NB112_113.out _; (with_reducible repeat (first | refine blk_drewN ?_ _ | refine blk_drew ?_ | refine blk_alloc ?_ _)); refine blk_put (cs := #[.int .i64 t101, .int .i64 t102, .string t103, .slice Ao45 t104.length co45, .slice none 0 0]) ?_ 4 _ rfl; (with_reducible repeat (first | refine blk_drewN ?_ _ | refine blk_drew ?_ | refine blk_alloc ?_ _)); refine blk_put (cs := #[.int .i64 t101, .int .i64 t102, .string t103, .slice none 0 0, .slice none 0 0]) ?_ 3 _ rfl; (with_reducible repeat (first | refine blk_drewN ?_ _ | refine blk_drew ?_ | refine blk_alloc ?_ _)); refine blk_put (cs := #[.int .i64 t101, .int .i64 t102, .string (⟨#[]⟩ : ByteArray), .slice none 0 0, .slice none 0 0]) ?_ 2 _ rfl; (with_reducible repeat (first | refine blk_drewN ?_ _ | refine blk_drew ?_ | refine blk_alloc ?_ _)); refine blk_put (cs := #[.int .i64 t101, .int .i64 0, .string (⟨#[]⟩ : ByteArray), .slice none 0 0, .slice none 0 0]) ?_ 1 _ rfl; (with_reducible repeat (first | refine blk_drewN ?_ _ | refine blk_drew ?_ | refine blk_alloc ?_ _)); refine blk_put (cs := #[.int .i64 0, .int .i64 0, .string (⟨#[]⟩ : ByteArray), .slice none 0 0, .slice none 0 0]) ?_ 0 _ rfl; (with_reducible repeat (first | refine blk_drewN ?_ _ | refine blk_drew ?_ | refine blk_alloc ?_ _)); exact BK112.out) hb); have n3_ := Aside0.mk (blk_below (g := gb113) (o := .cells #[.int .i64 t110, .int .i64 t111] 29 (0, 0)) (by (with_reducible repeat (first | refine blk_drewN ?_ _ | refine blk_drew ?_ | refine blk_alloc ?_ _)); refine blk_put (cs := #[.int .i64 t110, .int .i64 0]) ?_ 1 _ rfl; (with_reducible repeat (first | refine blk_drewN ?_ _ | refine blk_drew ?_ | refine blk_alloc ?_ _)); refine blk_put (cs := #[.int .i64 0, .int .i64 0]) ?_ 0 _ rfl; (with_reducible repeat (first | refine blk_drewN ?_ _ | refine blk_drew ?_ | refine blk_alloc ?_ _)); refine blk_far ?_ NB113_112.out _; (with_reducible repeat (first | refine blk_drewN ?_ _ | refine blk_drew ?_ | refine blk_alloc ?_ _)); refine blk_far ?_ NB113_112.out _; (with_reducible repeat (first | refine blk_drewN ?_ _ | refine blk_drew ?_ | refine blk_alloc ?_ _)); refine blk_far ?_ NB113_112.out _; (with_reducible repeat (first | refine blk_drewN ?_ _ | refine blk_drew ?_ | refine blk_alloc ?_ _)); refine blk_far ?_ NB113_112.out _; (with_reducible repeat (first | refine blk_drewN ?_ _ | refine blk_drew ?_ | refine blk_alloc ?_ _)); refine blk_far ?_ NB113_112.out _; (with_reducible repeat (first | refine blk_drewN ?_ _ | refine blk_drew ?_ | refine blk_alloc ?_ _)); exact BK113.out) hb); have n4_ := Aside0.mk (below_step (by repeat (first | (with_reducible first | exact HB.out | apply below_alloc | apply pw_below_drewN | apply below_drew1 | refine below_set ?_ GE112.out | refine below_set ?_ GE113.out) | exact HB.out)) hb); clear HO106; clear HO109; clear BK112; clear BK113; clear HB; have HO106 := n0_; have HO109 := n1_; have BK112 := n2_; have BK113 := n3_; have HB := n4_; clear n0_ n1_ n2_ n3_ n4_; (try clear hb); (try clear hb2); (try clear hk); (try clear hi); have hcz49_0 : w48.cell? ⟨gb113, 0, none⟩ = some (.int .i64 t110) := (blk_cell BK113.out 0).trans rfl; have hcz49_1 : w48.cell? ⟨gb113, 1, none⟩ = some (.int .i64 t111) := (blk_cell BK113.out 1).trans rfl; have hfz49_0 := blk_frozen BK113.out 0; have hfz49_1 := blk_frozen BK113.out 1; have hcz50_0 : w48.cell? ⟨gb112, 0, none⟩ = some (.int .i64 t101) := (blk_cell BK112.out 0).trans rfl; have hcz50_1 : w48.cell? ⟨gb112, 1, none⟩ = some (.int .i64 t102) := (blk_cell BK112.out 1).trans rfl; have hcz50_2 : w48.cell? ⟨gb112, 2, none⟩ = some (.string t103) := (blk_cell BK112.out 2).trans rfl; have hcz50_3 : w48.cell? ⟨gb112, 3, none⟩ = some (.slice Ao45 t104.length co45) := (blk_cell BK112.out 3).trans rfl; have hcz50_4 : w48.cell? ⟨gb112, 4, none⟩ = some (.slice Ao46 t107.length co46) := (blk_cell BK112.out 4).trans rfl; have hfz50_0 := blk_frozen BK112.out 0; have hfz50_1 := blk_frozen BK112.out 1; have hfz50_2 := blk_frozen BK112.out 2; have hfz50_3 := blk_frozen BK112.out 3; have hfz50_4 := blk_frozen BK112.out 4))
      go_ret
      exact ⟨by first | rfl | (simp [errW_none, errW_some] <;> rfl) | (simp [*, errW_none, errW_some] <;> rfl), by repeat (first | (with_reducible first | exact HB.out | apply below_alloc | apply pw_below_drewN | apply below_drew1 | refine below_set ?_ GE112.out | refine below_set ?_ GE113.out) | exact HB.out)⟩
  · rw [if_neg c3] at H
    have c3b0 : (t110 == 0) = false := beq_eq_false_iff_ne.mpr c3
    have c3b1 : (t110 != 0) = true := bne_iff_ne.mpr c3
    obtain rfl := Option.some.inj H
    go_enter Tryz.func7, Tryz.ntmps7
    go_wp2_with (first | ((with_reducible refine gate_callee (f := 8) rfl ?_); refine goesL_ (some 6) rfl rfl Tryz.func8 (by kernel_rfl) rfl #[.string (⟨#[91, 49, 44, 32, 110, 117, 108, 108, 93]⟩ : ByteArray)] rfl (by (try simp only [List.map_toArray, List.map_cons, List.map_nil]); first | done | rfl | (simp only [List.length_drop, List.length_take]; rfl)) ?_; (with_reducible refine (tree_Parse.calls k (⟨#[91, 49, 44, 32, 110, 117, 108, 108, 93]⟩ : ByteArray) t101 t102 t103 t104 t107 t110 t111 _ A1.out (HTAB.out.below (by repeat (first | (with_reducible first | exact HB.out | apply below_alloc | apply pw_below_drewN | apply below_drew1 | refine below_set ?_ (by assumption) | refine below_set ?_ (Aside0.out (by assumption))) | exact HB.out)))).mono ?_); rintro e w51 ⟨v105, v108, rfl, ho0, ho1, hb⟩; refine ⟨_, rfl, ?_⟩; have n0_ := Aside0.mk (Kd.R_lower ho0 (below_size (by repeat (first | (with_reducible first | exact HB.out | apply below_alloc | apply pw_below_drewN | apply below_drew1) | exact HB.out)))); have n1_ := Aside0.mk (Kd.R_lower ho1 (below_size (by repeat (first | (with_reducible first | exact HB.out | apply below_alloc | apply pw_below_drewN | apply below_drew1) | exact HB.out)))); have n2_ := Aside0.mk (below_step (by repeat (first | (with_reducible first | exact HB.out | apply below_alloc | apply pw_below_drewN | apply below_drew1) | exact HB.out)) hb); clear HB; have HO106 := n0_; have HO109 := n1_; have HB := n2_; clear n0_ n1_ n2_; (try clear hb); (try clear hb2); (try clear hk); (try clear hi); (try clear ho0); (try clear ho1)) | ((with_reducible refine gate_dst (N := 1) rfl ?_); (try (refine gate_guard (by rfl) ?_; dsimp only)); refine box_event ?hg (N := 1) ?hd (cs := #[.int .i64 0, .int .i64 0, .string (⟨#[]⟩ : ByteArray), .slice none 0 0, .slice none 0 0]) (t := 26) ?hr ?_; (case hd => rfl); (case hg => rfl); (case hr => first | (go_simp; done) | (go_simp; rfl)); intro gb112 hg w52 hbox hb; have n0_ := Aside0.mk (Kd.R_below (Kd.R_elderB (by (with_reducible repeat (first | apply Kd.R_alloc | apply Kd.R_drewN | apply Kd.R_drew)); exact HO106.out) gb112 (Nat.le_of_eq hg.symm)) hb); have n1_ := Aside0.mk (Kd.R_below (by (with_reducible repeat (first | apply Kd.R_alloc | apply Kd.R_drewN | apply Kd.R_drew)); exact HO109.out) hb); have n2_ := Aside0.mk (below_step (by repeat (first | (with_reducible first | exact HB.out | apply below_alloc | apply pw_below_drewN | apply below_drew1) | exact HB.out)) hb); have n3_ := Aside0.mk (hbox); have n4_ := Aside0.mk ((by rw [hg]; exact (below_size (by repeat (first | (with_reducible first | exact HB.out | apply below_alloc | apply pw_below_drewN | apply below_drew1) | exact HB.out))) : w.heap.size ≤ gb112)); have n5_ := Aside0.mk ((by rw [hg]; exact (below_size (by repeat (first | (with_reducible first | exact HB.out | apply below_alloc | apply pw_below_drewN | apply below_drew1) | exact HB.out))) : w.heap.size ≤ gb112)); clear HO106; clear HO109; clear HB; have HO106 := n0_; have HO109 := n1_; have HB := n2_; have BK112 := n3_; have GW112 := n4_; have GE112 := n5_; clear n0_ n1_ n2_ n3_ n4_ n5_; clear hb hbox hg) | ((with_reducible refine gate_dst (N := 2) rfl ?_); (try (refine gate_guard (by rfl) ?_; dsimp only)); refine box_event ?hg (N := 2) ?hd (cs := #[.int .i64 0, .int .i64 0]) (t := 29) ?hr ?_; (case hd => rfl); (case hg => rfl); (case hr => first | (go_simp; done) | (go_simp; rfl)); intro gb113 hg w53 hbox hb; have n0_ := Aside0.mk (Kd.R_below (by (with_reducible repeat (first | apply Kd.R_alloc | apply Kd.R_drewN | apply Kd.R_drew)); exact HO106.out) hb); have n1_ := Aside0.mk (Kd.R_below (by (with_reducible repeat (first | apply Kd.R_alloc | apply Kd.R_drewN | apply Kd.R_drew)); exact HO109.out) hb); have n2_ := Aside0.mk (blk_below (g := gb112) (o := .cells #[.int .i64 0, .int .i64 0, .string (⟨#[]⟩ : ByteArray), .slice none 0 0, .slice none 0 0] 26 (0, 0)) (by (with_reducible repeat (first | refine blk_drewN ?_ _ | refine blk_drew ?_ | refine blk_alloc ?_ _)); exact BK112.out) hb); have n3_ := Aside0.mk (below_step (by repeat (first | (with_reducible first | exact HB.out | apply below_alloc | apply pw_below_drewN | apply below_drew1 | refine below_set ?_ GE112.out) | exact HB.out)) hb); have n4_ := Aside0.mk (hbox); have n5_ := Aside0.mk ((by rw [hg]; exact (below_size (by repeat (first | (with_reducible first | exact HB.out | apply below_alloc | apply pw_below_drewN | apply below_drew1 | refine below_set ?_ GE112.out) | exact HB.out))) : w.heap.size ≤ gb113)); have n6_ := Aside0.mk ((by rw [hg]; exact (below_size (by repeat (first | (with_reducible first | exact HB.out | apply below_alloc | apply pw_below_drewN | apply below_drew1 | refine below_set ?_ GE112.out) | exact HB.out))) : w.heap.size ≤ gb113)); have n7_ := Aside0.mk ((by rw [hg]; exact Nat.ne_of_lt (blk_lt (g := gb112) (o := .cells #[.int .i64 0, .int .i64 0, .string (⟨#[]⟩ : ByteArray), .slice none 0 0, .slice none 0 0] 26 (0, 0)) (by (with_reducible repeat (first | refine blk_drewN ?_ _ | refine blk_drew ?_ | refine blk_alloc ?_ _)); exact BK112.out)) : gb112 ≠ gb113)); have n8_ := Aside0.mk ((by rw [hg]; exact Nat.ne_of_gt (blk_lt (g := gb112) (o := .cells #[.int .i64 0, .int .i64 0, .string (⟨#[]⟩ : ByteArray), .slice none 0 0, .slice none 0 0] 26 (0, 0)) (by (with_reducible repeat (first | refine blk_drewN ?_ _ | refine blk_drew ?_ | refine blk_alloc ?_ _)); exact BK112.out)) : gb113 ≠ gb112)); clear HO106; clear HO109; clear BK112; clear HB; have HO106 := n0_; have HO109 := n1_; have BK112 := n2_; have HB := n3_; have BK113 := n4_; have GW113 := n5_; have GE113 := n6_; have NB112_113 := n7_; have NB113_112 := n8_; clear n0_ n1_ n2_ n3_ n4_ n5_ n6_ n7_ n8_; clear hb hbox hg; have hnb54 := NB112_113.out; have hnc54 := NB113_112.out; have hcz55_0 : w53.cell? ⟨gb112, 0, none⟩ = some (.int .i64 0) := (blk_cell BK112.out 0).trans rfl; have hcz55_1 : w53.cell? ⟨gb112, 1, none⟩ = some (.int .i64 0) := (blk_cell BK112.out 1).trans rfl; have hcz55_2 : w53.cell? ⟨gb112, 2, none⟩ = some (.string (⟨#[]⟩ : ByteArray)) := (blk_cell BK112.out 2).trans rfl; have hcz55_3 : w53.cell? ⟨gb112, 3, none⟩ = some (.slice none 0 0) := (blk_cell BK112.out 3).trans rfl; have hcz55_4 : w53.cell? ⟨gb112, 4, none⟩ = some (.slice none 0 0) := (blk_cell BK112.out 4).trans rfl; have hfz55_0 := blk_frozen BK112.out 0; have hfz55_1 := blk_frozen BK112.out 1; have hfz55_2 := blk_frozen BK112.out 2; have hfz55_3 := blk_frozen BK112.out 3; have hfz55_4 := blk_frozen BK112.out 4; obtain ⟨Ao56, co56, eo56⟩ := Kd.R_slice HO106.out; subst eo56; obtain ⟨Ao57, co57, eo57⟩ := Kd.R_slice HO109.out; subst eo57; have hcz58_0 : w53.cell? ⟨gb113, 0, none⟩ = some (.int .i64 0) := (blk_cell BK113.out 0).trans rfl; have hcz58_1 : w53.cell? ⟨gb113, 1, none⟩ = some (.int .i64 0) := (blk_cell BK113.out 1).trans rfl; have hfz58_0 := blk_frozen BK113.out 0; have hfz58_1 := blk_frozen BK113.out 1) | ((with_reducible refine gate_callee (f := 12) rfl ?_); refine goesL_ (some 11) rfl rfl Tryz.func12 (by kernel_rfl) rfl #[.agg #[.int .i64 t101, .int .i64 t102, .string t103, .slice Ao56 t104.length co56, .slice Ao57 t107.length co57]] rfl (by (try simp only [List.map_toArray, List.map_cons, List.map_nil]); first | done | rfl | (simp only [List.length_drop, List.length_take]; rfl)) ?_; (with_reducible refine (tree_Print.calls k t101 t102 t103 _ _ t104 _ _ t107 t114 t115 _ ?side1 ?side2 ?side3 ?side4 A2.out (HTAB.out.below (by repeat (first | (with_reducible first | exact HB.out | apply below_alloc | apply pw_below_drewN | apply below_drew1 | refine below_set ?_ (by assumption) | refine below_set ?_ (Aside0.out (by assumption))) | exact HB.out)))).mono ?_); (case side1 => refine (Kd.R_reads' (e := 26) (base := w.heap.size) (ok := fun k_ => (True ∧ k_ ≠ gb112)) (n := t104.length) (c := co56) ?_).2.2; exact (by (with_reducible repeat (first | apply Kd.R_alloc | apply Kd.R_drewN | apply Kd.R_drew)); exact (Kd.R_mono (Kd.R_mono (Kd.R_far (p := ⟨gb113, 1, none⟩) (Kd.R_far (p := ⟨gb113, 0, none⟩) (Kd.R_far (p := ⟨gb112, 4, none⟩) (Kd.R_far (p := ⟨gb112, 3, none⟩) (Kd.R_far (p := ⟨gb112, 2, none⟩) (Kd.R_far (p := ⟨gb112, 1, none⟩) (Kd.R_far (p := ⟨gb112, 0, none⟩) (Kd.R_types (Kd.R_mono HO106.out (fun k_ hk => (⟨hk, hk.2⟩ : _ ∧ k_ ≠ gb112))) BK113.out (by decide)) (fun _ hk => hk.1.2) (.int .i64 t101)) (fun _ hk => hk.1.2) (.int .i64 t102)) (fun _ hk => hk.1.2) (.string t103)) (fun _ hk => hk.1.2) (.slice Ao56 t104.length co56)) (fun _ hk => hk.1.2) (.slice Ao57 t107.length co57)) (fun _ hk => hk.2) (.int .i64 t110)) (fun _ hk => hk.2) (.int .i64 t111)) (fun _ h_ => h_.1)) (fun _ h_ => h_.1)))); (case side2 => exact (Kd.R_reads' HO106.out).2.1); (case side3 => refine (Kd.R_reads' (e := 9) (base := w.heap.size) (ok := fun k_ => True) (n := t107.length) (c := co57) ?_).2.2; exact (by (with_reducible repeat (first | apply Kd.R_alloc | apply Kd.R_drewN | apply Kd.R_drew)); exact (Kd.R_mono (Kd.R_mono (Kd.R_far (p := ⟨gb113, 1, none⟩) (Kd.R_far (p := ⟨gb113, 0, none⟩) (Kd.R_far (p := ⟨gb112, 4, none⟩) (Kd.R_far (p := ⟨gb112, 3, none⟩) (Kd.R_far (p := ⟨gb112, 2, none⟩) (Kd.R_far (p := ⟨gb112, 1, none⟩) (Kd.R_far (p := ⟨gb112, 0, none⟩) (Kd.R_types (Kd.R_types HO109.out BK112.out (by decide)) BK113.out (by decide)) (fun _ hk => hk.1.2) (.int .i64 t101)) (fun _ hk => hk.1.2) (.int .i64 t102)) (fun _ hk => hk.1.2) (.string t103)) (fun _ hk => hk.1.2) (.slice Ao56 t104.length co56)) (fun _ hk => hk.1.2) (.slice Ao57 t107.length co57)) (fun _ hk => hk.2) (.int .i64 t110)) (fun _ hk => hk.2) (.int .i64 t111)) (fun _ h_ => h_.1)) (fun _ h_ => h_.1)))); (case side4 => exact (Kd.R_reads' HO109.out).2.1); rintro e w59 ⟨rfl, hb⟩; refine ⟨_, rfl, ?_⟩; have n0_ := Aside0.mk (Kd.R_below (by (with_reducible repeat (first | apply Kd.R_alloc | apply Kd.R_drewN | apply Kd.R_drew)); exact (Kd.R_mono (Kd.R_mono (Kd.R_far (p := ⟨gb113, 1, none⟩) (Kd.R_far (p := ⟨gb113, 0, none⟩) (Kd.R_far (p := ⟨gb112, 4, none⟩) (Kd.R_far (p := ⟨gb112, 3, none⟩) (Kd.R_far (p := ⟨gb112, 2, none⟩) (Kd.R_far (p := ⟨gb112, 1, none⟩) (Kd.R_far (p := ⟨gb112, 0, none⟩) (Kd.R_types (Kd.R_mono HO106.out (fun k_ hk => (⟨hk, hk.2⟩ : _ ∧ k_ ≠ gb112))) BK113.out (by decide)) (fun _ hk => hk.1.2) (.int .i64 t101)) (fun _ hk => hk.1.2) (.int .i64 t102)) (fun _ hk => hk.1.2) (.string t103)) (fun _ hk => hk.1.2) (.slice Ao56 t104.length co56)) (fun _ hk => hk.1.2) (.slice Ao57 t107.length co57)) (fun _ hk => hk.2) (.int .i64 t110)) (fun _ hk => hk.2) (.int .i64 t111)) (fun _ h_ => h_.1)) (fun _ h_ => h_.1))) hb); have n1_ := Aside0.mk (Kd.R_below (by (with_reducible repeat (first | apply Kd.R_alloc | apply Kd.R_drewN | apply Kd.R_drew)); exact (Kd.R_mono (Kd.R_mono (Kd.R_far (p := ⟨gb113, 1, none⟩) (Kd.R_far (p := ⟨gb113, 0, none⟩) (Kd.R_far (p := ⟨gb112, 4, none⟩) (Kd.R_far (p := ⟨gb112, 3, none⟩) (Kd.R_far (p := ⟨gb112, 2, none⟩) (Kd.R_far (p := ⟨gb112, 1, none⟩) (Kd.R_far (p := ⟨gb112, 0, none⟩) (Kd.R_types (Kd.R_types HO109.out BK112.out (by decide)) BK113.out (by decide)) (fun _ hk => hk.1.2) (.int .i64 t101)) (fun _ hk => hk.1.2) (.int .i64 t102)) (fun _ hk => hk.1.2) (.string t103)) (fun _ hk => hk.1.2) (.slice Ao56 t104.length co56)) (fun _ hk => hk.1.2) (.slice Ao57 t107.length co57)) (fun _ hk => hk.2) (.int .i64 t110)) (fun _ hk => hk.2) (.int .i64 t111)) (fun _ h_ => h_.1)) (fun _ h_ => h_.1))) hb); have n2_ := Aside0.mk (blk_below (g := gb112) (o := .cells #[.int .i64 t101, .int .i64 t102, .string t103, .slice Ao56 t104.length co56, .slice Ao57 t107.length co57] 26 (0, 0)) (by (with_reducible repeat (first | refine blk_drewN ?_ _ | refine blk_drew ?_ | refine blk_alloc ?_ _)); refine blk_far ?_ NB112_113.out _; (with_reducible repeat (first | refine blk_drewN ?_ _ | refine blk_drew ?_ | refine blk_alloc ?_ _)); refine blk_far ?_ NB112_113.out _; (with_reducible repeat (first | refine blk_drewN ?_ _ | refine blk_drew ?_ | refine blk_alloc ?_ _)); refine blk_put (cs := #[.int .i64 t101, .int .i64 t102, .string t103, .slice Ao56 t104.length co56, .slice none 0 0]) ?_ 4 _ rfl; (with_reducible repeat (first | refine blk_drewN ?_ _ | refine blk_drew ?_ | refine blk_alloc ?_ _)); refine blk_put (cs := #[.int .i64 t101, .int .i64 t102, .string t103, .slice none 0 0, .slice none 0 0]) ?_ 3 _ rfl; (with_reducible repeat (first | refine blk_drewN ?_ _ | refine blk_drew ?_ | refine blk_alloc ?_ _)); refine blk_put (cs := #[.int .i64 t101, .int .i64 t102, .string (⟨#[]⟩ : ByteArray), .slice none 0 0, .slice none 0 0]) ?_ 2 _ rfl; (with_reducible repeat (first | refine blk_drewN ?_ _ | refine blk_drew ?_ | refine blk_alloc ?_ _)); refine blk_put (cs := #[.int .i64 t101, .int .i64 0, .string (⟨#[]⟩ : ByteArray), .slice none 0 0, .slice none 0 0]) ?_ 1 _ rfl; (with_reducible repeat (first | refine blk_drewN ?_ _ | refine blk_drew ?_ | refine blk_alloc ?_ _)); refine blk_put (cs := #[.int .i64 0, .int .i64 0, .string (⟨#[]⟩ : ByteArray), .slice none 0 0, .slice none 0 0]) ?_ 0 _ rfl; (with_reducible repeat (first | refine blk_drewN ?_ _ | refine blk_drew ?_ | refine blk_alloc ?_ _)); exact BK112.out) hb); have n3_ := Aside0.mk (blk_below (g := gb113) (o := .cells #[.int .i64 t110, .int .i64 t111] 29 (0, 0)) (by (with_reducible repeat (first | refine blk_drewN ?_ _ | refine blk_drew ?_ | refine blk_alloc ?_ _)); refine blk_put (cs := #[.int .i64 t110, .int .i64 0]) ?_ 1 _ rfl; (with_reducible repeat (first | refine blk_drewN ?_ _ | refine blk_drew ?_ | refine blk_alloc ?_ _)); refine blk_put (cs := #[.int .i64 0, .int .i64 0]) ?_ 0 _ rfl; (with_reducible repeat (first | refine blk_drewN ?_ _ | refine blk_drew ?_ | refine blk_alloc ?_ _)); refine blk_far ?_ NB113_112.out _; (with_reducible repeat (first | refine blk_drewN ?_ _ | refine blk_drew ?_ | refine blk_alloc ?_ _)); refine blk_far ?_ NB113_112.out _; (with_reducible repeat (first | refine blk_drewN ?_ _ | refine blk_drew ?_ | refine blk_alloc ?_ _)); refine blk_far ?_ NB113_112.out _; (with_reducible repeat (first | refine blk_drewN ?_ _ | refine blk_drew ?_ | refine blk_alloc ?_ _)); refine blk_far ?_ NB113_112.out _; (with_reducible repeat (first | refine blk_drewN ?_ _ | refine blk_drew ?_ | refine blk_alloc ?_ _)); refine blk_far ?_ NB113_112.out _; (with_reducible repeat (first | refine blk_drewN ?_ _ | refine blk_drew ?_ | refine blk_alloc ?_ _)); exact BK113.out) hb); have n4_ := Aside0.mk (below_step (by repeat (first | (with_reducible first | exact HB.out | apply below_alloc | apply pw_below_drewN | apply below_drew1 | refine below_set ?_ GE112.out | refine below_set ?_ GE113.out) | exact HB.out)) hb); clear HO106; clear HO109; clear BK112; clear BK113; clear HB; have HO106 := n0_; have HO109 := n1_; have BK112 := n2_; have BK113 := n3_; have HB := n4_; clear n0_ n1_ n2_ n3_ n4_; (try clear hb); (try clear hb2); (try clear hk); (try clear hi); have hcz60_0 : w59.cell? ⟨gb113, 0, none⟩ = some (.int .i64 t110) := (blk_cell BK113.out 0).trans rfl; have hcz60_1 : w59.cell? ⟨gb113, 1, none⟩ = some (.int .i64 t111) := (blk_cell BK113.out 1).trans rfl; have hfz60_0 := blk_frozen BK113.out 0; have hfz60_1 := blk_frozen BK113.out 1))
    go_ret
    exact ⟨by first | rfl | (simp [errW_none, errW_some] <;> rfl) | (simp [*, errW_none, errW_some] <;> rfl), by repeat (first | (with_reducible first | exact HB.out | apply below_alloc | apply pw_below_drewN | apply below_drew1 | refine below_set ?_ GE112.out | refine below_set ?_ GE113.out) | exact HB.out)⟩
end Go.Proofs.YtegppkngdkkdcaaGreatDoor.PS
end
