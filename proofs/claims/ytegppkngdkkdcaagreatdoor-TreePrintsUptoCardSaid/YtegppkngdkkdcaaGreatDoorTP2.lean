/- What TreePrints stands on, part 2. -/
import Derived.Test.YtegppkngdkkdcaaGreatDoorTP1
set_option linter.unusedVariables false
set_option linter.unusedSimpArgs false
section
set_option linter.unusedVariables false
set_option linter.unusedSimpArgs false
namespace Go.Proofs.YtegppkngdkkdcaaGreatDoor.Tr
open Go.RowKit Go.Proofs.YtegppkngdkkdcaaGreatDoorW.PrintWords Go.Proofs.YtegppkngdkkdcaaGreatDoorW.PrintLast Go.Proofs.YtegppkngdkkdcaaGreatDoorW.PrintMore
open Go.Proofs.YtegppkngdkkdcaaGreatDoor.Lx Go.Proofs.YtegppkngdkkdcaaGreatDoor.PS
section
variable {P : Program} {ops : Array Oper} {Q : Exit → Act → World → Prop} {md : Region.Mode} {S : World → Prop} {ds : List Nat}
theorem two_last_ {i j : Nat} {Ni Nj : Option Tmp} {oi oj : Oper} {fuel : Nat} {l : Array Bool} {a : Act} {w : World} (li lj : Array Bool) (hi : ops[i]? = some oi) (hj : ops[j]? = some oj) (hNi : oi.dst = Ni) (hNj : oj.dst = Nj)
    (hc : (Region.ready md ops l == [i, j] && l.setIfInBounds i true == li && l.setIfInBounds j true == lj) = true) (hdi : i ∈ ds) (hdj : j ∈ ds)
    (h1 : ∀ K : Act → World → Prop, Shut (∀ a' w', wpAnyLast P md ops Q S ds fuel li a' w' → K a' w') → if Region.wanted oi (yielded ops a.tmps) = true then Oper.wp P oi a w K Q else K (a.put Ni undef) w)
    (h2 : ∀ K : Act → World → Prop, Shut (∀ a' w', wpAnyLast P md ops Q S ds fuel lj a' w' → K a' w') → if Region.wanted oj (yielded ops a.tmps) = true then Oper.wp P oj a w K Q else K (a.put Nj undef) w) :
    wpAnyLast P md ops Q S ds (fuel + 1) l a w := by
  subst hNi
  subst hNj
  simp only [Bool.and_eq_true, beq_iff_eq] at hc
  obtain ⟨⟨h3, h4⟩, h5⟩ := hc
  subst h4
  subst h5
  exact wpAnyLast_ready h3 (by simp) (AllReadyL.cons_last hi hdi (fun K hK => h1 K hK) (AllReadyL.cons_last hj hdj (fun K hK => h2 K hK) AllReadyL.nil))
end
section
variable {P : Program} {ops : Array Oper} {o : Oper} {a : Act} {Q : Exit → Act → World → Prop} {K : Act → World → Prop}
theorem step_append_any {W : World} (base : Nat) (hw : Region.wanted o (yielded ops a.tmps) = true) (s x : Operand) (t e : TypeId) (z : Value) (size bytes : Nat)
    (ho : o.op = .call { callee := .builtin .append, args := #[s, x], argTypes := #[t, t] })
    (ht : P.underlying t = some (.slice e)) (hinfo : (P.info? e).map (fun i => (i.zero, i.size, i.bytes)) = some (some z, size, bytes)) (hz : z.cells.size = size) (hs0 : 0 < size) (hb0 : 0 < bytes)
    (v : Value) (n : Nat) (xs ys : List Value) (ad : Addr) (hs : a.eval s = v) (hx : a.eval x = .slice (some ad) 1 1) (hys : ys.length = size) (hcells : ∀ j u, ys[j]? = some u → W.cell? (ad.add j) = some u) (h1 : ∀ u ∈ ys, u.oneCell' = true)
    (HO : W.ownsRow base e size v n xs) (hbase : base ≤ W.heap.size) (hl : (n + 1) * bytes ≤ 140737488355328)
    (h : ∀ v1 w1, w1.ownsRow base e size v1 (n + 1) (xs ++ ys) → W.grownBy w1 v.ownBlock → (v1.ownBlock = v.ownBlock ∨ ∃ b, v1.ownBlock = some b ∧ W.heap.size ≤ b) → K (a.put o.dst v1) w1) :
    if Region.wanted o (yielded ops a.tmps) = true then Oper.wp P o a W K Q else K (a.put o.dst undef) W := by
  obtain ⟨i0, hi, hzz⟩ := Option.map_eq_some_iff.1 hinfo
  simp only [Prod.mk.injEq] at hzz
  obtain ⟨hz0, hz1, hz2⟩ := hzz
  have hlen : n + 1 ≤ 140737488355328 := Nat.le_trans (Nat.le_mul_of_pos_right _ hb0) hl
  rw [if_pos hw]
  obtain ⟨v1, w1, hr, hown, hg, _, hat⟩ := run_append_own_at (P := P) W base t o.type e i0 z size bytes ht hi hz0 hz1 hz2 hz hs0 v n xs HO ad 1 1 ys (by rw [hys]; simp) hcells h1 (by simp only [maxLen]; omega) hl hbase
  unfold Oper.wp execOp
  simp only [ho, resolve, invoke, builtin, Sem.run_bind, Sem.run_pure, Result.andThen_ok, List.map_toArray, List.map_cons, List.map_nil, hs, hx, hr]
  refine h v1 w1 hown hg ?_
  rcases hat with hat | hat
  · exact .inl hat
  · exact .inr ⟨_, hat, Nat.le_refl _⟩
end
theorem list_set5 {l inner : List Value} {k : Nat} (hk : inner.length = k) {z0 z1 z2 z3 z4 : Value} (h : l.take (k + 5) = inner ++ [z0, z1, z2, z3, z4]) (a0 a1 a2 a3 a4 : Value) :
    (((((l.set k a0).set (k + 1) a1).set (k + 2) a2).set (k + 3) a3).set (k + 4) a4).take (k + 5) = inner ++ [a0, a1, a2, a3, a4] := by
  subst hk
  simp only [List.take_set, h]
  simp [List.set_append]
def put5 (w : World) (g k : Nat) (a0 a1 a2 a3 a4 : Value) : World := ((((w.setCell ⟨g, k, none⟩ a0).setCell ⟨g, k + 1, none⟩ a1).setCell ⟨g, k + 2, none⟩ a2).setCell ⟨g, k + 3, none⟩ a3).setCell ⟨g, k + 4, none⟩ a4
theorem put5_far {w : World} {g k b : Nat} (h : b ≠ g) (a0 a1 a2 a3 a4 : Value) : (put5 w g k a0 a1 a2 a3 a4).heap[b]? = w.heap[b]? := by
  unfold put5
  rw [far_set _ _ _ _ _ h, far_set _ _ _ _ _ h, far_set _ _ _ _ _ h, far_set _ _ _ _ _ h, far_set _ _ _ _ _ h]
theorem put5_same (w : World) (g k : Nat) (a0 a1 a2 a3 a4 : Value) : Below 0 w (put5 w g k a0 a1 a2 a3 a4) :=
  (((((Below.refl 0 w).setCell (p := ⟨g, k, none⟩) (Nat.zero_le _) a0).setCell (p := ⟨g, k + 1, none⟩) (Nat.zero_le _) a1).setCell (p := ⟨g, k + 2, none⟩) (Nat.zero_le _) a2).setCell (p := ⟨g, k + 3, none⟩) (Nat.zero_le _) a3).setCell (p := ⟨g, k + 4, none⟩) (Nat.zero_le _) a4
theorem blk_set {w : World} {g : Nat} {t : TypeId} {cur : Array Value} (h : w.heap[g]? = some (.cells cur t (0, 0))) (k : Nat) (v : Value) : (w.setCell ⟨g, k, none⟩ v).heap[g]? = some (.cells (cur.setIfInBounds k v) t (0, 0)) := blk_put h k v rfl
theorem put5_blk {w : World} {g k : Nat} {t : TypeId} {cur : Array Value} (h : w.heap[g]? = some (.cells cur t (0, 0))) (a0 a1 a2 a3 a4 : Value) :
    (put5 w g k a0 a1 a2 a3 a4).heap[g]? = some (.cells (((((cur.setIfInBounds k a0).setIfInBounds (k + 1) a1).setIfInBounds (k + 2) a2).setIfInBounds (k + 3) a3).setIfInBounds (k + 4) a4) t (0, 0)) :=
  blk_set (blk_set (blk_set (blk_set (blk_set h _ _) _ _) _ _) _ _) _ _
theorem get_setCell {w w1 : World} {g k j : Nat} (h : w1.heap[k]? = w.heap[k]?) (v : Value) : (w1.setCell ⟨g, j, none⟩ v).heap[k]? = (w.setCell ⟨g, j, none⟩ v).heap[k]? := by
  by_cases e : k = g
  · subst e
    simp only [World.setCell, Array.getElem?_modify, h]
  · rw [far_set _ _ _ _ _ e, far_set _ _ _ _ _ e, h]
theorem put5_comm {w : World} {g n b j k : Nat} {u : Value} (h : k ≠ b) (a0 a1 a2 a3 a4 : Value) (_ : True := trivial) : (put5 (w.setCell ⟨b, j, none⟩ u) g n a0 a1 a2 a3 a4).heap[k]? = (put5 w g n a0 a1 a2 a3 a4).heap[k]? :=
  get_setCell (get_setCell (get_setCell (get_setCell (get_setCell (far_set _ _ _ _ _ h) _) _) _) _) _
theorem put5_own {w : World} {base g n c : Nat} {e : TypeId} {inner : List Value} {z0 z1 z2 z3 z4 : Value} (hi : inner.length = n * 5) (h : w.ownsRow base e 5 (.slice (some ⟨g, 0, none⟩) (n + 1) c) (n + 1) (inner ++ [z0, z1, z2, z3, z4])) (a0 a1 a2 a3 a4 : Value) :
    (put5 w g (n * 5) a0 a1 a2 a3 a4).ownsRow base e 5 (.slice (some ⟨g, 0, none⟩) (n + 1) c) (n + 1) (inner ++ [a0, a1, a2, a3, a4]) := by
  obtain ⟨h1, h2⟩ := h
  refine ⟨by simpa using h1, ?_⟩
  rcases h2 with ⟨h2, _⟩ | ⟨g', cap, cur, hv, hg, hh, r1, r2, r3, r4⟩
  · cases h2
  · injection hv with e1 e2 e3
    injection e1 with e1
    injection e1 with e1
    subst e1
    refine .inr ⟨g, cap, _, by rw [e3], hg, put5_blk hh _ _ _ _ _, r1, r2, by simpa using r3, ?_⟩
    have hm : (n + 1) * 5 = n * 5 + 5 := by omega
    rw [hm] at r4 ⊢
    simp only [Array.toList_setIfInBounds]
    exact list_set5 hi r4 _ _ _ _ _
def Kp (base b c : Nat) (w w1 : World) : Prop := w1.os = w.os ∧ w1.tape = w.tape ∧ w1.output = w.output ∧ w.heap.size ≤ w1.heap.size ∧ ∀ k, k < base → k ≠ b → k ≠ c → w1.heap[k]? = w.heap[k]?
theorem Kp.trans {base b c : Nat} {w w1 w2 : World} (h : Kp base b c w w1) (k : Kp base b c w1 w2) : Kp base b c w w2 := ⟨k.1.trans h.1, k.2.1.trans h.2.1, k.2.2.1.trans h.2.2.1, Nat.le_trans h.2.2.2.1 k.2.2.2.1, fun j h1 h2 h3 => (k.2.2.2.2 j h1 h2 h3).trans (h.2.2.2.2 j h1 h2 h3)⟩
theorem Kp.of_keep {base b c : Nat} {w w1 : World} (h : KeepR b w w1) (hb : base ≤ w.heap.size) : Kp base b c w w1 := ⟨h.1.os, h.1.tape, h.1.output, h.2.1, fun k h1 h2 _ => h.2.2 k (by omega) h2⟩
theorem infoVal : (Tryz.prog.info? 26).map (fun i => (i.zero, i.size, i.bytes)) = some (some (.agg #[.int .i64 0, .int .i64 0, .string ⟨#[]⟩, .slice none 0 0, .slice none 0 0]), 5, 80) := by kernel_rfl
def zCs : List Value := [.int .i64 0, .int .i64 0, .string ⟨#[]⟩, .slice none 0 0, .slice none 0 0]
def VQ (ts : List Tk) (len : Nat) (G : Obj) (g b o : Nat) (r : PRes) (w : World) (e : Ending) (w' : World) : Prop := KeepR b w w' ∧ match r with
  | .ok v p1 => (∃ v3 v4, e = .returned (.agg #[.int .i64 v.f0, .int .i64 v.f1, .string v.f2, v3, v4]) ∧ k26.R 26 w' w.heap.size (fun _ => True) v3 v.f3 ∧ Kd.string.R 9 w' w.heap.size (fun _ => True) v4 v.f4) ∧ Pz ts len G g b p1 o w'
  | .bad c a => e = .panicked [{ v := wrongV c a, recovered := false }]
def ValC (ts : List Tk) (len : Nat) (G : Obj) (f : Nat) : Prop := ∀ (g b o p : Nat) (r : PRes) (w : World), o ≤ 8 → valP ts len f o p = some r → Pz ts len G g b p o w → Calls Tryz.prog 21 #[.pointer (some ⟨b, 0, none⟩)] w (VQ ts len G g b o r w)
theorem Pz.move {ts : List Tk} {len : Nat} {G : Obj} {g b p o : Nat} {w w' : World} (h : Pz ts len G g b p o w) (h1 : w'.heap[b]? = w.heap[b]?) (h2 : w'.heap[g]? = w.heap[g]?) : Pz ts len G g b p o w' := by
  obtain ⟨⟨c, h3, h4⟩, h5, h6, h7⟩ := h
  exact ⟨⟨c, h1.trans h3, h4⟩, h2.trans h5, h6, h7⟩
theorem arr_fin {ts : List Tk} {len : Nat} {G : Obj} {base g b bv p1 o g5 c5 : Nat} {v : V} {vl v3 v4 : Value} {acc : List V} {inner : List Value} {w w4 w5 wf : World} (ok : Nat → Prop) (h0 : ∀ k, vl.ownBlock = some k → ok k) (hfresh : ∀ k, w.heap.size ≤ k → ok k)
    (hbase : base ≤ w.heap.size) (hgb : g < base) (hbb : b < base) (hnv : b ≠ bv) (hgv : g ≠ bv) (hbvb : bv < base)
    (hlt : ∀ k, vl.ownBlock = some k → base ≤ k ∧ k < w.heap.size) (hk4 : KeepR b w w4) (hz4 : Pz ts len G g b p1 o w4)
    (hR3 : k26.R 26 w4 w.heap.size (fun _ => True) v3 v.f3) (hR4 : Kd.string.R 9 w4 w.heap.size (fun _ => True) v4 v.f4)
    (hreps : Reps (k26.M w4 base fun k => ok k ∧ some k ≠ vl.ownBlock) 5 acc inner) (hil : inner.length = acc.length * 5)
    (hown5 : w5.ownsRow base 26 5 (.slice (some ⟨g5, 0, none⟩) (acc.length + 1) c5) (acc.length + 1) (inner ++ zCs)) (hg5 : w4.grownBy w5 vl.ownBlock) (hg5b : base ≤ g5)
    (hat5 : (Value.slice (some ⟨g5, 0, none⟩) (acc.length + 1) c5).ownBlock = vl.ownBlock ∨ ∃ b, (Value.slice (some ⟨g5, 0, none⟩) (acc.length + 1) c5).ownBlock = some b ∧ w4.heap.size ≤ b)
    (hwf : Below 0 w5 wf) (hwk : ∀ k, k ≠ bv → wf.heap[k]? = (put5 w5 g5 (acc.length * 5) (.int .i64 v.f0) (.int .i64 v.f1) (.string v.f2) v3 v4).heap[k]?) :
    Kp base b bv w wf ∧ Pz ts len G g b p1 o wf ∧ k26.R 26 wf base ok (.slice (some ⟨g5, 0, none⟩) (acc.length + 1) c5) (acc ++ [v]) ∧ (∀ k, k < w4.heap.size → some k ≠ vl.ownBlock → k ≠ bv → wf.heap[k]? = w4.heap[k]?) := by
  have hs4 := hk4.2.1
  have hs5 := hg5.size
  have far : ∀ k, k < base → k ≠ bv → wf.heap[k]? = w4.heap[k]? := fun k h1 h2 => (hwk k h2).trans ((put5_far (by omega) _ _ _ _ _).trans (hg5.block k (by omega) (fun e => by have := hlt k e.symm; omega)))
  have hat' : ∀ k, k < w4.heap.size → some k ≠ vl.ownBlock → k ≠ g5 := by
    intro k h1 h2 e
    subst e
    rcases hat5 with h | ⟨b', h, h'⟩
    · exact h2 h
    · injection h with h
      have h : k = b' := h
      omega
  refine ⟨⟨hwf.os.trans (hg5.os.trans hk4.1.os), hwf.tape.trans (hg5.tape.trans hk4.1.tape), hwf.output.trans (hg5.output.trans hk4.1.output), Nat.le_trans (Nat.le_trans hs4 hs5) hwf.size, fun k h1 h2 h3 => (far k h1 h3).trans (hk4.2.2 k (by omega) h2)⟩, hz4.move (far b hbb hnv) (far g hgb hgv), ?_, fun k h1 h2 h3 => (hwk k h3).trans ((put5_far (hat' k h1 h2) _ _ _ _ _).trans (hg5.block k h1 h2))⟩
  have hb0 := put5_same w5 g5 (acc.length * 5) (.int .i64 v.f0) (.int .i64 v.f1) (.string v.f2) v3 v4
  have hM := k26.M_bound (k26_mkM w4 w.heap.size (fun _ => True) v hR3 hR4)
  have hR := Kd.R_appended (d := k26) (e := 26) (base := base) (ok := ok) (w1 := put5 w5 g5 (acc.length * 5) (.int .i64 v.f0) (.int .i64 v.f1) (.string v.f2) v3 v4) (v := vl) h0 hreps (k26.M_lower hbase hM) (fun k hk => ⟨hfresh k hk.2.1, fun e => by have := hlt k e.symm; have := hk.2.1; omega⟩) (fun k hk => hfresh k (by omega))
    (put5_own hil hown5 _ _ _ _ _) ⟨hb0.os.trans hg5.os, hb0.tape.trans hg5.tape, hb0.output.trans hg5.output, Nat.le_trans hs5 hb0.size, fun k h1 h2 => (put5_far (hat' k h1 h2) _ _ _ _ _).trans (hg5.block k h1 h2)⟩ hat5
  exact Kd.R_mono (Kd.R_step (Kd.R_bound hR) fun k hk _ => hwk k (by have := hk.2.1; omega)) (fun _ hk => hk.1)
theorem value_enters (args : Array Value) (w : World) : (callFunc 21 args).run Tryz.prog w = .ok (.enter 21 args) w := enters_ Tryz.func21 (by kernel_rfl) (by kernel_rfl) args w
set_option maxRecDepth 100000 in
set_option maxHeartbeats 2000000 in
theorem arr1_bad (ts : List Tk) (len : Nat) (G : Obj) (f : Nat) (IH : ValC ts len G f) (base g b bv bp o p c a : Nat) (vl : Value) (acc : List V) (w : World) (ho : o ≤ 8) (hr : valP ts len f o p = some (.bad c a)) (hz : Pz ts len G g b p o w)
    (hbase : base ≤ w.heap.size) (hbb : b < base) (hacc : acc.length ≤ 1000000)
    (hv : w.heap[bv]? = some (.cells #[.int .i64 5, .int .i64 0, .string ⟨#[]⟩, vl, .slice none 0 0] 26 (0, 0))) (hp : w.heap[bp]? = some (.cells #[.pointer (some ⟨b, 0, none⟩)] 49 (0, 0)))
    (hR : k26.R 26 w base (fun _ => True) vl acc) :
    Calls Tryz.prog 69 #[.pointer (some ⟨bv, 0, none⟩), .pointer (some ⟨bp, 0, none⟩)] w fun e w' => e = .panicked [{ v := wrongV c a, recovered := false }] ∧ KeepR b w w' := by
  obtain ⟨Av, cv, rfl⟩ := Kd.R_slice hR
  have cv3 : w.drew.cell? ⟨bv, 3, none⟩ = some (.slice Av acc.length cv) := blk_cell (w := w.drew) hv 3
  have cp0 : w.drew.cell? ⟨bp, 0, none⟩ = some (.pointer (some ⟨b, 0, none⟩)) := blk_cell (w := w.drew) hp 0
  have hdr : Below w.heap.size w w.drew := ⟨rfl, rfl, rfl, Nat.le_refl _, fun _ _ => rfl⟩
  have hzd := hz.keep hdr
  have HIH := Aside0.mk IH
  clear hz hv hp hR IH
  go_enter Tryz.func69, Tryz.ntmps69
  refine start_ (n := 11) (S := fun w' => w'.cell? ⟨bv, 3, none⟩ = some (.slice Av acc.length cv) ∧ w'.cell? ⟨bp, 0, none⟩ = some (.pointer (some ⟨b, 0, none⟩))) (ds := [6, 8, 10]) #[fF, fF, fF, fF, fF, fF, fF, fF, fF, fF, fF] (by kernel_rfl) rfl rfl ⟨cv3, cp0⟩ (fun hHeld => ?_)
  refine pure_ (i := 0) (N := some 2) (v := ?_) (a' := ?_) #[tT, fF, fF, fF, fF, fF, fF, fF, fF, fF, fF] rfl rfl (by kernel_rfl) (fun _ _ _ h => h) (Or.inl ⟨by rfl, ?_⟩) ?_ ?_
  rotate_left
  · intro w'
    go_simp
    with_reducible rfl
  rotate_left
  · simp only [Act.put, sA, sZ, sS, i64_w, i32_w]
    rfl
  refine take_ (i := 1) (N := some 3) (v := ?_) (a' := ?_) #[tT, tT, fF, fF, fF, fF, fF, fF, fF, fF, fF] rfl rfl (by kernel_rfl) (fun _ _ _ h => h) (Or.inl ⟨by rfl, ?_⟩) hHeld ?_ ?_
  rotate_left
  · rintro w' ⟨e1, e2⟩
    go_simp
    with_reducible rfl
  rotate_left
  · simp only [Act.put, sA, sZ, sS, i64_w, i32_w]
    rfl
  refine take_ (i := 2) (N := some 4) (v := ?_) (a' := ?_) #[tT, tT, tT, fF, fF, fF, fF, fF, fF, fF, fF] rfl rfl (by kernel_rfl) (fun _ _ _ h => h) (Or.inl ⟨by rfl, ?_⟩) hHeld ?_ ?_
  rotate_left
  · rintro w' ⟨e1, e2⟩
    go_simp
    with_reducible rfl
  rotate_left
  · simp only [Act.put, sA, sZ, sS, i64_w, i32_w]
    rfl
  refine pure_ (i := 4) (N := some 6) (v := ?_) (a' := ?_) #[tT, tT, tT, fF, tT, fF, fF, fF, fF, fF, fF] rfl rfl (by kernel_rfl) (fun _ _ _ h => h) (Or.inl ⟨by rfl, ?_⟩) ?_ ?_
  rotate_left
  · intro w'
    go_simp
    with_reducible rfl
  rotate_left
  · simp only [Act.put, sA, sZ, sS, i64_w, i32_w]
    rfl
  refine two_ (i := 3) (j := 5) (Ni := some 5) (Nj := some 7) #[tT, tT, tT, tT, tT, fF, fF, fF, fF, fF, fF] #[tT, tT, tT, fF, tT, tT, fF, fF, fF, fF, fF] rfl rfl rfl rfl (by kernel_rfl) (by decide) (by decide) (fun K hK => ?_) (fun K hK => ?_)
  · refine call_dies_ 21 #[.pointer (some ⟨b, 0, none⟩)] (by rfl) rfl (by
      unfold execOp
      simp [resolve, Deferred.ofValue, invoke, Act.eval, value_enters]) ?_
    refine (HIH.out g b o p _ _ ho hr hzd).mono ?_
    rintro e w4 ⟨hk4, he⟩
    exact ⟨_, he, rfl, rfl, ⟨(hdr.mono (by omega)).trans hk4.1, hk4.2.1, hk4.2.2⟩⟩
  · rw [if_pos (by rfl)]
    unfold Oper.wp
    go_simp
    have hb5 := (Below.refl w.heap.size w.drew).alloc (Nat.le_refl _) (.cells zCs.toArray 26)
    refine hK.out _ _ ⟨cellA cv3 _, cellA cp0 _⟩ fun hHeld => ?_
    clear hK K
    refine one_ (i := 3) (N := some 5) #[tT, tT, tT, tT, tT, tT, fF, fF, fF, fF, fF] rfl rfl (by kernel_rfl) (by decide) (fun K hK => ?_)
    refine call_dies_ 21 #[.pointer (some ⟨b, 0, none⟩)] (by rfl) rfl (by
      unfold execOp
      simp [resolve, Deferred.ofValue, invoke, Act.eval, value_enters]) ?_
    refine (HIH.out g b o p _ _ ho hr (hzd.keep hb5)).mono ?_
    rintro e w4 ⟨hk4, he⟩
    have hk0 : KeepR b w (w.drew.alloc (.cells zCs.toArray 26)) := KeepR.of_below (hdr.trans hb5) (by omega)
    exact ⟨_, he, rfl, rfl, hk0.trans hk4⟩
set_option maxRecDepth 100000 in
set_option maxHeartbeats 2000000 in
theorem arr1_ok (ts : List Tk) (len : Nat) (G : Obj) (f : Nat) (IH : ValC ts len G f) (base g b bv bp o p p1 : Nat) (v : V) (vl : Value) (acc : List V) (w : World) (ho : o ≤ 8) (hr : valP ts len f o p = some (.ok v p1)) (hz : Pz ts len G g b p o w)
    (hbase : base ≤ w.heap.size) (hgb : g < base) (hbb : b < base) (hbvb : bv < base) (hbpb : bp < base) (hnv : b ≠ bv) (hnp : b ≠ bp) (hgv : g ≠ bv) (hvp : bv ≠ bp) (hacc : acc.length ≤ 1000000)
    (hv : w.heap[bv]? = some (.cells #[.int .i64 5, .int .i64 0, .string ⟨#[]⟩, vl, .slice none 0 0] 26 (0, 0))) (hp : w.heap[bp]? = some (.cells #[.pointer (some ⟨b, 0, none⟩)] 49 (0, 0)))
    (hR : k26.R 26 w base (fun _ => True) vl acc) :
    Calls Tryz.prog 69 #[.pointer (some ⟨bv, 0, none⟩), .pointer (some ⟨bp, 0, none⟩)] w fun e w' => e = .returned (.tuple #[]) ∧ Kp base b bv w w' ∧ Pz ts len G g b p1 o w' ∧
      ∃ vl', w'.heap[bv]? = some (.cells #[.int .i64 5, .int .i64 0, .string ⟨#[]⟩, vl', .slice none 0 0] 26 (0, 0)) ∧ k26.R 26 w' base (fun _ => True) vl' (acc ++ [v]) := by
  obtain ⟨Av, cv, rfl⟩ := Kd.R_slice hR
  have cv3 : w.drew.cell? ⟨bv, 3, none⟩ = some (.slice Av acc.length cv) := blk_cell (w := w.drew) hv 3
  have cp0 : w.drew.cell? ⟨bp, 0, none⟩ = some (.pointer (some ⟨b, 0, none⟩)) := blk_cell (w := w.drew) hp 0
  have hdr : Below w.heap.size w w.drew := ⟨rfl, rfl, rfl, Nat.le_refl _, fun _ _ => rfl⟩
  have hzd := hz.keep hdr
  have HZ := Aside0.mk hz
  have HV := Aside0.mk hv
  have HP := Aside0.mk hp
  have HRR := Aside0.mk hR
  have HIH := Aside0.mk IH
  clear hz hv hp hR IH
  go_enter Tryz.func69, Tryz.ntmps69
  refine start_ (n := 11) (S := fun w' => w'.cell? ⟨bv, 3, none⟩ = some (.slice Av acc.length cv) ∧ w'.cell? ⟨bp, 0, none⟩ = some (.pointer (some ⟨b, 0, none⟩))) (ds := [6, 8, 10]) #[fF, fF, fF, fF, fF, fF, fF, fF, fF, fF, fF] (by kernel_rfl) rfl rfl ⟨cv3, cp0⟩ (fun hHeld => ?_)
  refine pure_ (i := 0) (N := some 2) (v := ?_) (a' := ?_) #[tT, fF, fF, fF, fF, fF, fF, fF, fF, fF, fF] rfl rfl (by kernel_rfl) (fun _ _ _ h => h) (Or.inl ⟨by rfl, ?_⟩) ?_ ?_
  rotate_left
  · intro w'
    go_simp
    with_reducible rfl
  rotate_left
  · simp only [Act.put, sA, sZ, sS, i64_w, i32_w]
    rfl
  refine take_ (i := 1) (N := some 3) (v := ?_) (a' := ?_) #[tT, tT, fF, fF, fF, fF, fF, fF, fF, fF, fF] rfl rfl (by kernel_rfl) (fun _ _ _ h => h) (Or.inl ⟨by rfl, ?_⟩) hHeld ?_ ?_
  rotate_left
  · rintro w' ⟨e1, e2⟩
    go_simp
    with_reducible rfl
  rotate_left
  · simp only [Act.put, sA, sZ, sS, i64_w, i32_w]
    rfl
  refine take_ (i := 2) (N := some 4) (v := ?_) (a' := ?_) #[tT, tT, tT, fF, fF, fF, fF, fF, fF, fF, fF] rfl rfl (by kernel_rfl) (fun _ _ _ h => h) (Or.inl ⟨by rfl, ?_⟩) hHeld ?_ ?_
  rotate_left
  · rintro w' ⟨e1, e2⟩
    go_simp
    with_reducible rfl
  rotate_left
  · simp only [Act.put, sA, sZ, sS, i64_w, i32_w]
    rfl
  refine pure_ (i := 4) (N := some 6) (v := ?_) (a' := ?_) #[tT, tT, tT, fF, tT, fF, fF, fF, fF, fF, fF] rfl rfl (by kernel_rfl) (fun _ _ _ h => h) (Or.inl ⟨by rfl, ?_⟩) ?_ ?_
  rotate_left
  · intro w'
    go_simp
    with_reducible rfl
  rotate_left
  · simp only [Act.put, sA, sZ, sS, i64_w, i32_w]
    rfl
  refine join_ (fuel' := 5) (l' := #[tT, tT, tT, tT, tT, tT, fF, fF, fF, fF, fF]) (ns := fun s : Value × Value × Nat => [(5, .agg #[.int .i64 v.f0, .int .i64 v.f1, .string v.f2, s.1, s.2.1]), (7, .slice (some ⟨s.2.2, 0, none⟩) 1 1)])
    (F := fun s w4 => KeepR b w w4 ∧ Pz ts len G g b p1 o w4 ∧ k26.R 26 w4 w.heap.size (fun _ => True) s.1 v.f3 ∧ Kd.string.R 9 w4 w.heap.size (fun _ => True) s.2.1 v.f4 ∧ w4.heap[s.2.2]? = some (.cells zCs.toArray 26 (0, 0))) ?_ ?_
  · rintro ⟨v3, v4, zb⟩ w4 ⟨hk4, hz4, hR3, hR4, hzb⟩
    have hzb0 := hzb
    have hzc : ∀ j u, zCs[j]? = some u → w4.cell? ((⟨zb, 0, none⟩ : Addr).add j) = some u := by
      intro j u hu
      rw [show (⟨zb, 0, none⟩ : Addr).add j = ⟨zb, j, none⟩ by unfold Addr.add; split <;> simp_all]
      exact (blk_cell hzb0 j).trans (by simpa using hu)
    have hRv := Kd.R_mono (Kd.R_step (Kd.R_bound HRR.out) (w1 := w4) fun k hk hk2 => hk4.2.2 k hk2 (by have := hk.2.1; omega)) (ok' := fun _ => True) (fun _ _ => trivial)
    have hzb' : w4.heap[zb]? = some (.cells zCs.toArray 26 (0, 0)) := hzb
    have hR3' : k26.R 26 w4 w.heap.size (fun _ => True) v3 v.f3 := hR3
    have hR4' : Kd.string.R 9 w4 w.heap.size (fun _ => True) v4 v.f4 := hR4
    clear hzb hR3 hR4
    have hsz4 := hk4.2.1
    refine norm_ (a' := ?_) ?_ ?_
    rotate_left
    · simp only [putAll, Act.put, sA, sZ, sS, i64_w, i32_w]
      rfl
    have hRvb := hRv
    obtain ⟨_, inner, hown4, hreps⟩ := hRvb
    refine last_ (i := 6) (N := some 8) #[tT, tT, tT, tT, tT, tT, tT, fF, fF, fF, fF] rfl rfl (by kernel_rfl) (by decide) (fun K hK => ?_)
    refine step_append_any base (by rfl) (.tmp 3) (.tmp 7) 23 26 (.agg #[.int .i64 0, .int .i64 0, .string ⟨#[]⟩, .slice none 0 0, .slice none 0 0]) 5 80 rfl Tryz.underlying23 infoVal rfl (by decide) (by decide) (.slice Av acc.length cv) acc.length inner zCs ⟨zb, 0, none⟩ rfl rfl rfl hzc (by unfold zCs; simp [Value.oneCell']) hown4 (by omega) (by omega) ?_
    intro v1 w5 hown5 hg5 hat5
    refine hK.out _ _ ?_
    clear hK K
    obtain ⟨g5, c5, rfl, hg5b⟩ : ∃ g5 c5, v1 = .slice (some ⟨g5, 0, none⟩) (acc.length + 1) c5 ∧ base ≤ g5 := by
      rcases hown5.2 with ⟨_, h⟩ | ⟨g', cap, cur, h, h', _⟩
      · omega
      · exact ⟨g', cap, h, h'⟩
    refine norm_ (a' := ?_) ?_ ?_
    rotate_left
    · show Act.put _ (some 8) _ = _
      simp only [Act.put, sA, sZ, sS, i64_w, i32_w]
      rfl
    obtain ⟨A3, c3, rfl⟩ := Kd.R_slice hR3'
    obtain ⟨A4, c4, rfl⟩ := Kd.R_slice hR4'
    have hlt : acc.length < acc.length + 1 := Nat.lt_succ_self _
    have hlt' : (acc.length : Int) < (acc.length : Int) + 1 := by omega
    refine pure_ (i := 7) (N := some 9) (v := ?_) (a' := ?_) #[tT, tT, tT, tT, tT, tT, tT, tT, fF, fF, fF] rfl rfl (by kernel_rfl) (fun _ _ _ h => h) (Or.inl ⟨by rfl, ?_⟩) ?_ ?_
    rotate_left
    · intro w'
      go_simp
      with_reducible rfl
    rotate_left
    · simp only [Act.put, sA, sZ, sS, i64_w, i32_w]
      rfl
    refine pure_ (i := 9) (N := some 10) (v := ?_) (a' := ?_) #[tT, tT, tT, tT, tT, tT, tT, tT, fF, tT, fF] rfl rfl (by kernel_rfl) (fun _ _ _ h => h) (Or.inl ⟨by rfl, ?_⟩) ?_ ?_
    rotate_left
    · intro w'
      go_simp
      with_reducible rfl
    rotate_left
    · simp only [Act.put, sA, sZ, sS, i64_w, i32_w]
      rfl
    obtain ⟨hgc5, hfz5⟩ : (∀ j u, (inner ++ zCs)[j]? = some u → w5.cell? ⟨g5, j, none⟩ = some u) ∧ (∀ j, w5.frozen? ⟨g5, j, none⟩ = false) := by
      rcases hown5.2 with ⟨h, _⟩ | ⟨g', cap, cur, h, h', hh, r1, r2, r3, r4⟩
      · cases h
      · injection h with e1 e2 e3
        injection e1 with e1
        injection e1 with e1
        subst e1
        refine ⟨fun j u hu => (blk_cell hh j).trans ?_, blk_frozen hh⟩
        rw [← r4, List.getElem?_take] at hu
        split at hu
        · simpa using hu
        · cases hu
    have hil : inner.length = acc.length * 5 := hown4.1
    have z0 : w5.cell? ⟨g5, acc.length * 5, none⟩ = some (.int .i64 0) := hgc5 _ _ (by rw [← hil, List.getElem?_append_right (by omega)]; simp [zCs])
    have z1 : w5.cell? ⟨g5, acc.length * 5 + 1, none⟩ = some (.int .i64 0) := hgc5 _ _ (by rw [← hil, List.getElem?_append_right (by omega)]; simp [zCs])
    have z2 : w5.cell? ⟨g5, acc.length * 5 + 2, none⟩ = some (.string ⟨#[]⟩) := hgc5 _ _ (by rw [← hil, List.getElem?_append_right (by omega)]; simp [zCs])
    have z3 : w5.cell? ⟨g5, acc.length * 5 + 3, none⟩ = some (.slice none 0 0) := hgc5 _ _ (by rw [← hil, List.getElem?_append_right (by omega)]; simp [zCs])
    have z4 : w5.cell? ⟨g5, acc.length * 5 + 4, none⟩ = some (.slice none 0 0) := hgc5 _ _ (by rw [← hil, List.getElem?_append_right (by omega)]; simp [zCs])
    have hbv5 : w5.heap[bv]? = _ := (hg5.block bv (by omega) (fun e => by have := own_base hown4 bv e.symm; omega)).trans ((hk4.2.2 bv (by omega) (by omega)).trans HV.out)
    have bv3 : w5.cell? ⟨bv, 3, none⟩ = some (.slice Av acc.length cv) := blk_cell hbv5 3
    have bvf : ∀ j, w5.frozen? ⟨bv, j, none⟩ = false := blk_frozen hbv5
    have hgbv : g5 ≠ bv := by omega
    have hgbv' : bv ≠ g5 := by omega
    refine two_last_ (i := 8) (j := 10) (Ni := none) (Nj := none) #[tT, tT, tT, tT, tT, tT, tT, tT, tT, tT, fF] #[tT, tT, tT, tT, tT, tT, tT, tT, fF, tT, tT] rfl rfl rfl rfl (by kernel_rfl) (by decide) (by decide) (fun K hK => ?_) (fun K hK => ?_)
    · rw [if_pos (by rfl)]
      unfold Oper.wp
      go_simp
      refine hK.out _ _ ?_
      clear hK K
      refine last_ (i := 10) (N := none) #[tT, tT, tT, tT, tT, tT, tT, tT, tT, tT, tT] rfl rfl (by kernel_rfl) (by decide) (fun K hK => ?_)
      rw [if_pos (by rfl)]
      unfold Oper.wp
      go_simp
      refine hK.out _ _ ?_
      clear hK K
      refine done_ (by kernel_rfl) ?_
      refine bodyPost_end (results_none rfl _ _ _) rfl ?_
      have hpf : (put5 w5 g5 (acc.length * 5) (.int .i64 v.f0) (.int .i64 v.f1) (.string v.f2) (.slice A3 v.f3.length c3) (.slice A4 v.f4.length c4)).heap[bv]? = _ := (put5_far hgbv' _ _ _ _ _).trans hbv5
      obtain ⟨h1, h2, h3, _⟩ := arr_fin (ok := fun _ => True) (h0 := fun _ _ => trivial) (hfresh := fun _ _ => trivial) (wf := (put5 w5 g5 (acc.length * 5) (.int .i64 v.f0) (.int .i64 v.f1) (.string v.f2) (.slice A3 v.f3.length c3) (.slice A4 v.f4.length c4)).setCell ⟨bv, 3, none⟩ (.slice (some ⟨g5, 0, none⟩) (acc.length + 1) c5)) hbase hgb hbb hnv hgv hbvb (fun k hk => by
          obtain ⟨_, hi, ho', _⟩ := HRR.out
          exact ⟨own_base ho' k hk, own_lt ho' k hk⟩) hk4 hz4 hR3' hR4' hreps hil hown5 hg5 hg5b hat5 ((put5_same _ _ _ _ _ _ _ _).setCell (p := ⟨bv, 3, none⟩) (Nat.zero_le _) _) (fun k hk => far_set _ _ _ _ _ hk)
      exact ⟨rfl, h1, h2, _, blk_put hpf 3 _ rfl, h3⟩
    · rw [if_pos (by rfl)]
      unfold Oper.wp
      go_simp
      refine hK.out _ _ ?_
      clear hK K
      refine last_ (i := 8) (N := none) #[tT, tT, tT, tT, tT, tT, tT, tT, tT, tT, tT] rfl rfl (by kernel_rfl) (by decide) (fun K hK => ?_)
      rw [if_pos (by rfl)]
      unfold Oper.wp
      go_simp
      refine hK.out _ _ ?_
      clear hK K
      refine done_ (by kernel_rfl) ?_
      refine bodyPost_end (results_none rfl _ _ _) rfl ?_
      obtain ⟨h1, h2, h3, _⟩ := arr_fin (ok := fun _ => True) (h0 := fun _ _ => trivial) (hfresh := fun _ _ => trivial) (wf := put5 (w5.setCell ⟨bv, 3, none⟩ (.slice (some ⟨g5, 0, none⟩) (acc.length + 1) c5)) g5 (acc.length * 5) (.int .i64 v.f0) (.int .i64 v.f1) (.string v.f2) (.slice A3 v.f3.length c3) (.slice A4 v.f4.length c4)) hbase hgb hbb hnv hgv hbvb (fun k hk => by
          obtain ⟨_, hi, ho', _⟩ := HRR.out
          exact ⟨own_base ho' k hk, own_lt ho' k hk⟩) hk4 hz4 hR3' hR4' hreps hil hown5 hg5 hg5b hat5 (((Below.refl 0 w5).setCell (p := ⟨bv, 3, none⟩) (Nat.zero_le _) _).trans (put5_same _ _ _ _ _ _ _ _)) (fun k hk => put5_comm hk _ _ _ _ _)
      exact ⟨rfl, h1, h2, _, (put5_far hgbv' _ _ _ _ _).trans (blk_put hbv5 3 _ rfl), h3⟩
  · intro tail
    refine two_ (i := 3) (j := 5) (Ni := some 5) (Nj := some 7) #[tT, tT, tT, tT, tT, fF, fF, fF, fF, fF, fF] #[tT, tT, tT, fF, tT, tT, fF, fF, fF, fF, fF] rfl rfl rfl rfl (by kernel_rfl) (by decide) (by decide) (fun K hK => ?_) (fun K hK => ?_)
    · refine call_ 21 #[.pointer (some ⟨b, 0, none⟩)] (by rfl) rfl (by
        unfold execOp
        simp [resolve, Deferred.ofValue, invoke, Act.eval, value_enters]) ?_
      refine (HIH.out g b o p _ _ ho hr hzd).mono ?_
      rintro e w4 ⟨hk4, ⟨v3, v4, he, hR3, hR4⟩, hz4⟩
      refine ⟨_, he, ?_⟩
      have hk4' : KeepR b w w4 := ⟨(hdr.mono (by omega)).trans hk4.1, hk4.2.1, hk4.2.2⟩
      refine hK.out _ _ ⟨blk_cell ((hk4'.2.2 bv (by omega) (by omega)).trans HV.out) 3, blk_cell ((hk4'.2.2 bp (by omega) (by omega)).trans HP.out) 0⟩ (fun hHeld => ?_)
      clear hK K
      refine norm_ (a' := ?_) ?_ ?_
      rotate_left
      · show Act.put _ (some 5) _ = _
        simp only [Act.put, sA, sZ, sS, i64_w, i32_w]
        rfl
      refine one_ (i := 5) (N := some 7) #[tT, tT, tT, tT, tT, tT, fF, fF, fF, fF, fF] rfl rfl (by kernel_rfl) (by decide) (fun K hK => ?_)
      rw [if_pos (by rfl)]
      unfold Oper.wp
      go_simp
      have hb5 := (Below.refl w4.heap.size w4).alloc (Nat.le_refl _) (.cells zCs.toArray 26)
      refine hK.out _ _ ⟨cellA hHeld.1 _, cellA hHeld.2 _⟩ fun hHeld => ?_
      clear hK K
      exact tail (v3, v4, w4.heap.size) _ ⟨hk4'.alloc (by omega) _, hz4.keep hb5, Kd.R_below hR3 hb5, Kd.R_below hR4 hb5, blk_new w4 _⟩
    · rw [if_pos (by rfl)]
      unfold Oper.wp
      go_simp
      have hb5 := (Below.refl w.heap.size w.drew).alloc (Nat.le_refl _) (.cells zCs.toArray 26)
      refine hK.out _ _ ⟨cellA cv3 _, cellA cp0 _⟩ fun hHeld => ?_
      clear hK K
      refine one_ (i := 3) (N := some 5) #[tT, tT, tT, tT, tT, tT, fF, fF, fF, fF, fF] rfl rfl (by kernel_rfl) (by decide) (fun K hK => ?_)
      refine call_ 21 #[.pointer (some ⟨b, 0, none⟩)] (by rfl) rfl (by
        unfold execOp
        simp [resolve, Deferred.ofValue, invoke, Act.eval, value_enters]) ?_
      refine (HIH.out g b o p _ _ ho hr (hzd.keep hb5)).mono ?_
      rintro e w4 ⟨hk4, ⟨v3, v4, he, hR3, hR4⟩, hz4⟩
      refine ⟨_, he, ?_⟩
      have hk0 : KeepR b w (w.drew.alloc (.cells zCs.toArray 26)) := KeepR.of_below (hdr.trans hb5) (by omega)
      have hk4' : KeepR b w w4 := hk0.trans hk4
      refine hK.out _ _ ⟨blk_cell ((hk4'.2.2 bv (by omega) (by omega)).trans HV.out) 3, blk_cell ((hk4'.2.2 bp (by omega) (by omega)).trans HP.out) 0⟩ (fun hHeld => ?_)
      clear hK K
      exact tail (v3, v4, w.heap.size) _ ⟨hk4', hz4, Kd.R_lower hR3 hk0.2.1, Kd.R_lower hR4 hk0.2.1, (hk4.2.2 w.heap.size (by simp) (by omega)).trans (blk_new w.drew _)⟩
end Go.Proofs.YtegppkngdkkdcaaGreatDoor.Tr
end
section
namespace Go.Proofs.YtegppkngdkkdcaaGreatDoor.PC
open Go.RowKit Go.Proofs.YtegppkngdkkdcaaGreatDoorW.PrintWords Go.Proofs.YtegppkngdkkdcaaGreatDoorW.PrintLast Go.Proofs.YtegppkngdkkdcaaGreatDoorW.PrintMore
attribute [local go_sem] max2_int min2_int max_two min_two max_three min_three max_four min_four   -- for this text's walks alone
set_option linter.unusedVariables false
set_option linter.unusedSimpArgs false
def errW : Option Int → Value
  | none => .nilIface
  | some c => .iface 0 (.int .i64 c)
theorem errW_none : errW none = .nilIface := rfl
theorem errW_some (c : Int) : errW (some c) = .iface 0 (.int .i64 c) := rfl
end Go.Proofs.YtegppkngdkkdcaaGreatDoor.PC
end
section
namespace Go.Proofs.YtegppkngdkkdcaaGreatDoor.PC
open Go.RowKit Go.Proofs.YtegppkngdkkdcaaGreatDoorW.PrintWords Go.Proofs.YtegppkngdkkdcaaGreatDoorW.PrintLast Go.Proofs.YtegppkngdkkdcaaGreatDoorW.PrintMore
attribute [local go_sem] max2_int min2_int max_two min_two max_three min_three max_four min_four   -- for this text's walks alone
set_option linter.unusedVariables false
set_option linter.unusedSimpArgs false
def slices_Index_string_string.l0 : Nat → List ByteArray → ByteArray → Int → Int → Option (Int)
  | 0, _, _, _, _ => none
  | k + 1, x0, x1, x7, x8 => if x8 < x7 then (if 0 ≤ x8 then (if x8 < (x0.length : Int) then (if x1.toList = (rdOf ByteArray.empty x0 x8).toList then (some x8) else (slices_Index_string_string.l0 k x0 x1 x7 (wrap64 (x8 + 1)))) else (none)) else (none)) else (some (-1))
def slices_Index_string_string.f (k : Nat) (l0 : List ByteArray) (a1 : ByteArray) : Option (Int) := slices_Index_string_string.l0 k l0 a1 (l0.length : Int) 0
theorem slices_Index_string_string.mono_l : ∀ k, (∀ y0 y1 y2 y3, LeO (slices_Index_string_string.l0 k y0 y1 y2 y3) (slices_Index_string_string.l0 (k + 1) y0 y1 y2 y3))
  | 0 => fun _ _ _ _ r h => by simp [slices_Index_string_string.l0] at h
  | k + 1 => by
    have ih0 := slices_Index_string_string.mono_l k
    · intro y0 y1 y2 y3
      unfold slices_Index_string_string.l0
      repeat' first
      | (with_reducible exact ih0 _ _ _ _)
      | (with_reducible exact LeO.refl _)
      | (with_reducible exact LeO.none _)
      | (with_reducible refine LeO.ite ?_ ?_)
      | (with_reducible refine LeO.bind ?_ (fun _ => ?_))
      | exact ih0 _ _ _ _
      | exact LeO.none _
      | refine LeO.ite ?_ ?_
      | refine LeO.bind ?_ (fun _ => ?_)
theorem slices_Index_string_string.mono : ∀ a0 a1 k, LeO (slices_Index_string_string.f k a0 a1) (slices_Index_string_string.f (k + 1) a0 a1) := by
  intro a0 a1 k
  have ih0 := slices_Index_string_string.mono_l k
  unfold slices_Index_string_string.f
  repeat' first
      | (with_reducible exact ih0 _ _ _ _)
      | (with_reducible exact LeO.refl _)
      | (with_reducible exact LeO.none _)
      | (with_reducible refine LeO.ite ?_ ?_)
      | (with_reducible refine LeO.bind ?_ (fun _ => ?_))
      | exact ih0 _ _ _ _
      | exact LeO.none _
      | refine LeO.ite ?_ ?_
      | refine LeO.bind ?_ (fun _ => ?_)
set_option maxHeartbeats 8000000 in
set_option maxRecDepth 100000 in
theorem slices_Index_string_string.calls (k : Nat) (A0 : Option Addr) (c0 : Nat) (l0 : List ByteArray) (a1 : ByteArray) (r : Int) (w : World) (hr0 : Kd.C Kd.string w A0 l0.length l0) (hc0 : l0.length ≤ c0) (h : slices_Index_string_string.f k l0 a1 = some r) :
    Calls Tryz.prog 29 #[.slice A0 l0.length c0, .string a1] w fun e w' => e = .returned (.int .i64 r) ∧ Drawn0 w w' := by
  have HR0 := Aside0.mk hr0
  have HC0 := Aside0.mk hc0
  clear hr0 hc0
  have H : (slices_Index_string_string.l0 k l0 a1 (l0.length : Int) 0) = some r := h
  clear h
  have H' := Aside0.mk H
  clear H
  go_enter Tryz.func29, Tryz.ntmps29
  go_wp2
  go_loopg [8] k (fun kq v8 w' => ∃ (x8_1 : Int), v8 = .int .i64 x8_1 ∧ Aside0 (slices_Index_string_string.l0 kq l0 a1 (l0.length : Int) x8_1 = some r) ∧ Aside0 (kq ≤ k) ∧ Drawn0 w w')
  case atStart => exact ⟨(0), (by first | rfl | (simp; done) | (simp [*]; done)), H', ⟨Nat.le_refl _⟩, by repeat (first | exact Drawn0.refl _ | apply Drawn0.step)⟩
  case round =>
    clear H'
    try clear c2
    try clear p2
    obtain ⟨x8_1, rfl, HA, HK1, ⟨m1, rfl⟩⟩ := hrel
    cases gk with
    | zero => exact absurd HA.out (by simp [slices_Index_string_string.l0])
    | succ k1 =>
      have H := HA.out
      clear HA
      simp only [slices_Index_string_string.l0] at H
      by_cases c3 : x8_1 < (l0.length : Int)
      · rw [if_pos c3] at H
        have c3b0 : decide (x8_1 < (l0.length : Int)) = true := decide_eq_true c3
        clear c3
        by_cases c4 : 0 ≤ x8_1
        · rw [if_pos c4] at H
          have c4b0 : decide (0 ≤ x8_1) = true := decide_eq_true c4
          clear c4
          by_cases c5 : x8_1 < (l0.length : Int)
          · rw [if_pos c5] at H
            have c5b0 : decide (x8_1 < (l0.length : Int)) = true := decide_eq_true c5
            clear c5
            by_cases c6 : a1.toList = (rdOf ByteArray.empty l0 x8_1).toList
            · rw [if_pos c6] at H
              have c6b0 : (a1.toList == (rdOf ByteArray.empty l0 x8_1).toList) = true := beq_iff_eq.mpr c6
              have c6b1 : (a1.toList != (rdOf ByteArray.empty l0 x8_1).toList) = false := bne_eq_false_iff_eq.mpr c6
              clear c6
              obtain rfl := Option.some.inj H
              have p101 : 0 ≤ (x8_1 : Int) := of_decide_eq_true (by first | (with_reducible assumption) | assumption)
              have q101 : x8_1 < (l0.length : Int) := of_decide_eq_true (by first | (with_reducible assumption) | assumption)
              obtain ⟨ad101, e101, hx101_0⟩ := Kd.at_string HR0.out x8_1 p101 q101
              cases e101
              replace p101 := eq_true p101
              replace q101 := eq_true q101
              go_wp2
              go_ret
              exact ⟨by first | rfl | (simp; done) | (simp [*]; done), by repeat (first | exact Drawn0.refl _ | apply Drawn0.step)⟩
            · rw [if_neg c6] at H
              have c6b0 : (a1.toList == (rdOf ByteArray.empty l0 x8_1).toList) = false := beq_eq_false_iff_ne.mpr c6
              have c6b1 : (a1.toList != (rdOf ByteArray.empty l0 x8_1).toList) = true := bne_iff_ne.mpr c6
              have H' := Aside0.mk H
              clear H
              have p101 : 0 ≤ (x8_1 : Int) := of_decide_eq_true (by first | (with_reducible assumption) | assumption)
              have q101 : x8_1 < (l0.length : Int) := of_decide_eq_true (by first | (with_reducible assumption) | assumption)
              obtain ⟨ad101, e101, hx101_0⟩ := Kd.at_string HR0.out x8_1 p101 q101
              cases e101
              replace p101 := eq_true p101
              replace q101 := eq_true q101
              go_wp2
              go_roundg k1
              case measure => have := HK1.out; omega
              case rel => exact ⟨(wrap64 (x8_1 + 1)), (by first | rfl | (simp; done) | (simp [*]; done)), H', ⟨by have := HK1.out; omega⟩, by repeat (first | exact Drawn0.refl _ | apply Drawn0.step)⟩
          · rw [if_neg c5] at H
            exact absurd H (by simp)
        · rw [if_neg c4] at H
          exact absurd H (by simp)
      · rw [if_neg c3] at H
        have c3b0 : decide (x8_1 < (l0.length : Int)) = false := decide_eq_false c3
        clear c3
        obtain rfl := Option.some.inj H
        go_wp2
        go_ret
        exact ⟨by first | rfl | (simp; done) | (simp [*]; done), by repeat (first | exact Drawn0.refl _ | apply Drawn0.step)⟩
def slices_Contains_string_string.f (k : Nat) (l0 : List ByteArray) (a1 : ByteArray) : Option (Bool) := (slices_Index_string_string.f k l0 a1).bind fun t102 => (some (decide (t102 ≥ 0)))
theorem slices_Contains_string_string.mono : ∀ a0 a1 k, LeO (slices_Contains_string_string.f k a0 a1) (slices_Contains_string_string.f (k + 1) a0 a1) := by
  intro a0 a1 k
  unfold slices_Contains_string_string.f
  repeat' first
      | (with_reducible exact slices_Index_string_string.mono _ _ _)
      | (with_reducible exact LeO.refl _)
      | (with_reducible exact LeO.none _)
      | (with_reducible refine LeO.ite ?_ ?_)
      | (with_reducible refine LeO.bind ?_ (fun _ => ?_))
      | exact slices_Index_string_string.mono _ _ _
      | exact LeO.none _
      | refine LeO.ite ?_ ?_
      | refine LeO.bind ?_ (fun _ => ?_)
set_option maxHeartbeats 8000000 in
set_option maxRecDepth 100000 in
theorem slices_Contains_string_string.calls (k : Nat) (A0 : Option Addr) (c0 : Nat) (l0 : List ByteArray) (a1 : ByteArray) (r : Bool) (w : World) (hr0 : Kd.C Kd.string w A0 l0.length l0) (hc0 : l0.length ≤ c0) (h : slices_Contains_string_string.f k l0 a1 = some r) :
    Calls Tryz.prog 71 #[.slice A0 l0.length c0, .string a1] w fun e w' => e = .returned (.bool r) ∧ Drawn0 w w' := by
  have HR0 := Aside0.mk hr0
  have HC0 := Aside0.mk hc0
  clear hr0 hc0
  have H : ((slices_Index_string_string.f k l0 a1).bind fun t102 => (some (decide (t102 ≥ 0)))) = some r := h
  clear h
  replace H := Option.bind_eq_some_iff.mp H
  obtain ⟨t102, A30, H⟩ := H
  replace H : (some (decide (t102 ≥ 0))) = some r := H
  have A3 := Aside0.mk A30
  clear A30
  obtain rfl := Option.some.inj H
  go_enter Tryz.func71, Tryz.ntmps71
  go_wp2_with (first | ((with_reducible refine gate_callee (f := 29) rfl ?_); refine goesL_ (some 7) rfl rfl Tryz.func29 (by kernel_rfl) rfl #[.slice A0 l0.length c0, .string a1] rfl (by (try simp only [List.map_toArray, List.map_cons, List.map_nil]); first | done | rfl | (simp only [List.length_drop, List.length_take]; rfl)) ?_; (with_reducible refine (slices_Index_string_string.calls k _ _ l0 a1 t102 _ ?side1 ?side2 A3.out).mono ?_); (case side1 => repeat (first | exact HR0.out | (with_reducible refine Kd.C_alloc ?_ _) | (with_reducible refine Kd.C_drewN ?_ _) | (with_reducible refine Kd.C_drew ?_))); (case side2 => exact HC0.out); rintro e w' ⟨rfl, ⟨nd, rfl⟩⟩; refine ⟨_, rfl, ?_⟩))
  go_ret
  exact ⟨by first | rfl | (simp; done) | (simp [*]; done), by repeat (first | exact Drawn0.refl _ | apply Drawn0.step)⟩
end Go.Proofs.YtegppkngdkkdcaaGreatDoor.PC
end
section
set_option linter.unusedVariables false
set_option linter.unusedSimpArgs false
namespace Go.Proofs.YtegppkngdkkdcaaGreatDoor.Tr
open Go.RowKit Go.Proofs.YtegppkngdkkdcaaGreatDoorW.PrintWords Go.Proofs.YtegppkngdkkdcaaGreatDoorW.PrintLast Go.Proofs.YtegppkngdkkdcaaGreatDoorW.PrintMore
open Go.Proofs.YtegppkngdkkdcaaGreatDoor.Lx Go.Proofs.YtegppkngdkkdcaaGreatDoor.PS
attribute [local go_sem high] fld0 fld1 fld2 fld3
theorem toList_data (a : ByteArray) : a.toList = a.data.toList := Lib.toList_data a
theorem idx_all (x : ByteArray) (nm : List ByteArray) (hl : nm.length ≤ 1000000) : ∀ (d j k : Nat), j + d = nm.length → d + 1 ≤ k → ∃ r : Int, PC.slices_Index_string_string.l0 k nm x (nm.length : Int) (j : Int) = some r ∧ (r ≥ 0 ↔ ∃ i, ∃ h : i < nm.length, j ≤ i ∧ nm[i].toList = x.toList)
  | 0, j, k, hj, hk => by
    obtain ⟨k, rfl⟩ : ∃ k', k = k' + 1 := ⟨k - 1, by omega⟩
    refine ⟨-1, ?_, ?_⟩
    · simp only [PC.slices_Index_string_string.l0]
      rw [if_neg (by omega)]
    · refine ⟨fun h => by omega, fun ⟨i, h, h1, _⟩ => by omega⟩
  | d + 1, j, k, hj, hk => by
    obtain ⟨k, rfl⟩ : ∃ k', k = k' + 1 := ⟨k - 1, by omega⟩
    have hlt : j < nm.length := by omega
    simp only [PC.slices_Index_string_string.l0]
    rw [if_pos (by omega), if_pos (by omega), if_pos (by omega)]
    have hrd : rdOf ByteArray.empty nm (j : Int) = nm[j] := by simp [rdOf, List.getD, List.getElem?_eq_getElem hlt]
    rw [hrd]
    by_cases he : x.toList = nm[j].toList
    · rw [if_pos he]
      exact ⟨j, rfl, fun _ => ⟨j, hlt, Nat.le_refl _, he.symm⟩, fun _ => by omega⟩
    · rw [if_neg he]
      obtain ⟨r, h1, h2⟩ := idx_all x nm hl d (j + 1) k (by omega) (by omega)
      have hw : wrap64 ((j : Int) + 1) = ((j + 1 : Nat) : Int) := by
        unfold wrap64
        omega
      rw [hw]
      refine ⟨r, h1, h2.trans ⟨fun ⟨i, h, h3, h4⟩ => ⟨i, h, by omega, h4⟩, fun ⟨i, h, h3, h4⟩ => ⟨i, h, ?_, h4⟩⟩⟩
      rcases Nat.lt_or_ge j i with h5 | h5
      · omega
      · obtain rfl : i = j := by omega
        exact absurd h4.symm he
theorem contains_all (t : List UInt8) (nm : List ByteArray) (hl : nm.length ≤ 1000000) : PC.slices_Contains_string_string.f (nm.length + 1) nm ⟨t.toArray⟩ = some (hasN t nm) := by
  obtain ⟨r, h1, h2⟩ := idx_all ⟨t.toArray⟩ nm hl nm.length 0 (nm.length + 1) (by omega) (by omega)
  unfold PC.slices_Contains_string_string.f PC.slices_Index_string_string.f
  rw [show ((0 : Nat) : Int) = 0 from rfl] at h1
  rw [h1]
  simp only [Option.bind_some, Option.some.injEq]
  rw [Bool.eq_iff_iff, decide_eq_true_iff, h2]
  unfold hasN
  rw [List.any_eq_true]
  constructor
  · rintro ⟨i, h, _, h4⟩
    refine ⟨nm[i], List.getElem_mem h, ?_⟩
    rw [toList_data, toList_data] at h4
    simpa using h4
  · rintro ⟨y, hy, h4⟩
    obtain ⟨i, h, rfl⟩ := List.getElem_of_mem hy
    refine ⟨i, h, Nat.zero_le _, ?_⟩
    rw [toList_data, toList_data]
    simpa using h4
def nmStep (ts : List Tk) (len f o p : Nat) (nm : List ByteArray) : Option PRes :=
  if (tokAt ts len p).kind ≠ 7 then some (.bad 20 (tokAt ts len p).pos)
  else if hasN (tokAt ts len p).text nm = true then some (.bad 3 (tokAt ts len p).pos)
  else if (tokAt ts len (p + 1)).kind ≠ 5 then some (.bad 20 (tokAt ts len (p + 1)).pos) else valP ts len f o (p + 2)
structure Lay (base g b bv bp : Nat) : Prop where
  lg : g < base
  lb : b < base
  lv : bv < base
  lp : bp < base
  nv : b ≠ bv
  np : b ≠ bp
  gv : g ≠ bv
  vp : bv ≠ bp
structure Mz (ts : List Tk) (len : Nat) (G : Obj) (base g b bv bp p o : Nat) (acc : List V) (nm : List ByteArray) (vl nl : Value) (w : World) : Prop where
  pz : Pz ts len G g b p o w
  hv : w.heap[bv]? = some (.cells #[.int .i64 6, .int .i64 0, .string ⟨#[]⟩, vl, nl] 26 (0, 0))
  hp : w.heap[bp]? = some (.cells #[.pointer (some ⟨b, 0, none⟩)] 49 (0, 0))
  rv : k26.R 26 w base (fun k => some k ≠ nl.ownBlock) vl acc
  rn : Kd.string.R 9 w base (fun _ => True) nl nm
  sz : base ≤ w.heap.size
theorem Mz.keep {ts : List Tk} {len : Nat} {G : Obj} {base g b bv bp p p' o : Nat} {acc : List V} {nm : List ByteArray} {vl nl : Value} {w w' : World} (h : Mz ts len G base g b bv bp p o acc nm vl nl w) (hL : Lay base g b bv bp) (hk : KeepR b w w') (hz : Pz ts len G g b p' o w') : Mz ts len G base g b bv bp p' o acc nm vl nl w' := by
  have hs := hk.2.1
  have := h.sz
  exact ⟨hz, (hk.2.2 bv (by have := hL.lv; omega) (fun e => hL.nv e.symm)).trans h.hv, (hk.2.2 bp (by have := hL.lp; omega) (fun e => hL.np e.symm)).trans h.hp, Kd.R_mono (Kd.R_step (Kd.R_bound h.rv) fun k hk1 hk2 => hk.2.2 k hk2 (by have := hk1.2.1; have := hL.lb; omega)) (fun _ hk => hk.1),
    Kd.R_mono (Kd.R_step (Kd.R_bound h.rn) fun k hk1 hk2 => hk.2.2 k hk2 (by have := hk1.2.1; have := hL.lb; omega)) (fun _ _ => trivial), by omega⟩
theorem Mz.below {ts : List Tk} {len : Nat} {G : Obj} {base g b bv bp p o : Nat} {acc : List V} {nm : List ByteArray} {vl nl : Value} {w w' : World} (h : Mz ts len G base g b bv bp p o acc nm vl nl w) (hL : Lay base g b bv bp) (hb : Below w.heap.size w w') : Mz ts len G base g b bv bp p o acc nm vl nl w' :=
  h.keep hL (KeepR.of_below hb (by have := hL.lb; have := h.sz; omega)) (h.pz.keep hb)
def NQ (ts : List Tk) (len : Nat) (G : Obj) (base g b bv bp o : Nat) (acc : List V) (nm : List ByteArray) (t : List UInt8) (r : PRes) (w : World) (e : Ending) (w' : World) : Prop := Kp base b bv w w' ∧ match r with
  | .ok v p1 => e = .returned (.tuple #[]) ∧ ∃ vl nl, Mz ts len G base g b bv bp p1 o (acc ++ [v]) (nm ++ [toB t]) vl nl w'
  | .bad c a => e = .panicked [{ v := wrongV c a, recovered := false }]
theorem infoStr : (Tryz.prog.info? 9).map (fun i => (i.zero, i.size, i.bytes)) = some (some (.string ⟨#[]⟩), 1, 16) := by kernel_rfl
theorem nam_mid {ts : List Tk} {len : Nat} {G : Obj} {base g b bv bp p o : Nat} {acc : List V} {nm : List ByteArray} {vl nl v1 : Value} {x : ByteArray} {inner : List Value} {ob : Obj} {w4 w5 : World}
    (hL : Lay base g b bv bp) (h4 : Mz ts len G base g b bv bp p o acc nm vl nl w4) (hlt : ∀ k, nl.ownBlock = some k → base ≤ k) (hw : w5.ownsRow base 9 1 v1 (nm.length + 1) (inner ++ [.string x])) (hg5 : (w4.alloc ob).grownBy w5 nl.ownBlock)
    (hat5 : v1.ownBlock = nl.ownBlock ∨ ∃ b', v1.ownBlock = some b' ∧ (w4.alloc ob).heap.size ≤ b') (hreps : Reps (Kd.string.M (w4.alloc ob) base fun k => True ∧ some k ≠ nl.ownBlock) 1 nm inner) :
    Mz ts len G base g b bv bp p o acc (nm ++ [x]) vl v1 (w5.setCell ⟨bv, 4, none⟩ v1) ∧ Kp base b bv w4 (w5.setCell ⟨bv, 4, none⟩ v1) := by
  have hba := (Below.refl w4.heap.size w4).alloc (Nat.le_refl _) ob
  have hs1 : w4.heap.size < (w4.alloc ob).heap.size := by simp
  have hs5 := hg5.size
  have hsz := h4.sz
  have hs0 : (w5.setCell ⟨bv, 4, none⟩ v1).heap.size = w5.heap.size := by simp [World.setCell]
  have far0 : ∀ k, k < w4.heap.size → some k ≠ nl.ownBlock → w5.heap[k]? = w4.heap[k]? := fun k h1 h2 => (hg5.block k (by omega) h2).trans (hba.block k h1)
  have farb : ∀ k, k < base → w5.heap[k]? = w4.heap[k]? := fun k h1 => far0 k (by omega) (fun e => by have := hlt k e.symm; omega)
  have hlv := hL.lv
  have hv5 := (farb bv hL.lv).trans h4.hv
  refine ⟨⟨h4.pz.move ((far_set _ _ _ _ _ hL.nv).trans (farb b hL.lb)) ((far_set _ _ _ _ _ hL.gv).trans (farb g hL.lg)), blk_put hv5 4 _ rfl, (far_set _ _ _ _ _ (fun e => hL.vp e.symm)).trans ((farb bp hL.lp).trans h4.hp), ?_, ?_, by rw [hs0]; omega⟩,
    ⟨hg5.os, hg5.tape, hg5.output, by rw [hs0]; omega, fun k h1 h2 h3 => (far_set _ _ _ _ _ h3).trans (farb k h1)⟩⟩
  · refine Kd.R_mono (Kd.R_step (Kd.R_bound h4.rv) fun k hk hk2 => (far_set _ _ _ _ _ (by have := hk.2.1; omega)).trans (far0 k hk2 hk.1)) fun k hk => ?_
    rcases hat5 with h | ⟨b', h, h'⟩
    · rw [h]
      exact hk.1
    · rw [h]
      intro e
      injection e with e
      have := hk.2.2.1
      omega
  · have hR := Kd.R_appended (d := Kd.string) (e := 9) (base := base) (ok := fun _ => True) (okp := fun _ => False) (p := x) (cs := [.string x]) (w1 := w5) (v := nl) (fun _ _ => trivial) hreps rfl (fun _ h => h.elim) (fun _ _ => trivial) hw hg5 hat5
    exact Kd.R_mono (Kd.R_step (Kd.R_bound hR) fun k hk _ => far_set _ _ _ _ _ (by have := hk.2.1; omega)) (fun _ _ => trivial)
theorem next_enters (args : Array Value) (w : World) : (callFunc 22 args).run Tryz.prog w = .ok (.enter 22 args) w := enters_ Tryz.func22 (by kernel_rfl) (by kernel_rfl) args w
set_option maxRecDepth 100000 in
set_option maxHeartbeats 2000000 in
theorem nam1_calls (ts : List Tk) (len : Nat) (G : Obj) (hG : RowG ts len G) (f : Nat) (IH : ValC ts len G f) (base g b bv bp o p : Nat) (r : PRes) (acc : List V) (nm : List ByteArray) (vl nl : Value) (w : World) (ho : o ≤ 8) (hr : nmStep ts len f o p nm = some r)
    (hl : ts.length ≤ 1000000) (hL : Lay base g b bv bp) (hM : Mz ts len G base g b bv bp p o acc nm vl nl w) (hacc : acc.length ≤ 1000000) (hnm : nm.length ≤ 1000000) :
    Calls Tryz.prog 70 #[.pointer (some ⟨bp, 0, none⟩), .pointer (some ⟨bv, 0, none⟩)] w (NQ ts len G base g b bv bp o acc nm (tokAt ts len p).text r w) := by
  obtain ⟨An, cn, rfl, hcn, hCn⟩ := Kd.R_reads hM.rn
  have HCN := Aside0.mk (And.intro hcn hCn)
  clear hcn hCn
  obtain ⟨Av, cv, rfl⟩ := Kd.R_slice hM.rv
  have HM := Aside0.mk hM
  have HL := Aside0.mk hL
  have HIH := Aside0.mk IH
  have HG := Aside0.mk hG
  have HR := Aside0.mk hr
  have cp0 : w.cell? ⟨bp, 0, none⟩ = some (.pointer (some ⟨b, 0, none⟩)) := blk_cell hM.hp 0
  clear hM hL IH hG hr
  go_enter Tryz.func70, Tryz.ntmps70
  go_wp2_with fail
  refine (peek_calls ts len G HG.out g b p o _ HM.out.pz).mono ?_
  rintro e w1 ⟨rfl, hb1⟩
  have HM1 := Aside0.mk (HM.out.below HL.out hb1)
  have HB1 := Aside0.mk hb1
  clear hb1 cp0
  have hbt := (Below.refl w1.heap.size w1).alloc (Nat.le_refl _) (.cells #[.int .i64 (tokAt ts len p).kind, .string ⟨(tokAt ts len p).text.toArray⟩, .int .i64 (tokAt ts len p).num, .int .i64 (tokAt ts len p).pos] 51)
  have HB2 := Aside0.mk (HB1.out.trans (hbt.mono HB1.out.size))
  have HM2 := Aside0.mk (HM1.out.below HL.out hbt)
  have cp0 := fun o => cellA (v := .pointer (some ⟨b, 0, none⟩)) (blk_cell HM1.out.hp 0) o
  have cv4 := fun o => cellA (v := .slice An nm.length cn) (blk_cell HM1.out.hv 4) o
  clear hbt
  unfold tkV
  have hn1 := Nat.ne_of_lt (show bp < w1.heap.size by have := HM1.out.sz; have := HL.out.lp; omega)
  have hn2 := Nat.ne_of_lt (show bv < w1.heap.size by have := HM1.out.sz; have := HL.out.lv; omega)
  by_cases hk : (tokAt ts len p).kind = 7
  · have hkb : (((tokAt ts len p).kind : Int) == 7) = true := by simp; omega
    have hkn := Aside0.mk hk
    clear hk
    generalize ht : tokAt ts len p = t at *
    have HT := Aside0.mk ht
    clear ht
    go_wp2_with fail
    generalize w1.alloc (.cells #[.int .i64 t.kind, .string ⟨t.text.toArray⟩, .int .i64 t.num, .int .i64 t.pos] 51) = W2 at *
    refine (PC.slices_Contains_string_string.calls (nm.length + 1) An cn nm ⟨t.text.toArray⟩ (hasN t.text nm) W2 (Kd.C_below HCN.out.2 HB2.out) HCN.out.1 (contains_all _ _ hnm)).mono ?_
    rintro e w3 ⟨rfl, hd3⟩
    obtain ⟨nq, rfl⟩ := hd3.out
    clear hd3
    have hdq : Below W2.heap.size W2 (W2.drewN nq) := ⟨rfl, rfl, rfl, Nat.le_refl _, fun _ _ => rfl⟩
    have HM3 := Aside0.mk (HM2.out.below HL.out hdq)
    have HB3 := Aside0.mk (HB2.out.trans (hdq.mono HB2.out.size))
    clear hdq HM2 HB2
    generalize W2.drewN nq = W3 at *
    have cp3 : W3.cell? ⟨bp, 0, none⟩ = some (.pointer (some ⟨b, 0, none⟩)) := blk_cell HM3.out.hp 0
    cases hh : hasN t.text nm with
    | true =>
      have HH := Aside0.mk hh
      clear hh
      go_wp2_with fail
      refine (refuse_calls ts len G HG.out g b p o 3 _ HM3.out.pz).mono ?_
      rintro e w4 ⟨rfl, hb4⟩
      refine ⟨rfl, ?_⟩
      have hr := HR.out
      unfold nmStep at hr
      rw [HT.out, if_neg (fun h => h hkn.out), if_pos HH.out] at hr
      injection hr with hr
      subst hr
      exact ⟨Kp.of_keep (KeepR.of_below (HB3.out.trans (hb4.mono HB3.out.size)) (by have := HL.out.lb; have := HM.out.sz; omega)) HM.out.sz, by rw [HT.out]⟩
    | false =>
      have HH := Aside0.mk hh
      clear hh
      go_wp2_with fail
      have hdr : Below W3.heap.size W3 W3.drew := ⟨rfl, rfl, rfl, Nat.le_refl _, fun _ _ => rfl⟩
      have hp : p < ts.length := by
        refine Nat.lt_of_not_le fun h => ?_
        have h1 := HT.out
        have h2 := hkn.out
        unfold tokAt at h1
        rw [List.getD_eq_getElem?_getD, List.getElem?_eq_none h] at h1
        rw [← h1] at h2
        cases h2
      refine start_ (n := 9) (S := fun w' => w'.cell? ⟨bv, 4, none⟩ = some (.slice An nm.length cn) ∧ w'.cell? ⟨bp, 0, none⟩ = some (.pointer (some ⟨b, 0, none⟩))) (ds := [6, 8]) #[fF, fF, fF, fF, fF, fF, fF, fF, fF] (by kernel_rfl) rfl rfl ⟨blk_cell (w := W3.drew) HM3.out.hv 4, blk_cell (w := W3.drew) HM3.out.hp 0⟩ (fun hHeld => ?_)
      refine pure_ (i := 0) (N := some 17) (v := ?_) (a' := ?_) #[tT, fF, fF, fF, fF, fF, fF, fF, fF] rfl rfl (by kernel_rfl) (fun _ _ _ h => h) (Or.inl ⟨by rfl, ?_⟩) ?_ ?_
      rotate_left
      · intro w'
        go_simp
        with_reducible rfl
      rotate_left
      · simp only [Act.put, sA, sZ, sS, i64_w, i32_w]
        rfl
      refine take_ (i := 1) (N := some 18) (v := ?_) (a' := ?_) #[tT, tT, fF, fF, fF, fF, fF, fF, fF] rfl rfl (by kernel_rfl) (fun _ _ _ h => h) (Or.inl ⟨by rfl, ?_⟩) hHeld ?_ ?_
      rotate_left
      · rintro w' ⟨e1, e2⟩
        go_simp
        with_reducible rfl
      rotate_left
      · simp only [Act.put, sA, sZ, sS, i64_w, i32_w]
        rfl
      refine take_ (i := 2) (N := some 19) (v := ?_) (a' := ?_) #[tT, tT, tT, fF, fF, fF, fF, fF, fF] rfl rfl (by kernel_rfl) (fun _ _ _ h => h) (Or.inl ⟨by rfl, ?_⟩) hHeld ?_ ?_
      rotate_left
      · rintro w' ⟨e1, e2⟩
        go_simp
        with_reducible rfl
      rotate_left
      · simp only [Act.put, sA, sZ, sS, i64_w, i32_w]
        rfl
      refine one_ (i := 3) (N := some 20) #[tT, tT, tT, tT, fF, fF, fF, fF, fF] rfl rfl (by kernel_rfl) (by decide) (fun K hK => ?_)
      refine call_ 22 #[.pointer (some ⟨b, 0, none⟩), .int .i64 7] (by rfl) rfl (by
        unfold execOp
        simp [resolve, Deferred.ofValue, invoke, Act.eval, next_enters]) ?_
      have hN := next_ok ts len G HG.out g b p o W3.drew (HM3.out.pz.keep hdr) hp hl
      rw [HT.out, hkn.out] at hN
      refine hN.mono ?_
      clear hN
      rintro e w4 ⟨rfl, hz4, hk4⟩
      refine ⟨_, rfl, ?_⟩
      have HM4 := Aside0.mk ((HM3.out.below HL.out hdr).keep HL.out hk4 hz4)
      have HK4 := Aside0.mk ((KeepR.of_below (HB3.out.trans (hdr.mono HB3.out.size)) (by have := HL.out.lb; have := HM.out.sz; omega)).trans hk4)
      clear hz4 hk4
      refine hK.out _ _ ⟨blk_cell HM4.out.hv 4, blk_cell HM4.out.hp 0⟩ (fun hHeld => ?_)
      clear hK K
      unfold tkV
      refine norm_ (a' := ?_) ?_ ?_
      rotate_left
      · show Act.put _ (some 20) _ = _
        simp only [Act.put, sA, sZ, sS, i64_w, i32_w]
        rfl
      refine pure_ (i := 4) (N := some 21) (v := ?_) (a' := ?_) #[tT, tT, tT, tT, tT, fF, fF, fF, fF] rfl rfl (by kernel_rfl) (fun _ _ _ h => h) (Or.inl ⟨by rfl, ?_⟩) ?_ ?_
      rotate_left
      · intro w'
        go_simp
        with_reducible rfl
      rotate_left
      · simp only [Act.put, sA, sZ, sS, i64_w, i32_w]
        rfl
      refine one_ (i := 5) (N := some 22) #[tT, tT, tT, tT, tT, tT, fF, fF, fF] rfl rfl (by kernel_rfl) (by decide) (fun K hK => ?_)
      rw [if_pos (by rfl)]
      unfold Oper.wp
      go_simp
      refine hK.out _ _ ⟨cellA hHeld.1 _, cellA hHeld.2 _⟩ fun hHeld => ?_
      clear hK K
      have hob := blk_new w4 (.cells #[.string ⟨t.text.toArray⟩] 9)
      have hzc : ∀ j u, [Value.string ⟨t.text.toArray⟩][j]? = some u → (w4.alloc (.cells #[.string ⟨t.text.toArray⟩] 9)).cell? ((⟨w4.heap.size, 0, none⟩ : Addr).add j) = some u := by
        intro j u hu
        rw [show (⟨w4.heap.size, 0, none⟩ : Addr).add j = ⟨w4.heap.size, j, none⟩ by unfold Addr.add; split <;> simp_all]
        exact (blk_cell hob j).trans (by simpa using hu)
      have hba := (Below.refl w4.heap.size w4).alloc (Nat.le_refl _) (.cells #[.string ⟨t.text.toArray⟩] 9)
      obtain ⟨_, inner, hown4, hreps⟩ := Kd.R_below HM4.out.rn hba
      refine last_ (i := 6) (N := some 23) #[tT, tT, tT, tT, tT, tT, tT, fF, fF] rfl rfl (by kernel_rfl) (by decide) (fun K hK => ?_)
      refine step_append_any base (by rfl) (.tmp 18) (.tmp 22) 24 9 (.string ⟨#[]⟩) 1 16 rfl Tryz.underlying24 infoStr rfl (by decide) (by decide) (.slice An nm.length cn) nm.length inner [.string ⟨t.text.toArray⟩] ⟨w4.heap.size, 0, none⟩ rfl rfl rfl hzc (by simp [Value.oneCell']) hown4 (by have := HM4.out.sz; simp; omega) (by omega) ?_
      intro v1 w5 hown5 hg5 hat5
      refine hK.out _ _ ?_
      clear hK K
      have hlt : ∀ k, (Value.slice An nm.length cn).ownBlock = some k → base ≤ k := fun k hk => own_base hown4 k hk
      obtain ⟨HM6, HK6⟩ := nam_mid HL.out HM4.out hlt hown5 hg5 hat5 hreps
      have HM6 := Aside0.mk HM6
      have HK6 := Aside0.mk (Kp.trans (Kp.of_keep HK4.out HM.out.sz) HK6)
      obtain ⟨A1, c1, rfl⟩ := own_slice hown5
      have bv4 : w5.cell? ⟨bv, 4, none⟩ = some (.slice An nm.length cn) := by
        have h1 := hg5.block bv (by have := HM4.out.sz; have := HL.out.lv; simp; omega) (fun e => by have := hlt bv e.symm; have := HL.out.lv; omega)
        exact blk_cell (h1.trans ((hba.block bv (by have := HM4.out.sz; have := HL.out.lv; omega)).trans HM4.out.hv)) 4
      have bvf : ∀ j, w5.frozen? ⟨bv, j, none⟩ = false := by
        have h1 := hg5.block bv (by have := HM4.out.sz; have := HL.out.lv; simp; omega) (fun e => by have := hlt bv e.symm; have := HL.out.lv; omega)
        exact blk_frozen (h1.trans ((hba.block bv (by have := HM4.out.sz; have := HL.out.lv; omega)).trans HM4.out.hv))
      clear hown5 hg5 hat5 hreps hown4 hba hzc hob HM4 HK4
      refine norm_ (a' := ?_) ?_ ?_
      rotate_left
      · show Act.put _ (some 23) _ = _
        simp only [Act.put, sA, sZ, sS, i64_w, i32_w]
        rfl
      refine pure_ (i := 7) (N := some 24) (v := ?_) (a' := ?_) #[tT, tT, tT, tT, tT, tT, tT, tT, fF] rfl rfl (by kernel_rfl) (fun _ _ _ h => h) (Or.inl ⟨by rfl, ?_⟩) ?_ ?_
      rotate_left
      · intro w'
        go_simp
        with_reducible rfl
      rotate_left
      · simp only [Act.put, sA, sZ, sS, i64_w, i32_w]
        rfl
      refine last_ (i := 8) (N := none) #[tT, tT, tT, tT, tT, tT, tT, tT, tT] rfl rfl (by kernel_rfl) (by decide) (fun K hK => ?_)
      rw [if_pos (by rfl)]
      unfold Oper.wp
      go_simp
      refine hK.out _ _ ?_
      clear hK K
      refine done_ (by kernel_rfl) ?_
      generalize w5.setCell ⟨bv, 4, none⟩ (.slice A1 (nm.length + 1) c1) = W6 at *
      clear bv4 bvf
      have cp6 : W6.cell? ⟨bp, 0, none⟩ = some (.pointer (some ⟨b, 0, none⟩)) := blk_cell HM6.out.hp 0
      by_cases hk5 : (tokAt ts len (p + 1)).kind = 5
      · have hk5' := Aside0.mk hk5
        clear hk5
        have hp1 : p + 1 < ts.length := by
          refine Nat.lt_of_not_le fun h => ?_
          have h2 := hk5'.out
          unfold tokAt at h2
          rw [List.getD_eq_getElem?_getD, List.getElem?_eq_none h] at h2
          cases h2
        go_wp2_with fail
        have hN := next_ok ts len G HG.out g b (p + 1) o W6 HM6.out.pz hp1 hl
        rw [hk5'.out] at hN
        refine hN.mono ?_
        clear hN
        rintro e W7 ⟨rfl, hz7, hk7⟩
        have HM7 := Aside0.mk (HM6.out.keep HL.out hk7 hz7)
        have HK7 := Aside0.mk (Kp.trans HK6.out (Kp.of_keep hk7 HM6.out.sz))
        clear hz7 hk7
        have cp7 : W7.cell? ⟨bp, 0, none⟩ = some (.pointer (some ⟨b, 0, none⟩)) := blk_cell HM7.out.hp 0
        go_wp2_with fail
        clear cp3 cp0 cv4 hdr hHeld hn1 hn2 cp6 cp7
        have cv3 : W7.drew.cell? ⟨bv, 3, none⟩ = some (.slice Av acc.length cv) := blk_cell (w := W7.drew) HM7.out.hv 3
        have cp0 : W7.drew.cell? ⟨bp, 0, none⟩ = some (.pointer (some ⟨b, 0, none⟩)) := blk_cell (w := W7.drew) HM7.out.hp 0
        have hdr : Below W7.heap.size W7 W7.drew := ⟨rfl, rfl, rfl, Nat.le_refl _, fun _ _ => rfl⟩
        have hzd := HM7.out.pz.keep hdr
        have HV := Aside0.mk HM7.out.hv
        have HP := Aside0.mk HM7.out.hp
        have HRR := Aside0.mk HM7.out.rv
        have hbase := HM7.out.sz
        obtain ⟨hgb, hbb, hbvb, hbpb, hnv, hnp, hgv, hvp⟩ := HL.out
        have hr : valP ts len f o (p + 2) = some r := by
          have hr := HR.out
          unfold nmStep at hr
          rw [HT.out, if_neg (fun h => h hkn.out), if_neg (by rw [HH.out]; exact Bool.false_ne_true), if_neg (fun h => h hk5'.out)] at hr
          exact hr
        cases r with
        | bad c a =>
          refine start_ (n := 11) (S := fun w' => w'.cell? ⟨bv, 3, none⟩ = some (.slice Av acc.length cv) ∧ w'.cell? ⟨bp, 0, none⟩ = some (.pointer (some ⟨b, 0, none⟩))) (ds := [6, 8, 10]) #[fF, fF, fF, fF, fF, fF, fF, fF, fF, fF, fF] (by kernel_rfl) rfl rfl ⟨cv3, cp0⟩ (fun hHeld => ?_)
          refine pure_ (i := 0) (N := some 27) (v := ?_) (a' := ?_) #[tT, fF, fF, fF, fF, fF, fF, fF, fF, fF, fF] rfl rfl (by kernel_rfl) (fun _ _ _ h => h) (Or.inl ⟨by rfl, ?_⟩) ?_ ?_
          rotate_left
          · intro w'
            go_simp
            with_reducible rfl
          rotate_left
          · simp only [Act.put, sA, sZ, sS, i64_w, i32_w]
            rfl
          refine take_ (i := 1) (N := some 28) (v := ?_) (a' := ?_) #[tT, tT, fF, fF, fF, fF, fF, fF, fF, fF, fF] rfl rfl (by kernel_rfl) (fun _ _ _ h => h) (Or.inl ⟨by rfl, ?_⟩) hHeld ?_ ?_
          rotate_left
          · rintro w' ⟨e1, e2⟩
            go_simp
            with_reducible rfl
          rotate_left
          · simp only [Act.put, sA, sZ, sS, i64_w, i32_w]
            rfl
          refine take_ (i := 2) (N := some 29) (v := ?_) (a' := ?_) #[tT, tT, tT, fF, fF, fF, fF, fF, fF, fF, fF] rfl rfl (by kernel_rfl) (fun _ _ _ h => h) (Or.inl ⟨by rfl, ?_⟩) hHeld ?_ ?_
          rotate_left
          · rintro w' ⟨e1, e2⟩
            go_simp
            with_reducible rfl
          rotate_left
          · simp only [Act.put, sA, sZ, sS, i64_w, i32_w]
            rfl
          refine pure_ (i := 4) (N := some 31) (v := ?_) (a' := ?_) #[tT, tT, tT, fF, tT, fF, fF, fF, fF, fF, fF] rfl rfl (by kernel_rfl) (fun _ _ _ h => h) (Or.inl ⟨by rfl, ?_⟩) ?_ ?_
          rotate_left
          · intro w'
            go_simp
            with_reducible rfl
          rotate_left
          · simp only [Act.put, sA, sZ, sS, i64_w, i32_w]
            rfl
          refine two_ (i := 3) (j := 5) (Ni := some 30) (Nj := some 32) #[tT, tT, tT, tT, tT, fF, fF, fF, fF, fF, fF] #[tT, tT, tT, fF, tT, tT, fF, fF, fF, fF, fF] rfl rfl rfl rfl (by kernel_rfl) (by decide) (by decide) (fun K hK => ?_) (fun K hK => ?_)
          · refine call_dies_ 21 #[.pointer (some ⟨b, 0, none⟩)] (by rfl) rfl (by
              unfold execOp
              simp [resolve, Deferred.ofValue, invoke, Act.eval, value_enters]) ?_
            refine (HIH.out g b o (p + 2) _ _ ho hr hzd).mono ?_
            rintro e w4 ⟨hk4, he⟩
            exact ⟨_, he, rfl, Kp.trans HK7.out (Kp.of_keep ⟨(hdr.mono (by omega)).trans hk4.1, hk4.2.1, hk4.2.2⟩ hbase), rfl⟩
          · rw [if_pos (by rfl)]
            unfold Oper.wp
            go_simp
            have hb5 := (Below.refl W7.heap.size W7.drew).alloc (Nat.le_refl _) (.cells zCs.toArray 26)
            refine hK.out _ _ ⟨cellA cv3 _, cellA cp0 _⟩ fun hHeld => ?_
            clear hK K
            refine one_ (i := 3) (N := some 30) #[tT, tT, tT, tT, tT, tT, fF, fF, fF, fF, fF] rfl rfl (by kernel_rfl) (by decide) (fun K hK => ?_)
            refine call_dies_ 21 #[.pointer (some ⟨b, 0, none⟩)] (by rfl) rfl (by
              unfold execOp
              simp [resolve, Deferred.ofValue, invoke, Act.eval, value_enters]) ?_
            refine (HIH.out g b o (p + 2) _ _ ho hr (hzd.keep hb5)).mono ?_
            rintro e w4 ⟨hk4, he⟩
            have hk0 : KeepR b W7 (W7.drew.alloc (.cells zCs.toArray 26)) := KeepR.of_below (hdr.trans hb5) (by omega)
            exact ⟨_, he, rfl, Kp.trans HK7.out (Kp.of_keep (hk0.trans hk4) hbase), rfl⟩
        | ok v p1 =>
          have hRR0 := HM7.out.rv.1
          have hfr : ∀ k, W7.heap.size ≤ k → some k ≠ (Value.slice A1 (nm.length + 1) c1).ownBlock := fun k hk e => by
            obtain ⟨_, _, ho', _⟩ := HM7.out.rn
            have := own_lt ho' k e.symm
            omega
          have FIN : ∀ (wf : World) (vl' : Value) (w4 : World), KeepR b W7 w4 → Kp base b bv W7 wf → Pz ts len G g b p1 o wf → wf.heap[bv]? = some (.cells #[.int .i64 6, .int .i64 0, .string ⟨#[]⟩, vl', .slice A1 (nm.length + 1) c1] 26 (0, 0)) →
              k26.R 26 wf base (fun k => some k ≠ (Value.slice A1 (nm.length + 1) c1).ownBlock) vl' (acc ++ [v]) → (∀ k, k < w4.heap.size → some k ≠ (Value.slice Av acc.length cv).ownBlock → k ≠ bv → wf.heap[k]? = w4.heap[k]?) →
              NQ ts len G base g b bv bp o acc nm t.text (.ok v p1) w (.returned (.tuple #[])) wf := by
            intro wf vl' w4 hk4 h1 h2 h3 h4 h5
            have hs4 := hk4.2.1
            refine ⟨Kp.trans HK7.out h1, rfl, vl', _, h2, h3, (h1.2.2.2.2 bp hbpb (fun e => hnp e.symm) (fun e => hvp e.symm)).trans HP.out, h4, ?_, by have := h1.2.2.2.1; omega⟩
            have hrn := Kd.R_bound HM7.out.rn
            refine Kd.R_mono (Kd.R_step hrn fun k hk hk2 => ?_) (fun _ _ => trivial)
            refine (h5 k (by omega) (fun e => ?_) (by have := hk.2.1; omega)).trans (hk4.2.2 k hk2 (by have := hk.2.1; omega))
            obtain ⟨_, _, ho', _⟩ := HM7.out.rv
            obtain ⟨cs, hcs⟩ := own_typed ho' k e.symm
            obtain ⟨_, _, _, q, hq, cs', hcs'⟩ := hk
            rw [hcs] at hcs'
            simp only [Kd.string, Kd.scalar, List.mem_cons, List.not_mem_nil, or_false] at hq
            subst hq
            cases hcs'
          refine start_ (n := 11) (S := fun w' => w'.cell? ⟨bv, 3, none⟩ = some (.slice Av acc.length cv) ∧ w'.cell? ⟨bp, 0, none⟩ = some (.pointer (some ⟨b, 0, none⟩))) (ds := [6, 8, 10]) #[fF, fF, fF, fF, fF, fF, fF, fF, fF, fF, fF] (by kernel_rfl) rfl rfl ⟨cv3, cp0⟩ (fun hHeld => ?_)
          refine pure_ (i := 0) (N := some 27) (v := ?_) (a' := ?_) #[tT, fF, fF, fF, fF, fF, fF, fF, fF, fF, fF] rfl rfl (by kernel_rfl) (fun _ _ _ h => h) (Or.inl ⟨by rfl, ?_⟩) ?_ ?_
          rotate_left
          · intro w'
            go_simp
            with_reducible rfl
          rotate_left
          · simp only [Act.put, sA, sZ, sS, i64_w, i32_w]
            rfl
          refine take_ (i := 1) (N := some 28) (v := ?_) (a' := ?_) #[tT, tT, fF, fF, fF, fF, fF, fF, fF, fF, fF] rfl rfl (by kernel_rfl) (fun _ _ _ h => h) (Or.inl ⟨by rfl, ?_⟩) hHeld ?_ ?_
          rotate_left
          · rintro w' ⟨e1, e2⟩
            go_simp
            with_reducible rfl
          rotate_left
          · simp only [Act.put, sA, sZ, sS, i64_w, i32_w]
            rfl
          refine take_ (i := 2) (N := some 29) (v := ?_) (a' := ?_) #[tT, tT, tT, fF, fF, fF, fF, fF, fF, fF, fF] rfl rfl (by kernel_rfl) (fun _ _ _ h => h) (Or.inl ⟨by rfl, ?_⟩) hHeld ?_ ?_
          rotate_left
          · rintro w' ⟨e1, e2⟩
            go_simp
            with_reducible rfl
          rotate_left
          · simp only [Act.put, sA, sZ, sS, i64_w, i32_w]
            rfl
          refine pure_ (i := 4) (N := some 31) (v := ?_) (a' := ?_) #[tT, tT, tT, fF, tT, fF, fF, fF, fF, fF, fF] rfl rfl (by kernel_rfl) (fun _ _ _ h => h) (Or.inl ⟨by rfl, ?_⟩) ?_ ?_
          rotate_left
          · intro w'
            go_simp
            with_reducible rfl
          rotate_left
          · simp only [Act.put, sA, sZ, sS, i64_w, i32_w]
            rfl
          refine join_ (fuel' := 5) (l' := #[tT, tT, tT, tT, tT, tT, fF, fF, fF, fF, fF]) (ns := fun s : Value × Value × Nat => [(30, .agg #[.int .i64 v.f0, .int .i64 v.f1, .string v.f2, s.1, s.2.1]), (32, .slice (some ⟨s.2.2, 0, none⟩) 1 1)])
            (F := fun s w4 => KeepR b W7 w4 ∧ Pz ts len G g b p1 o w4 ∧ k26.R 26 w4 W7.heap.size (fun _ => True) s.1 v.f3 ∧ Kd.string.R 9 w4 W7.heap.size (fun _ => True) s.2.1 v.f4 ∧ w4.heap[s.2.2]? = some (.cells zCs.toArray 26 (0, 0))) ?_ ?_
          · rintro ⟨v3, v4, zb⟩ w4 ⟨hk4, hz4, hR3, hR4, hzb⟩
            have hzb0 := hzb
            have hzc : ∀ j u, zCs[j]? = some u → w4.cell? ((⟨zb, 0, none⟩ : Addr).add j) = some u := by
              intro j u hu
              rw [show (⟨zb, 0, none⟩ : Addr).add j = ⟨zb, j, none⟩ by unfold Addr.add; split <;> simp_all]
              exact (blk_cell hzb0 j).trans (by simpa using hu)
            have hRv := Kd.R_mono (Kd.R_step (Kd.R_bound HRR.out) (w1 := w4) fun k hk hk2 => hk4.2.2 k hk2 (by have := hk.2.1; omega)) (ok' := fun k => some k ≠ (Value.slice A1 (nm.length + 1) c1).ownBlock) (fun _ hk => hk.1)
            have hzb' : w4.heap[zb]? = some (.cells zCs.toArray 26 (0, 0)) := hzb
            have hR3' : k26.R 26 w4 W7.heap.size (fun _ => True) v3 v.f3 := hR3
            have hR4' : Kd.string.R 9 w4 W7.heap.size (fun _ => True) v4 v.f4 := hR4
            clear hzb hR3 hR4
            have hsz4 := hk4.2.1
            refine norm_ (a' := ?_) ?_ ?_
            rotate_left
            · simp only [putAll, Act.put, sA, sZ, sS, i64_w, i32_w]
              rfl
            have hRvb := hRv
            obtain ⟨_, inner, hown4, hreps⟩ := hRvb
            refine last_ (i := 6) (N := some 33) #[tT, tT, tT, tT, tT, tT, tT, fF, fF, fF, fF] rfl rfl (by kernel_rfl) (by decide) (fun K hK => ?_)
            refine step_append_any base (by rfl) (.tmp 28) (.tmp 32) 23 26 (.agg #[.int .i64 0, .int .i64 0, .string ⟨#[]⟩, .slice none 0 0, .slice none 0 0]) 5 80 rfl Tryz.underlying23 infoVal rfl (by decide) (by decide) (.slice Av acc.length cv) acc.length inner zCs ⟨zb, 0, none⟩ rfl rfl rfl hzc (by unfold zCs; simp [Value.oneCell']) hown4 (by omega) (by omega) ?_
            intro v1 w5 hown5 hg5 hat5
            refine hK.out _ _ ?_
            clear hK K
            obtain ⟨g5, c5, rfl, hg5b⟩ : ∃ g5 c5, v1 = .slice (some ⟨g5, 0, none⟩) (acc.length + 1) c5 ∧ base ≤ g5 := by
              rcases hown5.2 with ⟨_, h⟩ | ⟨g', cap, cur, h, h', _⟩
              · omega
              · exact ⟨g', cap, h, h'⟩
            refine norm_ (a' := ?_) ?_ ?_
            rotate_left
            · show Act.put _ (some 33) _ = _
              simp only [Act.put, sA, sZ, sS, i64_w, i32_w]
              rfl
            obtain ⟨A3, c3, rfl⟩ := Kd.R_slice hR3'
            obtain ⟨A4, c4, rfl⟩ := Kd.R_slice hR4'
            have hlt : acc.length < acc.length + 1 := Nat.lt_succ_self _
            have hlt' : (acc.length : Int) < (acc.length : Int) + 1 := by omega
            refine pure_ (i := 7) (N := some 34) (v := ?_) (a' := ?_) #[tT, tT, tT, tT, tT, tT, tT, tT, fF, fF, fF] rfl rfl (by kernel_rfl) (fun _ _ _ h => h) (Or.inl ⟨by rfl, ?_⟩) ?_ ?_
            rotate_left
            · intro w'
              go_simp
              with_reducible rfl
            rotate_left
            · simp only [Act.put, sA, sZ, sS, i64_w, i32_w]
              rfl
            refine pure_ (i := 9) (N := some 35) (v := ?_) (a' := ?_) #[tT, tT, tT, tT, tT, tT, tT, tT, fF, tT, fF] rfl rfl (by kernel_rfl) (fun _ _ _ h => h) (Or.inl ⟨by rfl, ?_⟩) ?_ ?_
            rotate_left
            · intro w'
              go_simp
              with_reducible rfl
            rotate_left
            · simp only [Act.put, sA, sZ, sS, i64_w, i32_w]
              rfl
            obtain ⟨hgc5, hfz5⟩ : (∀ j u, (inner ++ zCs)[j]? = some u → w5.cell? ⟨g5, j, none⟩ = some u) ∧ (∀ j, w5.frozen? ⟨g5, j, none⟩ = false) := by
              rcases hown5.2 with ⟨h, _⟩ | ⟨g', cap, cur, h, h', hh, r1, r2, r3, r4⟩
              · cases h
              · injection h with e1 e2 e3
                injection e1 with e1
                injection e1 with e1
                subst e1
                refine ⟨fun j u hu => (blk_cell hh j).trans ?_, blk_frozen hh⟩
                rw [← r4, List.getElem?_take] at hu
                split at hu
                · simpa using hu
                · cases hu
            have hil : inner.length = acc.length * 5 := hown4.1
            have z0 : w5.cell? ⟨g5, acc.length * 5, none⟩ = some (.int .i64 0) := hgc5 _ _ (by rw [← hil, List.getElem?_append_right (by omega)]; simp [zCs])
            have z1 : w5.cell? ⟨g5, acc.length * 5 + 1, none⟩ = some (.int .i64 0) := hgc5 _ _ (by rw [← hil, List.getElem?_append_right (by omega)]; simp [zCs])
            have z2 : w5.cell? ⟨g5, acc.length * 5 + 2, none⟩ = some (.string ⟨#[]⟩) := hgc5 _ _ (by rw [← hil, List.getElem?_append_right (by omega)]; simp [zCs])
            have z3 : w5.cell? ⟨g5, acc.length * 5 + 3, none⟩ = some (.slice none 0 0) := hgc5 _ _ (by rw [← hil, List.getElem?_append_right (by omega)]; simp [zCs])
            have z4 : w5.cell? ⟨g5, acc.length * 5 + 4, none⟩ = some (.slice none 0 0) := hgc5 _ _ (by rw [← hil, List.getElem?_append_right (by omega)]; simp [zCs])
            have hbv5 : w5.heap[bv]? = _ := (hg5.block bv (by omega) (fun e => by have := own_base hown4 bv e.symm; omega)).trans ((hk4.2.2 bv (by omega) (by omega)).trans HV.out)
            have bv3 : w5.cell? ⟨bv, 3, none⟩ = some (.slice Av acc.length cv) := blk_cell hbv5 3
            have bvf : ∀ j, w5.frozen? ⟨bv, j, none⟩ = false := blk_frozen hbv5
            have hgbv : g5 ≠ bv := by omega
            have hgbv' : bv ≠ g5 := by omega
            refine two_last_ (i := 8) (j := 10) (Ni := none) (Nj := none) #[tT, tT, tT, tT, tT, tT, tT, tT, tT, tT, fF] #[tT, tT, tT, tT, tT, tT, tT, tT, fF, tT, tT] rfl rfl rfl rfl (by kernel_rfl) (by decide) (by decide) (fun K hK => ?_) (fun K hK => ?_)
            · rw [if_pos (by rfl)]
              unfold Oper.wp
              go_simp
              refine hK.out _ _ ?_
              clear hK K
              refine last_ (i := 10) (N := none) #[tT, tT, tT, tT, tT, tT, tT, tT, tT, tT, tT] rfl rfl (by kernel_rfl) (by decide) (fun K hK => ?_)
              rw [if_pos (by rfl)]
              unfold Oper.wp
              go_simp
              refine hK.out _ _ ?_
              clear hK K
              refine done_ (by kernel_rfl) ?_
              refine bodyPost_end (results_none rfl _ _ _) rfl ?_
              have hpf : (put5 w5 g5 (acc.length * 5) (.int .i64 v.f0) (.int .i64 v.f1) (.string v.f2) (.slice A3 v.f3.length c3) (.slice A4 v.f4.length c4)).heap[bv]? = _ := (put5_far hgbv' _ _ _ _ _).trans hbv5
              obtain ⟨h1, h2, h3, h4⟩ := arr_fin (ok := fun k => some k ≠ (Value.slice A1 (nm.length + 1) c1).ownBlock) (h0 := hRR0) (hfresh := hfr) (wf := (put5 w5 g5 (acc.length * 5) (.int .i64 v.f0) (.int .i64 v.f1) (.string v.f2) (.slice A3 v.f3.length c3) (.slice A4 v.f4.length c4)).setCell ⟨bv, 3, none⟩ (.slice (some ⟨g5, 0, none⟩) (acc.length + 1) c5)) hbase hgb hbb hnv hgv hbvb (fun k hk => by
                  obtain ⟨_, hi, ho', _⟩ := HRR.out
                  exact ⟨own_base ho' k hk, own_lt ho' k hk⟩) hk4 hz4 hR3' hR4' hreps hil hown5 hg5 hg5b hat5 ((put5_same _ _ _ _ _ _ _ _).setCell (p := ⟨bv, 3, none⟩) (Nat.zero_le _) _) (fun k hk => far_set _ _ _ _ _ hk)
              exact FIN _ _ _ hk4 h1 h2 (blk_put hpf 3 _ rfl) h3 h4
            · rw [if_pos (by rfl)]
              unfold Oper.wp
              go_simp
              refine hK.out _ _ ?_
              clear hK K
              refine last_ (i := 8) (N := none) #[tT, tT, tT, tT, tT, tT, tT, tT, tT, tT, tT] rfl rfl (by kernel_rfl) (by decide) (fun K hK => ?_)
              rw [if_pos (by rfl)]
              unfold Oper.wp
              go_simp
              refine hK.out _ _ ?_
              clear hK K
              refine done_ (by kernel_rfl) ?_
              refine bodyPost_end (results_none rfl _ _ _) rfl ?_
              obtain ⟨h1, h2, h3, h4⟩ := arr_fin (ok := fun k => some k ≠ (Value.slice A1 (nm.length + 1) c1).ownBlock) (h0 := hRR0) (hfresh := hfr) (wf := put5 (w5.setCell ⟨bv, 3, none⟩ (.slice (some ⟨g5, 0, none⟩) (acc.length + 1) c5)) g5 (acc.length * 5) (.int .i64 v.f0) (.int .i64 v.f1) (.string v.f2) (.slice A3 v.f3.length c3) (.slice A4 v.f4.length c4)) hbase hgb hbb hnv hgv hbvb (fun k hk => by
                  obtain ⟨_, hi, ho', _⟩ := HRR.out
                  exact ⟨own_base ho' k hk, own_lt ho' k hk⟩) hk4 hz4 hR3' hR4' hreps hil hown5 hg5 hg5b hat5 (((Below.refl 0 w5).setCell (p := ⟨bv, 3, none⟩) (Nat.zero_le _) _).trans (put5_same _ _ _ _ _ _ _ _)) (fun k hk => put5_comm hk _ _ _ _ _)
              exact FIN _ _ _ hk4 h1 h2 ((put5_far hgbv' _ _ _ _ _).trans (blk_put hbv5 3 _ rfl)) h3 h4
          · intro tail
            refine two_ (i := 3) (j := 5) (Ni := some 30) (Nj := some 32) #[tT, tT, tT, tT, tT, fF, fF, fF, fF, fF, fF] #[tT, tT, tT, fF, tT, tT, fF, fF, fF, fF, fF] rfl rfl rfl rfl (by kernel_rfl) (by decide) (by decide) (fun K hK => ?_) (fun K hK => ?_)
            · refine call_ 21 #[.pointer (some ⟨b, 0, none⟩)] (by rfl) rfl (by
                unfold execOp
                simp [resolve, Deferred.ofValue, invoke, Act.eval, value_enters]) ?_
              refine (HIH.out g b o (p + 2) _ _ ho hr hzd).mono ?_
              rintro e w4 ⟨hk4, ⟨v3, v4, he, hR3, hR4⟩, hz4⟩
              refine ⟨_, he, ?_⟩
              have hk4' : KeepR b W7 w4 := ⟨(hdr.mono (by omega)).trans hk4.1, hk4.2.1, hk4.2.2⟩
              refine hK.out _ _ ⟨blk_cell ((hk4'.2.2 bv (by omega) (by omega)).trans HV.out) 3, blk_cell ((hk4'.2.2 bp (by omega) (by omega)).trans HP.out) 0⟩ (fun hHeld => ?_)
              clear hK K
              refine norm_ (a' := ?_) ?_ ?_
              rotate_left
              · show Act.put _ (some 30) _ = _
                simp only [Act.put, sA, sZ, sS, i64_w, i32_w]
                rfl
              refine one_ (i := 5) (N := some 32) #[tT, tT, tT, tT, tT, tT, fF, fF, fF, fF, fF] rfl rfl (by kernel_rfl) (by decide) (fun K hK => ?_)
              rw [if_pos (by rfl)]
              unfold Oper.wp
              go_simp
              have hb5 := (Below.refl w4.heap.size w4).alloc (Nat.le_refl _) (.cells zCs.toArray 26)
              refine hK.out _ _ ⟨cellA hHeld.1 _, cellA hHeld.2 _⟩ fun hHeld => ?_
              clear hK K
              exact tail (v3, v4, w4.heap.size) _ ⟨hk4'.alloc (by omega) _, hz4.keep hb5, Kd.R_below hR3 hb5, Kd.R_below hR4 hb5, blk_new w4 _⟩
            · rw [if_pos (by rfl)]
              unfold Oper.wp
              go_simp
              have hb5 := (Below.refl W7.heap.size W7.drew).alloc (Nat.le_refl _) (.cells zCs.toArray 26)
              refine hK.out _ _ ⟨cellA cv3 _, cellA cp0 _⟩ fun hHeld => ?_
              clear hK K
              refine one_ (i := 3) (N := some 30) #[tT, tT, tT, tT, tT, tT, fF, fF, fF, fF, fF] rfl rfl (by kernel_rfl) (by decide) (fun K hK => ?_)
              refine call_ 21 #[.pointer (some ⟨b, 0, none⟩)] (by rfl) rfl (by
                unfold execOp
                simp [resolve, Deferred.ofValue, invoke, Act.eval, value_enters]) ?_
              refine (HIH.out g b o (p + 2) _ _ ho hr (hzd.keep hb5)).mono ?_
              rintro e w4 ⟨hk4, ⟨v3, v4, he, hR3, hR4⟩, hz4⟩
              refine ⟨_, he, ?_⟩
              have hk0 : KeepR b W7 (W7.drew.alloc (.cells zCs.toArray 26)) := KeepR.of_below (hdr.trans hb5) (by omega)
              have hk4' : KeepR b W7 w4 := hk0.trans hk4
              refine hK.out _ _ ⟨blk_cell ((hk4'.2.2 bv (by omega) (by omega)).trans HV.out) 3, blk_cell ((hk4'.2.2 bp (by omega) (by omega)).trans HP.out) 0⟩ (fun hHeld => ?_)
              clear hK K
              exact tail (v3, v4, W7.heap.size) _ ⟨hk4', hz4, Kd.R_lower hR3 hk0.2.1, Kd.R_lower hR4 hk0.2.1, (hk4.2.2 W7.heap.size (by simp) (by omega)).trans (blk_new W7.drew _)⟩
      · have hk5' := Aside0.mk hk5
        clear hk5
        go_wp2_with fail
        refine (next_bad ts len G HG.out g b (p + 1) o 5 _ HM6.out.pz hk5'.out).mono ?_
        rintro e w7 ⟨rfl, hb7⟩
        refine ⟨rfl, ?_⟩
        have hr := HR.out
        unfold nmStep at hr
        rw [HT.out, if_neg (fun h => h hkn.out), if_neg (by rw [HH.out]; exact Bool.false_ne_true), if_pos hk5'.out] at hr
        injection hr with hr
        subst hr
        exact ⟨Kp.trans HK6.out (Kp.of_keep (KeepR.of_below hb7 (by have := HL.out.lb; have := HM6.out.sz; omega)) HM6.out.sz), rfl⟩
  · have hkb : (((tokAt ts len p).kind : Int) == 7) = false := by simp; omega
    have hkn := Aside0.mk hk
    clear hk
    generalize ht : tokAt ts len p = t at *
    have HT := Aside0.mk ht
    clear ht
    go_wp2_with fail
    generalize w1.alloc (.cells #[.int .i64 t.kind, .string ⟨t.text.toArray⟩, .int .i64 t.num, .int .i64 t.pos] 51) = W2 at *
    have hdr : Below W2.heap.size W2 W2.drew := ⟨rfl, rfl, rfl, Nat.le_refl _, fun _ _ => rfl⟩
    refine start_ (n := 9) (S := fun w' => w'.cell? ⟨bv, 4, none⟩ = some (.slice An nm.length cn) ∧ w'.cell? ⟨bp, 0, none⟩ = some (.pointer (some ⟨b, 0, none⟩))) (ds := [6, 8]) #[fF, fF, fF, fF, fF, fF, fF, fF, fF] (by kernel_rfl) rfl rfl ⟨blk_cell (w := W2.drew) HM2.out.hv 4, blk_cell (w := W2.drew) HM2.out.hp 0⟩ (fun hHeld => ?_)
    refine pure_ (i := 0) (N := some 17) (v := ?_) (a' := ?_) #[tT, fF, fF, fF, fF, fF, fF, fF, fF] rfl rfl (by kernel_rfl) (fun _ _ _ h => h) (Or.inl ⟨by rfl, ?_⟩) ?_ ?_
    rotate_left
    · intro w'
      go_simp
      with_reducible rfl
    rotate_left
    · simp only [Act.put, sA, sZ, sS, i64_w, i32_w]
      rfl
    refine take_ (i := 1) (N := some 18) (v := ?_) (a' := ?_) #[tT, tT, fF, fF, fF, fF, fF, fF, fF] rfl rfl (by kernel_rfl) (fun _ _ _ h => h) (Or.inl ⟨by rfl, ?_⟩) hHeld ?_ ?_
    rotate_left
    · rintro w' ⟨e1, e2⟩
      go_simp
      with_reducible rfl
    rotate_left
    · simp only [Act.put, sA, sZ, sS, i64_w, i32_w]
      rfl
    refine take_ (i := 2) (N := some 19) (v := ?_) (a' := ?_) #[tT, tT, tT, fF, fF, fF, fF, fF, fF] rfl rfl (by kernel_rfl) (fun _ _ _ h => h) (Or.inl ⟨by rfl, ?_⟩) hHeld ?_ ?_
    rotate_left
    · rintro w' ⟨e1, e2⟩
      go_simp
      with_reducible rfl
    rotate_left
    · simp only [Act.put, sA, sZ, sS, i64_w, i32_w]
      rfl
    refine one_ (i := 3) (N := some 20) #[tT, tT, tT, tT, fF, fF, fF, fF, fF] rfl rfl (by kernel_rfl) (by decide) (fun K hK => ?_)
    refine call_dies_ 22 #[.pointer (some ⟨b, 0, none⟩), .int .i64 7] (by rfl) rfl (by
      unfold execOp
      simp [resolve, Deferred.ofValue, invoke, Act.eval, next_enters]) ?_
    refine (next_bad ts len G HG.out g b p o 7 _ (HM2.out.pz.keep hdr) (by rw [HT.out]; exact hkn.out)).mono ?_
    rintro e w4 ⟨rfl, hb4⟩
    refine ⟨_, rfl, rfl, ?_⟩
    have hr := HR.out
    unfold nmStep at hr
    rw [HT.out, if_pos hkn.out] at hr
    injection hr with hr
    subst hr
    exact ⟨Kp.of_keep (KeepR.of_below (HB2.out.trans ((hdr.trans hb4).mono HB2.out.size)) (by have := HL.out.lb; have := HM.out.sz; omega)) HM.out.sz, by rw [HT.out]⟩
end Go.Proofs.YtegppkngdkkdcaaGreatDoor.Tr
end
section
set_option linter.unusedVariables false
set_option linter.unusedSimpArgs false
namespace Go.Proofs.YtegppkngdkkdcaaGreatDoor.Tr
open Go.RowKit Go.Proofs.YtegppkngdkkdcaaGreatDoorW.PrintWords Go.Proofs.YtegppkngdkkdcaaGreatDoorW.PrintLast Go.Proofs.YtegppkngdkkdcaaGreatDoorW.PrintMore
open Go.Proofs.YtegppkngdkkdcaaGreatDoor.Lx Go.Proofs.YtegppkngdkkdcaaGreatDoor.PS
attribute [local go_sem high] fld0 fld1 fld2 fld3
theorem tok_lt {ts : List Tk} {len p : Nat} (h : (tokAt ts len p).kind ≠ 0) : p < ts.length := by
  refine Nat.lt_of_not_le fun h1 => h ?_
  unfold tokAt
  rw [List.getD_eq_getElem?_getD, List.getElem?_eq_none h1]
  rfl
inductive SRes (σ : Type) where
  | ok (s : σ) (p : Nat)
  | bad (c a : Nat)
def rowsG (ts : List Tk) (len cl : Nat) {σ : Type} (one : Nat → σ → Nat → Option (SRes σ)) : Nat → σ → Nat → Option (SRes σ)
  | 0, _, _ => none
  | f + 1, s, p => if (tokAt ts len p).kind = cl then some (.ok s (p + 1)) else match one f s p with
    | none => none
    | some (.bad c a) => some (.bad c a)
    | some (.ok s' p1) => if (tokAt ts len p1).kind = cl then some (.ok s' (p1 + 1)) else if (tokAt ts len p1).kind ≠ 6 then some (.bad 20 (tokAt ts len p1).pos)
      else if (tokAt ts len (p1 + 1)).kind = cl then some (.bad 20 (tokAt ts len (p1 + 1)).pos) else rowsG ts len cl one f s' (p1 + 1)
def SQ (base b bv : Nat) {σ : Type} (I : σ → Nat → World → Prop) (r : SRes σ) (w : World) (e : Ending) (w' : World) : Prop := Kp base b bv w w' ∧ match r with
  | .ok s' p' => e = .returned (.tuple #[]) ∧ I s' p' w'
  | .bad c a => e = .panicked [{ v := wrongV c a, recovered := false }]
def OneC (ts : List Tk) (len : Nat) (G : Obj) (base g b bv o : Nat) {σ : Type} (I : σ → Nat → World → Prop) (one : Nat → σ → Nat → Option (SRes σ)) (fid : FuncId) (caps : Array Value) (F : Nat) : Prop :=
  ∀ f s p r w, f < F → I s p w → one f s p = some r → Calls Tryz.prog fid caps w (SQ base b bv I r w)
set_option maxRecDepth 100000 in
set_option maxHeartbeats 2000000 in
theorem rows_calls (ts : List Tk) (len : Nat) (G : Obj) (hG : RowG ts len G) (hl : ts.length ≤ 1000000) (base g b bv o op cl : Nat) {σ : Type} (I : σ → Nat → World → Prop) (one : Nat → σ → Nat → Option (SRes σ)) (fid : FuncId) (caps : Array Value)
    (hen : ∀ (args : Array Value) (w : World), (callFunc fid args).run Tryz.prog w = .ok (.enter fid args) w) (F : Nat) (hone : OneC ts len G base g b bv o I one fid caps F)
    (hI : ∀ s p w, I s p w → Pz ts len G g b p o w ∧ base ≤ w.heap.size) (hIk : ∀ s p p' w w', p ≤ p' → I s p w → KeepR b w w' → Pz ts len G g b p' o w' → I s p' w') (hbb : b < base) (hop : op ≠ 0) (hcl : cl ≠ 0) (hcl6 : cl ≠ 6)
    (s : σ) (p : Nat) (w : World) (r : SRes σ) (hk : (tokAt ts len p).kind = op) (h : I s p w) (hr : rowsG ts len cl one F s (p + 1) = some r) :
    Calls Tryz.prog 68 #[.pointer (some ⟨b, 0, none⟩), .int .i64 op, .int .i64 cl, .func (.func fid) #[] caps] w (SQ base b bv I r w) := by
  have HG := Aside0.mk hG
  have HO := Aside0.mk hone
  have HI := Aside0.mk hI
  have HK := Aside0.mk hIk
  have H := Aside0.mk h
  have HR := Aside0.mk hr
  have HE := Aside0.mk hen
  clear hG hone hI hIk h hr hen
  have hp : p < ts.length := by
    refine Nat.lt_of_not_le fun h => hop ?_
    unfold tokAt at hk
    rw [List.getD_eq_getElem?_getD, List.getElem?_eq_none h] at hk
    exact hk.symm
  have BEL := Aside0.mk (show ∀ s p w w', I s p w → Below w.heap.size w w' → I s p w' ∧ Kp base b bv w w' from fun s p w w' h hb => by
    obtain ⟨hz, hs⟩ := HI.out s p w h
    have hk := KeepR.of_below (r := b) hb (by omega)
    exact ⟨HK.out s p p w w' (Nat.le_refl _) h hk (hz.keep hb), Kp.of_keep hk hs⟩)
  go_enter Tryz.func68, Tryz.ntmps68
  go_wp2_with fail
  have hN := next_ok ts len G HG.out g b p o w (HI.out _ _ _ H.out).1 hp hl
  rw [hk] at hN
  refine hN.mono ?_
  clear hN
  rintro e w1 ⟨rfl, hz1, hk1⟩
  have H1 := Aside0.mk (HK.out _ _ _ _ _ (Nat.le_succ _) H.out hk1 hz1)
  have HK1 := Aside0.mk (Kp.of_keep (c := bv) hk1 (HI.out _ _ _ H.out).2)
  clear hz1 hk1
  unfold tkV
  go_wp2_with fail
  go_loopg [] F (fun kq w2 => ∃ (s : σ) (p : Nat), kq ≤ F ∧ Aside0 (rowsG ts len cl one kq s p = some r) ∧ Aside0 (I s p w2) ∧ Aside0 (Kp base b bv w w2))
  case atStart => exact ⟨s, p + 1, Nat.le_refl _, HR, H1, HK1⟩
  case round =>
    obtain ⟨s2, p2, hkF, HRR, H2, HK2⟩ := hrel
    clear HR H1 HK1 H
    cases gk with
    | zero => exact absurd HRR.out (by simp [rowsG])
    | succ kq =>
      have hh := HRR.out
      simp only [rowsG] at hh
      by_cases hc : (tokAt ts len p2).kind = cl
      · rw [if_pos hc] at hh
        injection hh with hh
        subst hh
        have HC := Aside0.mk hc
        have hcb : (((tokAt ts len p2).kind : Int) == (cl : Int)) = true := by simp; omega
        clear hc
        go_wp2_with fail
        refine (peek_calls ts len G HG.out g b p2 o _ (HI.out _ _ _ H2.out).1).mono ?_
        rintro e w3 ⟨rfl, hb3⟩
        obtain ⟨h3, hk3⟩ := BEL.out _ _ _ _ H2.out hb3
        have H3 := Aside0.mk h3
        have HK3 := Aside0.mk (Kp.trans HK2.out hk3)
        clear h3 hk3 hb3
        unfold tkV
        go_wp2_with fail
        have hpl : p2 < ts.length := tok_lt (by rw [HC.out]; exact hcl)
        have hN := next_ok ts len G HG.out g b p2 o w3 (HI.out _ _ _ H3.out).1 hpl hl
        rw [HC.out] at hN
        refine hN.mono ?_
        clear hN
        rintro e w9 ⟨rfl, hz9, hk9⟩
        have H9 := Aside0.mk (HK.out _ _ _ _ _ (Nat.le_succ _) H3.out hk9 hz9)
        have HK9 := Aside0.mk (Kp.trans HK3.out (Kp.of_keep (c := bv) hk9 (HI.out _ _ _ H3.out).2))
        clear hz9 hk9
        go_wp2_with fail
        refine bodyPost_end (results_none rfl _ _ _) rfl ?_
        exact ⟨HK9.out, rfl, H9.out⟩
      · rw [if_neg hc] at hh
        have HC := Aside0.mk hc
        have hcb : (((tokAt ts len p2).kind : Int) == (cl : Int)) = false := by simp; omega
        clear hc
        cases ho : one kq s2 p2 with
        | none => rw [ho] at hh; cases hh
        | some r2 =>
          rw [ho] at hh
          go_wp2_with fail
          refine (peek_calls ts len G HG.out g b p2 o _ (HI.out _ _ _ H2.out).1).mono ?_
          rintro e w3 ⟨rfl, hb3⟩
          obtain ⟨h3, hk3⟩ := BEL.out _ _ _ _ H2.out hb3
          have H3 := Aside0.mk h3
          have HK3 := Aside0.mk (Kp.trans HK2.out hk3)
          clear h3 hk3 hb3
          unfold tkV
          have he := HE.out
          go_wp2_with fail
          refine (HO.out kq s2 p2 r2 w3 (by omega) H3.out ho).mono ?_
          clear he
          rintro e w4 ⟨hk4, h4⟩
          have HK4 := Aside0.mk (Kp.trans HK3.out hk4)
          clear hk4
          cases r2 with
          | bad c a =>
            obtain rfl := h4
            injection hh with hh
            subst hh
            exact ⟨rfl, HK4.out, rfl⟩
          | ok s3 p3 =>
            obtain ⟨rfl, h4⟩ := h4
            have H4 := Aside0.mk h4
            clear h4
            clear hcb
            simp only at hh
            by_cases hc3 : (tokAt ts len p3).kind = cl
            · rw [if_pos hc3] at hh
              injection hh with hh
              subst hh
              have HC3 := Aside0.mk hc3
              have hcb3 : (((tokAt ts len p3).kind : Int) == (cl : Int)) = true := by simp; omega
              clear hc3
              go_wp2_with fail
              refine (peek_calls ts len G HG.out g b p3 o _ (HI.out _ _ _ H4.out).1).mono ?_
              rintro e w5 ⟨rfl, hb3⟩
              obtain ⟨h3, hk3⟩ := BEL.out _ _ _ _ H4.out hb3
              have H5 := Aside0.mk h3
              have HK5 := Aside0.mk (Kp.trans HK4.out hk3)
              clear h3 hk3 hb3
              unfold tkV
              go_wp2_with fail
              have hpl : p3 < ts.length := tok_lt (by rw [HC3.out]; exact hcl)
              have hN := next_ok ts len G HG.out g b p3 o w5 (HI.out _ _ _ H5.out).1 hpl hl
              rw [HC3.out] at hN
              refine hN.mono ?_
              clear hN
              rintro e w9 ⟨rfl, hz9, hk9⟩
              have H9 := Aside0.mk (HK.out _ _ _ _ _ (Nat.le_succ _) H5.out hk9 hz9)
              have HK9 := Aside0.mk (Kp.trans HK5.out (Kp.of_keep (c := bv) hk9 (HI.out _ _ _ H5.out).2))
              clear hz9 hk9
              go_wp2_with fail
              refine bodyPost_end (results_none rfl _ _ _) rfl ?_
              exact ⟨HK9.out, rfl, H9.out⟩
            · rw [if_neg hc3] at hh
              have HC3 := Aside0.mk hc3
              have hcb3 : (((tokAt ts len p3).kind : Int) == (cl : Int)) = false := by simp; omega
              clear hc3
              go_wp2_with fail
              refine (peek_calls ts len G HG.out g b p3 o _ (HI.out _ _ _ H4.out).1).mono ?_
              rintro e w5 ⟨rfl, hb3⟩
              obtain ⟨h3, hk3⟩ := BEL.out _ _ _ _ H4.out hb3
              have H5 := Aside0.mk h3
              have HK5 := Aside0.mk (Kp.trans HK4.out hk3)
              clear h3 hk3 hb3
              unfold tkV
              go_wp2_with fail
              by_cases hc6 : (tokAt ts len p3).kind = 6
              · rw [if_neg (fun h => h hc6)] at hh
                have HC6 := Aside0.mk hc6
                clear hc6
                have hpl : p3 < ts.length := tok_lt (by rw [HC6.out]; decide)
                have hN := next_ok ts len G HG.out g b p3 o w5 (HI.out _ _ _ H5.out).1 hpl hl
                rw [HC6.out] at hN
                refine hN.mono ?_
                clear hN
                rintro e w6 ⟨rfl, hz9, hk9⟩
                have H6 := Aside0.mk (HK.out _ _ _ _ _ (Nat.le_succ _) H5.out hk9 hz9)
                have HK6 := Aside0.mk (Kp.trans HK5.out (Kp.of_keep (c := bv) hk9 (HI.out _ _ _ H5.out).2))
                clear hz9 hk9 hcb3
                unfold tkV
                by_cases hc7 : (tokAt ts len (p3 + 1)).kind = cl
                · rw [if_pos hc7] at hh
                  injection hh with hh
                  subst hh
                  have hcb7 : (((tokAt ts len (p3 + 1)).kind : Int) == (cl : Int)) = true := by simp; omega
                  clear hc7
                  go_wp2_with fail
                  refine (peek_calls ts len G HG.out g b (p3 + 1) o _ (HI.out _ _ _ H6.out).1).mono ?_
                  rintro e w7 ⟨rfl, hb3⟩
                  obtain ⟨h3, hk3⟩ := BEL.out _ _ _ _ H6.out hb3
                  have H7 := Aside0.mk h3
                  have HK7 := Aside0.mk (Kp.trans HK6.out hk3)
                  clear h3 hk3 hb3
                  unfold tkV
                  go_wp2_with fail
                  refine (refuse_calls ts len G HG.out g b (p3 + 1) o 20 _ (HI.out _ _ _ H7.out).1).mono ?_
                  rintro e w8 ⟨rfl, hb8⟩
                  exact ⟨rfl, Kp.trans HK7.out (BEL.out _ _ _ _ H7.out hb8).2, rfl⟩
                · rw [if_neg hc7] at hh
                  have hcb7 : (((tokAt ts len (p3 + 1)).kind : Int) == (cl : Int)) = false := by simp; omega
                  clear hc7
                  have HR4 := Aside0.mk hh
                  clear hh
                  go_wp2_with fail
                  refine (peek_calls ts len G HG.out g b (p3 + 1) o _ (HI.out _ _ _ H6.out).1).mono ?_
                  rintro e w7 ⟨rfl, hb3⟩
                  obtain ⟨h3, hk3⟩ := BEL.out _ _ _ _ H6.out hb3
                  have H7 := Aside0.mk h3
                  have HK7 := Aside0.mk (Kp.trans HK6.out hk3)
                  clear h3 hk3 hb3
                  unfold tkV
                  go_wp2_with fail
                  go_roundg kq
                  case measure => omega
                  case rel => exact ⟨s3, p3 + 1, by omega, HR4, H7, HK7⟩
              · rw [if_pos hc6] at hh
                injection hh with hh
                subst hh
                refine (next_bad ts len G HG.out g b p3 o 6 _ (HI.out _ _ _ H5.out).1 hc6).mono ?_
                rintro e w6 ⟨rfl, hb6⟩
                exact ⟨rfl, Kp.trans HK5.out (BEL.out _ _ _ _ H5.out hb6).2, rfl⟩
end Go.Proofs.YtegppkngdkkdcaaGreatDoor.Tr
end
section
set_option linter.unusedVariables false
set_option linter.unusedSimpArgs false
namespace Go.Proofs.YtegppkngdkkdcaaGreatDoor.Tr
open Go.RowKit Go.Proofs.YtegppkngdkkdcaaGreatDoorW.PrintWords Go.Proofs.YtegppkngdkkdcaaGreatDoorW.PrintLast Go.Proofs.YtegppkngdkkdcaaGreatDoorW.PrintMore
open Go.Proofs.YtegppkngdkkdcaaGreatDoor.Lx Go.Proofs.YtegppkngdkkdcaaGreatDoor.PS
def oneA (ts : List Tk) (len o f : Nat) (acc : List V) (p : Nat) : Option (SRes (List V)) := match valP ts len f o p with
  | none => none
  | some (.bad c a) => some (.bad c a)
  | some (.ok v p1) => some (.ok (acc ++ [v]) p1)
def oneN (ts : List Tk) (len o f : Nat) (s : List V × List ByteArray) (p : Nat) : Option (SRes (List V × List ByteArray)) := match nmStep ts len f o p s.2 with
  | none => none
  | some (.bad c a) => some (.bad c a)
  | some (.ok v p1) => some (.ok (s.1 ++ [v], s.2 ++ [toB (tokAt ts len p).text]) p1)
def endA : SRes (List V) → PRes
  | .ok s p => .ok ⟨5, 0, ⟨#[]⟩, s, []⟩ p
  | .bad c a => .bad c a
def endN : SRes (List V × List ByteArray) → PRes
  | .ok s p => .ok ⟨6, 0, ⟨#[]⟩, s.1, s.2⟩ p
  | .bad c a => .bad c a
theorem arrP_rows (ts : List Tk) (len o : Nat) : ∀ (f p : Nat) (acc : List V), arrP ts len f o p acc = (rowsG ts len 4 (oneA ts len o) f acc p).map endA
  | 0, p, acc => by simp [arrP, rowsG]
  | f + 1, p, acc => by
    simp only [arrP, rowsG, oneA]
    split
    · rfl
    · cases hv : valP ts len f o p with
      | none => rfl
      | some r => cases r with
        | bad c a => rfl
        | ok v p1 =>
          simp only
          split
          · rfl
          · split
            · rfl
            · split
              · rfl
              · exact arrP_rows ts len o f (p1 + 1) (acc ++ [v])
theorem mapP_rows (ts : List Tk) (len o : Nat) : ∀ (f p : Nat) (s : List V × List ByteArray), mapP ts len f o p s.1 s.2 = (rowsG ts len 2 (oneN ts len o) f s p).map endN
  | 0, p, s => by simp [mapP, rowsG]
  | f + 1, p, s => by
    simp only [mapP, rowsG, oneN, nmStep]
    split
    · rfl
    · split
      · rfl
      · split
        · rfl
        · split
          · rfl
          · cases hv : valP ts len f o (p + 2) with
            | none => rfl
            | some r => cases r with
              | bad c a => rfl
              | ok v p1 =>
                simp only
                split
                · rfl
                · split
                  · rfl
                  · split
                    · rfl
                    · exact mapP_rows ts len o f (p1 + 1) (s.1 ++ [v], s.2 ++ [toB (tokAt ts len p).text])
theorem valP_lt (ts : List Tk) (len : Nat) : ∀ (n f o p : Nat) (v : V) (p1 : Nat), f ≤ n → valP ts len f o p = some (.ok v p1) → p < p1
  | n, 0, o, p, v, p1, _, e => by simp [valP] at e
  | 0, f + 1, o, p, v, p1, hn, e => by omega
  | n + 1, f + 1, o, p, v, p1, hn, e => by
    have hrow : ∀ (f' : Nat), f' ≤ n → ∀ o p v p1, valP ts len f' o p = some (.ok v p1) → p < p1 := fun f' h o p v p1 e => valP_lt ts len n f' o p v p1 h e
    simp only [valP] at e
    split at e
    · cases e; omega
    · split at e
      · cases e; omega
      · split at e
        · cases e; omega
        · split at e
          · split at e
            · cases e
            · have := arr_lt ts len n hrow f (by omega) (o + 1) (p + 1) [] v p1 e
              omega
          · split at e
            · split at e
              · cases e
              · have := map_lt ts len n hrow f (by omega) (o + 1) (p + 1) [] [] v p1 e
                omega
            · cases e
where
  arr_lt (ts : List Tk) (len n : Nat) (hrow : ∀ (f' : Nat), f' ≤ n → ∀ o p v p1, valP ts len f' o p = some (.ok v p1) → p < p1) (f : Nat) (hf : f ≤ n) (o p : Nat) (acc : List V) (v : V) (p1 : Nat) (e : arrP ts len f o p acc = some (.ok v p1)) : p < p1 := by
    induction f generalizing p acc with
    | zero => simp [arrP] at e
    | succ f ih =>
      simp only [arrP] at e
      split at e
      · cases e; omega
      · cases hv : valP ts len f o p with
        | none => rw [hv] at e; cases e
        | some r =>
          rw [hv] at e
          cases r with
          | bad c a => cases e
          | ok v2 p2 =>
            have h2 := hrow f (by omega) _ _ _ _ hv
            simp only at e
            split at e
            · cases e; omega
            · split at e
              · cases e
              · split at e
                · cases e
                · have := ih (by omega) _ _ e
                  omega
  map_lt (ts : List Tk) (len n : Nat) (hrow : ∀ (f' : Nat), f' ≤ n → ∀ o p v p1, valP ts len f' o p = some (.ok v p1) → p < p1) (f : Nat) (hf : f ≤ n) (o p : Nat) (acc : List V) (nm : List ByteArray) (v : V) (p1 : Nat) (e : mapP ts len f o p acc nm = some (.ok v p1)) : p < p1 := by
    induction f generalizing p acc nm with
    | zero => simp [mapP] at e
    | succ f ih =>
      simp only [mapP] at e
      split at e
      · cases e; omega
      · split at e
        · cases e
        · split at e
          · cases e
          · split at e
            · cases e
            · cases hv : valP ts len f o (p + 2) with
              | none => rw [hv] at e; cases e
              | some r =>
                rw [hv] at e
                cases r with
                | bad c a => cases e
                | ok v2 p2 =>
                  have h2 := hrow f (by omega) _ _ _ _ hv
                  simp only at e
                  split at e
                  · cases e; omega
                  · split at e
                    · cases e
                    · split at e
                      · cases e
                      · have := ih (by omega) _ _ _ e
                        omega
theorem valP_lt' {ts : List Tk} {len f o p : Nat} {v : V} {p1 : Nat} (e : valP ts len f o p = some (.ok v p1)) : p < p1 := valP_lt ts len f f o p v p1 (Nat.le_refl _) e
theorem nmStep_lt {ts : List Tk} {len f o p : Nat} {nm : List ByteArray} {v : V} {p1 : Nat} (e : nmStep ts len f o p nm = some (.ok v p1)) : p < p1 := by
  unfold nmStep at e
  split at e
  · cases e
  · split at e
    · cases e
    · split at e
      · cases e
      · have := valP_lt' e
        omega
end Go.Proofs.YtegppkngdkkdcaaGreatDoor.Tr
end
section
set_option linter.unusedVariables false
set_option linter.unusedSimpArgs false
namespace Go.Proofs.YtegppkngdkkdcaaGreatDoor.Tr
open Go.RowKit Go.Proofs.YtegppkngdkkdcaaGreatDoorW.PrintWords Go.Proofs.YtegppkngdkkdcaaGreatDoorW.PrintLast Go.Proofs.YtegppkngdkkdcaaGreatDoorW.PrintMore
open Go.Proofs.YtegppkngdkkdcaaGreatDoor.Lx Go.Proofs.YtegppkngdkkdcaaGreatDoor.PS
def AI (ts : List Tk) (len : Nat) (G : Obj) (base g b bv bp o : Nat) (acc : List V) (p : Nat) (w : World) : Prop :=
  Pz ts len G g b p o w ∧ base ≤ w.heap.size ∧ acc.length ≤ p ∧ w.heap[bp]? = some (.cells #[.pointer (some ⟨b, 0, none⟩)] 49 (0, 0)) ∧
  ∃ vl, w.heap[bv]? = some (.cells #[.int .i64 5, .int .i64 0, .string ⟨#[]⟩, vl, .slice none 0 0] 26 (0, 0)) ∧ k26.R 26 w base (fun _ => True) vl acc
def MI (ts : List Tk) (len : Nat) (G : Obj) (base g b bv bp o : Nat) (s : List V × List ByteArray) (p : Nat) (w : World) : Prop :=
  s.1.length ≤ p ∧ s.2.length ≤ p ∧ ∃ vl nl, Mz ts len G base g b bv bp p o s.1 s.2 vl nl w
theorem AI_keep {ts : List Tk} {len : Nat} {G : Obj} {base g b bv bp o : Nat} (hL : Lay base g b bv bp) (acc : List V) (p p' : Nat) (w w' : World) (h : AI ts len G base g b bv bp o acc p w) (hk : KeepR b w w') (hz : Pz ts len G g b p' o w') (hp : p ≤ p') : AI ts len G base g b bv bp o acc p' w' := by
  obtain ⟨h1, h2, h3, h4, vl, h5, h6⟩ := h
  have hs := hk.2.1
  exact ⟨hz, by omega, by omega, (hk.2.2 bp (by have := hL.lp; omega) (fun e => hL.np e.symm)).trans h4, vl, (hk.2.2 bv (by have := hL.lv; omega) (fun e => hL.nv e.symm)).trans h5,
    Kd.R_mono (Kd.R_step (Kd.R_bound h6) fun k hk1 hk2 => hk.2.2 k hk2 (by have := hk1.2.1; have := hL.lb; omega)) (fun _ _ => trivial)⟩
theorem AI_one {ts : List Tk} {len : Nat} {G : Obj} {base g b bv bp o n : Nat} (hl : ts.length ≤ 1000000) (ho : o ≤ 8) (IH : ∀ f, f < n → ValC ts len G f) (hL : Lay base g b bv bp) :
    OneC ts len G base g b bv o (AI ts len G base g b bv bp o) (oneA ts len o) 69 #[.pointer (some ⟨bv, 0, none⟩), .pointer (some ⟨bp, 0, none⟩)] n := by
  intro f s p r w hf hI h1
  obtain ⟨hz, hb, hsp, hp, vl, hv, hR⟩ := hI
  have hpl := hz.le
  unfold oneA at h1
  cases hv1 : valP ts len f o p with
  | none => rw [hv1] at h1; cases h1
  | some r1 =>
    rw [hv1] at h1
    cases r1 with
    | bad c a =>
      cases h1
      refine (arr1_bad ts len G f (IH f hf) base g b bv bp o p c a vl s w ho hv1 hz hb hL.lb (by omega) hv hp hR).mono ?_
      rintro e w' ⟨rfl, hk⟩
      exact ⟨Kp.of_keep hk hb, rfl⟩
    | ok v p1 =>
      cases h1
      refine (arr1_ok ts len G f (IH f hf) base g b bv bp o p p1 v vl s w ho hv1 hz hb hL.lg hL.lb hL.lv hL.lp hL.nv hL.np hL.gv hL.vp (by omega) hv hp hR).mono ?_
      rintro e w' ⟨rfl, hk, hz', vl', hv', hR'⟩
      refine ⟨hk, rfl, hz', Nat.le_trans hb hk.2.2.2.1, ?_, (hk.2.2.2.2 bp hL.lp (fun e => hL.np e.symm) (fun e => hL.vp e.symm)).trans hp, vl', hv', hR'⟩
      have := valP_lt' hv1
      rw [List.length_append]
      simp
      omega
theorem MI_one {ts : List Tk} {len : Nat} {G : Obj} {base g b bv bp o n : Nat} (hG : RowG ts len G) (hl : ts.length ≤ 1000000) (ho : o ≤ 8) (IH : ∀ f, f < n → ValC ts len G f) (hL : Lay base g b bv bp) :
    OneC ts len G base g b bv o (MI ts len G base g b bv bp o) (oneN ts len o) 70 #[.pointer (some ⟨bp, 0, none⟩), .pointer (some ⟨bv, 0, none⟩)] n := by
  intro f s p r w hf hI h1
  obtain ⟨ha, hn, vl, nl, hM⟩ := hI
  have hpl := hM.pz.le
  unfold oneN at h1
  cases hv1 : nmStep ts len f o p s.2 with
  | none => rw [hv1] at h1; cases h1
  | some r1 =>
    refine (nam1_calls ts len G hG f (IH f hf) base g b bv bp o p r1 s.1 s.2 vl nl w ho hv1 hl hL hM (by omega) (by omega)).mono ?_
    rintro e w' ⟨hk, h2⟩
    rw [hv1] at h1
    cases r1 with
    | bad c a =>
      cases h1
      exact ⟨hk, h2⟩
    | ok v p1 =>
      cases h1
      obtain ⟨rfl, vl', nl', hM'⟩ := h2
      have := nmStep_lt hv1
      exact ⟨hk, rfl, by rw [List.length_append]; simp; omega, by rw [List.length_append]; simp; omega, vl', nl', hM'⟩
theorem keep_of_Kp {base b bv : Nat} {w w3 w4 : World} (hb : Below w.heap.size w w3) (hk : Kp base b bv w3 w4) (h1 : w.heap.size ≤ base) (h2 : w.heap.size ≤ bv) (hbw : b < w.heap.size) : KeepR b w w4 :=
  ⟨⟨hk.1.trans hb.os, hk.2.1.trans hb.tape, hk.2.2.1.trans hb.output, Nat.le_trans hb.size hk.2.2.2.1, fun k h => (hk.2.2.2.2 k (by omega) (by omega) (by omega)).trans (hb.block k (by omega))⟩, Nat.le_trans hb.size hk.2.2.2.1, fun k h3 h4 => (hk.2.2.2.2 k (by omega) h4 (by omega)).trans (hb.block k h3)⟩
theorem three_new (w : World) (a b c : Obj) : (((w.alloc a).alloc b).alloc c).heap[w.heap.size]? = some a ∧ (((w.alloc a).alloc b).alloc c).heap[w.heap.size + 1]? = some b ∧ (((w.alloc a).alloc b).alloc c).heap[w.heap.size + 1 + 1]? = some c ∧
    (((w.alloc a).alloc b).alloc c).heap.size = w.heap.size + 3 ∧ Below w.heap.size w (((w.alloc a).alloc b).alloc c) := by
  have s1 : (w.alloc a).heap.size = w.heap.size + 1 := by simp
  have s2 : ((w.alloc a).alloc b).heap.size = w.heap.size + 1 + 1 := by simp
  have n1 := blk_new w a
  have n2 := blk_new (w.alloc a) b
  have n3 := blk_new ((w.alloc a).alloc b) c
  rw [s1] at n2
  rw [s2] at n3
  exact ⟨blk_alloc (blk_alloc n1 b) c, blk_alloc n2 c, n3, by simp, (((Below.refl _ _).alloc (Nat.le_refl _) _).alloc (by simp) _).alloc (by simp; omega) _⟩
theorem res_array (tmps : Array Value) (w : World) (b : Nat) (v0 v1 v2 v3 v4 : Value) (h4 : tmps.getD 2 undef = .pointer (some ⟨b, 0, none⟩)) (hb : w.heap[b]? = some (.cells #[v0, v1, v2, v3, v4] 26 (0, 0))) :
    (results Tryz.f42 tmps).run Tryz.prog w = .ok (.agg #[v0, v1, v2, v3, v4]) w := by
  have c0 := blk_cell hb 0
  have c1 := blk_cell hb 1
  have c2 := blk_cell hb 2
  have c3 := blk_cell hb 3
  have c4 := blk_cell hb 4
  rw [Array.getD_eq_getD_getElem?] at h4
  simp [results, Tryz.results42, h4, c0, c1, c2, c3, c4, go_sem]
theorem res_named (tmps : Array Value) (w : World) (b : Nat) (v0 v1 v2 v3 v4 : Value) (h4 : tmps.getD 2 undef = .pointer (some ⟨b, 0, none⟩)) (hb : w.heap[b]? = some (.cells #[v0, v1, v2, v3, v4] 26 (0, 0))) :
    (results Tryz.f44 tmps).run Tryz.prog w = .ok (.agg #[v0, v1, v2, v3, v4]) w := by
  have c0 := blk_cell hb 0
  have c1 := blk_cell hb 1
  have c2 := blk_cell hb 2
  have c3 := blk_cell hb 3
  have c4 := blk_cell hb 4
  rw [Array.getD_eq_getD_getElem?] at h4
  simp [results, Tryz.results44, h4, c0, c1, c2, c3, c4, go_sem]
theorem arr1_enters (args : Array Value) (w : World) : (callFunc 69 args).run Tryz.prog w = .ok (.enter 69 args) w := enters_ Tryz.func69 (by kernel_rfl) (by kernel_rfl) args w
theorem nam1_enters (args : Array Value) (w : World) : (callFunc 70 args).run Tryz.prog w = .ok (.enter 70 args) w := enters_ Tryz.func70 (by kernel_rfl) (by kernel_rfl) args w
set_option maxRecDepth 100000 in
set_option maxHeartbeats 2000000 in
theorem array_calls (ts : List Tk) (len : Nat) (G : Obj) (hG : RowG ts len G) (hl : ts.length ≤ 1000000) (n : Nat) (IH : ∀ f, f < n → ValC ts len G f) (g b o p : Nat) (r : PRes) (w : World) (ho : o ≤ 8) (hk : (tokAt ts len p).kind = 3)
    (hr : arrP ts len n o (p + 1) [] = some r) (h : Pz ts len G g b p o w) : Calls Tryz.prog 42 #[.pointer (some ⟨b, 0, none⟩)] w (VQ ts len G g b o r w) := by
  rw [arrP_rows] at hr
  obtain ⟨r, hr2, rfl⟩ := Option.map_eq_some_iff.1 hr
  clear hr
  have hmf : ∀ (fn : Fn) (first cap : Array Value) (w : World), (Instr.makeFunc fn first cap).run Tryz.prog w = .ok (.func fn first cap) w := fun _ _ _ _ => rfl
  have HH := Aside0.mk h
  have HR := Aside0.mk hr2
  have HIH := Aside0.mk IH
  have HG := Aside0.mk hG
  clear h hr2 IH hG
  go_enter Tryz.func42, Tryz.ntmps42
  go_wp2_with fail
  have T3 := three_new w (.cells #[.pointer (some ⟨b, 0, none⟩)] 49 (0, 0)) (.cells #[.int .i64 0, .int .i64 0, .string ⟨#[]⟩, .slice none 0 0, .slice none 0 0] 26 (0, 0)) (.cells #[.int .i64 5, .int .i64 0, .string ⟨#[]⟩, .slice none 0 0, .slice none 0 0] 26 (0, 0))
  generalize (((w.alloc (.cells #[.pointer (some ⟨b, 0, none⟩)] 49 (0, 0))).alloc (.cells #[.int .i64 0, .int .i64 0, .string ⟨#[]⟩, .slice none 0 0, .slice none 0 0] 26 (0, 0))).alloc (.cells #[.int .i64 5, .int .i64 0, .string ⟨#[]⟩, .slice none 0 0, .slice none 0 0] 26 (0, 0))) = W3 at *
  obtain ⟨nb, nr, nv, ns, hB3⟩ := T3
  have hbw : b < w.heap.size := by
    obtain ⟨⟨_, h, _⟩, _⟩ := HH.out
    exact blk_lt h
  have hgw : g < w.heap.size := blk_lt HH.out.row
  have HL : Lay (w.heap.size + 3) g b (w.heap.size + 1 + 1) w.heap.size := ⟨by omega, by omega, by omega, by omega, by omega, by omega, by omega, by omega⟩
  have HLA := Aside0.mk HL
  have hz3 := HH.out.keep hB3
  refine (rows_calls ts len G HG.out hl (w.heap.size + 3) g b (w.heap.size + 1 + 1) o 3 4 (AI ts len G (w.heap.size + 3) g b (w.heap.size + 1 + 1) w.heap.size o) (oneA ts len o) 69 _ arr1_enters n (AI_one hl ho HIH.out HL) (fun s p w h => ⟨h.1, h.2.1⟩) (fun s p p' w w' hp h hk hz => AI_keep HL s p p' w w' h hk hz hp) HL.lb (by decide) (by decide) (by decide)
    [] p W3 r hk ⟨hz3, by omega, Nat.zero_le _, nb, _, nv, Kd.R_nil _ _ _ _ _⟩ HR.out).mono ?_
  rintro e w4 ⟨hk4, h4⟩
  have HKR := Aside0.mk (keep_of_Kp hB3 hk4 (by omega) (by omega) hbw)
  cases r with
  | bad c a =>
    obtain rfl := h4
    exact ⟨rfl, HKR.out, rfl⟩
  | ok s p1 =>
    obtain ⟨rfl, hz4, hs4, _, hbp4, vl, hv4, hR4⟩ := h4
    have hr4 := (hk4.2.2.2.2 (w.heap.size + 1) (by omega) (by omega) (by omega)).trans nr
    obtain ⟨Av, cv, rfl⟩ := Kd.R_slice hR4
    have HZ4 := Aside0.mk hz4
    have HR4 := Aside0.mk hR4
    have HV4 := Aside0.mk hv4
    have HRES := Aside0.mk hr4
    have e0 : w4.cell? ⟨w.heap.size + 1 + 1, 0, none⟩ = some (.int .i64 5) := blk_cell hv4 0
    have e1 : w4.cell? ⟨w.heap.size + 1 + 1, 1, none⟩ = some (.int .i64 0) := blk_cell hv4 1
    have e2 : w4.cell? ⟨w.heap.size + 1 + 1, 2, none⟩ = some (.string ⟨#[]⟩) := blk_cell hv4 2
    have e3 : w4.cell? ⟨w.heap.size + 1 + 1, 3, none⟩ = some (.slice Av s.length cv) := blk_cell hv4 3
    have e4 : w4.cell? ⟨w.heap.size + 1 + 1, 4, none⟩ = some (.slice none 0 0) := blk_cell hv4 4
    have d0 : w4.cell? ⟨w.heap.size + 1, 0, none⟩ = some (.int .i64 0) := blk_cell hr4 0
    have d1 : w4.cell? ⟨w.heap.size + 1, 1, none⟩ = some (.int .i64 0) := blk_cell hr4 1
    have d2 : w4.cell? ⟨w.heap.size + 1, 2, none⟩ = some (.string ⟨#[]⟩) := blk_cell hr4 2
    have d3 : w4.cell? ⟨w.heap.size + 1, 3, none⟩ = some (.slice none 0 0) := blk_cell hr4 3
    have d4 : w4.cell? ⟨w.heap.size + 1, 4, none⟩ = some (.slice none 0 0) := blk_cell hr4 4
    have fd : ∀ j, w4.frozen? ⟨w.heap.size + 1, j, none⟩ = false := blk_frozen hr4
    clear hz4 hR4 hv4 hr4 hbp4 hs4 hz3 nb nr nv
    go_wp2
    refine bodyPost_ret (res_array _ _ (w.heap.size + 1) _ _ _ _ _ rfl (blk_set5 HRES.out _ _ _ _ _)) rfl ⟨keep5 HKR.out hbw (by omega) _ _ _ _ _, ⟨_, _, rfl, ?_, Kd.R_nil _ _ _ _ _⟩, ?_⟩
    · exact Kd.R_mono (Kd.R_lower (Kd.R_step (Kd.R_bound HR4.out) fun k hk1 _ => by
        have := hk1.2.1
        rw [far_set _ _ _ _ _ (by omega), far_set _ _ _ _ _ (by omega), far_set _ _ _ _ _ (by omega), far_set _ _ _ _ _ (by omega), far_set _ _ _ _ _ (by omega)]) (by omega)) (fun _ _ => trivial)
    · exact HZ4.out.move (by rw [far_set _ _ _ _ _ (by omega), far_set _ _ _ _ _ (by omega), far_set _ _ _ _ _ (by omega), far_set _ _ _ _ _ (by omega), far_set _ _ _ _ _ (by omega)]) (by rw [far_set _ _ _ _ _ (by omega), far_set _ _ _ _ _ (by omega), far_set _ _ _ _ _ (by omega), far_set _ _ _ _ _ (by omega), far_set _ _ _ _ _ (by omega)])
set_option maxRecDepth 100000 in
set_option maxHeartbeats 2000000 in
theorem named_calls (ts : List Tk) (len : Nat) (G : Obj) (hG : RowG ts len G) (hl : ts.length ≤ 1000000) (n : Nat) (IH : ∀ f, f < n → ValC ts len G f) (g b o p : Nat) (r : PRes) (w : World) (ho : o ≤ 8) (hk : (tokAt ts len p).kind = 1)
    (hr : mapP ts len n o (p + 1) [] [] = some r) (h : Pz ts len G g b p o w) : Calls Tryz.prog 44 #[.pointer (some ⟨b, 0, none⟩)] w (VQ ts len G g b o r w) := by
  rw [show mapP ts len n o (p + 1) [] [] = _ from mapP_rows ts len o n (p + 1) ([], [])] at hr
  obtain ⟨r, hr2, rfl⟩ := Option.map_eq_some_iff.1 hr
  clear hr
  have hmf : ∀ (fn : Fn) (first cap : Array Value) (w : World), (Instr.makeFunc fn first cap).run Tryz.prog w = .ok (.func fn first cap) w := fun _ _ _ _ => rfl
  have HH := Aside0.mk h
  have HR := Aside0.mk hr2
  have HIH := Aside0.mk IH
  have HG := Aside0.mk hG
  clear h hr2 IH hG
  go_enter Tryz.func44, Tryz.ntmps44
  go_wp2_with fail
  have T3 := three_new w (.cells #[.pointer (some ⟨b, 0, none⟩)] 49 (0, 0)) (.cells #[.int .i64 0, .int .i64 0, .string ⟨#[]⟩, .slice none 0 0, .slice none 0 0] 26 (0, 0)) (.cells #[.int .i64 6, .int .i64 0, .string ⟨#[]⟩, .slice none 0 0, .slice none 0 0] 26 (0, 0))
  generalize (((w.alloc (.cells #[.pointer (some ⟨b, 0, none⟩)] 49 (0, 0))).alloc (.cells #[.int .i64 0, .int .i64 0, .string ⟨#[]⟩, .slice none 0 0, .slice none 0 0] 26 (0, 0))).alloc (.cells #[.int .i64 6, .int .i64 0, .string ⟨#[]⟩, .slice none 0 0, .slice none 0 0] 26 (0, 0))) = W3 at *
  obtain ⟨nb, nr, nv, ns, hB3⟩ := T3
  have hbw : b < w.heap.size := by
    obtain ⟨⟨_, h, _⟩, _⟩ := HH.out
    exact blk_lt h
  have hgw : g < w.heap.size := blk_lt HH.out.row
  have HL : Lay (w.heap.size + 3) g b (w.heap.size + 1 + 1) w.heap.size := ⟨by omega, by omega, by omega, by omega, by omega, by omega, by omega, by omega⟩
  have HLA := Aside0.mk HL
  have hz3 := HH.out.keep hB3
  refine (rows_calls ts len G HG.out hl (w.heap.size + 3) g b (w.heap.size + 1 + 1) o 1 2 (MI ts len G (w.heap.size + 3) g b (w.heap.size + 1 + 1) w.heap.size o) (oneN ts len o) 70 _ nam1_enters n (MI_one HG.out hl ho HIH.out HL) (fun s p w h => by
      obtain ⟨_, _, vl, nl, hM⟩ := h
      exact ⟨hM.pz, hM.sz⟩) (fun s p p' w w' hp h hk hz => by
      obtain ⟨h1, h2, vl, nl, hM⟩ := h
      exact ⟨by omega, by omega, vl, nl, hM.keep HL hk hz⟩) HL.lb (by decide) (by decide) (by decide)
    ([], []) p W3 r hk ⟨Nat.zero_le _, Nat.zero_le _, _, _, hz3, nv, nb, Kd.R_nil _ _ _ _ _, Kd.R_nil _ _ _ _ _, by omega⟩ HR.out).mono ?_
  rintro e w4 ⟨hk4, h4⟩
  have HKR := Aside0.mk (keep_of_Kp hB3 hk4 (by omega) (by omega) hbw)
  cases r with
  | bad c a =>
    obtain rfl := h4
    exact ⟨rfl, HKR.out, rfl⟩
  | ok s p1 =>
    obtain ⟨rfl, _, _, vl, nl, hM4⟩ := h4
    have hz4 := hM4.pz
    have hv4 := hM4.hv
    have hR4 := hM4.rv
    have hN4 := hM4.rn
    obtain ⟨An, cn, rfl⟩ := Kd.R_slice hN4
    have HN4 := Aside0.mk hN4
    clear hM4 hN4
    have hr4 := (hk4.2.2.2.2 (w.heap.size + 1) (by omega) (by omega) (by omega)).trans nr
    obtain ⟨Av, cv, rfl⟩ := Kd.R_slice hR4
    have HZ4 := Aside0.mk hz4
    have HR4 := Aside0.mk hR4
    have HV4 := Aside0.mk hv4
    have HRES := Aside0.mk hr4
    have e0 : w4.cell? ⟨w.heap.size + 1 + 1, 0, none⟩ = some (.int .i64 6) := blk_cell hv4 0
    have e1 : w4.cell? ⟨w.heap.size + 1 + 1, 1, none⟩ = some (.int .i64 0) := blk_cell hv4 1
    have e2 : w4.cell? ⟨w.heap.size + 1 + 1, 2, none⟩ = some (.string ⟨#[]⟩) := blk_cell hv4 2
    have e3 : w4.cell? ⟨w.heap.size + 1 + 1, 3, none⟩ = some (.slice Av s.1.length cv) := blk_cell hv4 3
    have e4 : w4.cell? ⟨w.heap.size + 1 + 1, 4, none⟩ = some (.slice An s.2.length cn) := blk_cell hv4 4
    have d0 : w4.cell? ⟨w.heap.size + 1, 0, none⟩ = some (.int .i64 0) := blk_cell hr4 0
    have d1 : w4.cell? ⟨w.heap.size + 1, 1, none⟩ = some (.int .i64 0) := blk_cell hr4 1
    have d2 : w4.cell? ⟨w.heap.size + 1, 2, none⟩ = some (.string ⟨#[]⟩) := blk_cell hr4 2
    have d3 : w4.cell? ⟨w.heap.size + 1, 3, none⟩ = some (.slice none 0 0) := blk_cell hr4 3
    have d4 : w4.cell? ⟨w.heap.size + 1, 4, none⟩ = some (.slice none 0 0) := blk_cell hr4 4
    have fd : ∀ j, w4.frozen? ⟨w.heap.size + 1, j, none⟩ = false := blk_frozen hr4
    clear hz4 hR4 hv4 hr4 hz3 nb nr nv
    go_wp2
    refine bodyPost_ret (res_named _ _ (w.heap.size + 1) _ _ _ _ _ rfl (blk_set5 HRES.out _ _ _ _ _)) rfl ⟨keep5 HKR.out hbw (by omega) _ _ _ _ _, ⟨_, _, rfl, ?_, ?_⟩, ?_⟩
    · exact Kd.R_mono (Kd.R_lower (Kd.R_step (Kd.R_bound HR4.out) fun k hk1 _ => by
        have := hk1.2.1
        rw [far_set _ _ _ _ _ (by omega), far_set _ _ _ _ _ (by omega), far_set _ _ _ _ _ (by omega), far_set _ _ _ _ _ (by omega), far_set _ _ _ _ _ (by omega)]) (by omega)) (fun _ _ => trivial)
    · exact Kd.R_mono (Kd.R_lower (Kd.R_step (Kd.R_bound HN4.out) fun k hk1 _ => by
        have := hk1.2.1
        rw [far_set _ _ _ _ _ (by omega), far_set _ _ _ _ _ (by omega), far_set _ _ _ _ _ (by omega), far_set _ _ _ _ _ (by omega), far_set _ _ _ _ _ (by omega)]) (by omega)) (fun _ _ => trivial)
    · exact HZ4.out.move (by rw [far_set _ _ _ _ _ (by omega), far_set _ _ _ _ _ (by omega), far_set _ _ _ _ _ (by omega), far_set _ _ _ _ _ (by omega), far_set _ _ _ _ _ (by omega)]) (by rw [far_set _ _ _ _ _ (by omega), far_set _ _ _ _ _ (by omega), far_set _ _ _ _ _ (by omega), far_set _ _ _ _ _ (by omega), far_set _ _ _ _ _ (by omega)])
end Go.Proofs.YtegppkngdkkdcaaGreatDoor.Tr
end
section
set_option linter.unusedVariables false
set_option linter.unusedSimpArgs false
namespace Go.Proofs.YtegppkngdkkdcaaGreatDoor.Tr
open Go.RowKit Go.Proofs.YtegppkngdkkdcaaGreatDoorW.PrintWords Go.Proofs.YtegppkngdkkdcaaGreatDoorW.PrintLast Go.Proofs.YtegppkngdkkdcaaGreatDoorW.PrintMore
open Go.Proofs.YtegppkngdkkdcaaGreatDoor.Lx Go.Proofs.YtegppkngdkkdcaaGreatDoor.PS
attribute [local go_sem high] fld0 fld1 fld2 fld3
theorem far5' {w : World} {g b : Nat} (hne : g ≠ b) (v0 v1 v2 v3 v4 : Value) :
    (((((w.setCell ⟨b, 0, none⟩ v0).setCell ⟨b, 1, none⟩ v1).setCell ⟨b, 2, none⟩ v2).setCell ⟨b, 3, none⟩ v3).setCell ⟨b, 4, none⟩ v4).heap[g]? = w.heap[g]? := by
  rw [far_set _ _ _ _ _ hne, far_set _ _ _ _ _ hne, far_set _ _ _ _ _ hne, far_set _ _ _ _ _ hne, far_set _ _ _ _ _ hne]
theorem VQ_put {ts : List Tk} {len : Nat} {G : Obj} {g b o r p1 : Nat} {w w1 w2 : World} {v : V} {v3 v4 : Value} (hb : KeepR b w w1) (hbw : b < w.heap.size) (hgw : g < w.heap.size) (hr1 : w.heap.size ≤ r) (hr2 : r < w1.heap.size) (hq : KeepR b w1 w2) (hz : Pz ts len G g b p1 o w2)
    (h3 : k26.R 26 w2 w1.heap.size (fun _ => True) v3 v.f3) (h4 : Kd.string.R 9 w2 w1.heap.size (fun _ => True) v4 v.f4) :
    VQ ts len G g b o (.ok v p1) w (.returned (.agg #[.int .i64 v.f0, .int .i64 v.f1, .string v.f2, v3, v4]))
      (((((w2.setCell ⟨r, 0, none⟩ (.int .i64 v.f0)).setCell ⟨r, 1, none⟩ (.int .i64 v.f1)).setCell ⟨r, 2, none⟩ (.string v.f2)).setCell ⟨r, 3, none⟩ v3).setCell ⟨r, 4, none⟩ v4) := by
  have hs := hb.2.1
  refine ⟨keep5 (hb.trans hq) hbw hr1 _ _ _ _ _, ⟨v3, v4, rfl, ?_, ?_⟩, hz.move (far5' (by omega) _ _ _ _ _) (far5' (by omega) _ _ _ _ _)⟩
  · exact Kd.R_mono (Kd.R_lower (Kd.R_step (Kd.R_bound h3) fun k hk1 _ => far5' (by have := hk1.2.1; omega) _ _ _ _ _) hs) (fun _ _ => trivial)
  · exact Kd.R_mono (Kd.R_lower (Kd.R_step (Kd.R_bound h4) fun k hk1 _ => far5' (by have := hk1.2.1; omega) _ _ _ _ _) hs) (fun _ _ => trivial)
theorem Pz.lt {ts : List Tk} {len : Nat} {G : Obj} {g b p o : Nat} {w : World} (h : Pz ts len G g b p o w) : b < w.heap.size ∧ g < w.heap.size := by
  obtain ⟨⟨c, h1, _⟩, h3, _, _⟩ := h
  exact ⟨blk_lt h1, blk_lt h3⟩
theorem Pz.open {ts : List Tk} {len : Nat} {G : Obj} {g b p o : Nat} {w : World} (h : Pz ts len G g b p o w) (o' : Nat) : Pz ts len G g b p o' (w.setCell ⟨b, 1, none⟩ (.int .i64 o')) := by
  obtain ⟨⟨c, h1, h2⟩, h3, h4, h5⟩ := h
  exact ⟨⟨c, blk_put h1 1 _ rfl, h2⟩, (far_set _ _ _ _ _ h5).trans h3, h4, h5⟩
theorem res_val1 (tmps : Array Value) (w : World) (b : Nat) (v0 v1 v2 v3 v4 : Value) (h4 : tmps.getD 1 undef = .pointer (some ⟨b, 0, none⟩)) (hb : w.heap[b]? = some (.cells #[v0, v1, v2, v3, v4] 26 (0, 0))) :
    (results Tryz.f41 tmps).run Tryz.prog w = .ok (.agg #[v0, v1, v2, v3, v4]) w := by
  have c0 := blk_cell hb 0
  have c1 := blk_cell hb 1
  have c2 := blk_cell hb 2
  have c3 := blk_cell hb 3
  have c4 := blk_cell hb 4
  rw [Array.getD_eq_getD_getElem?] at h4
  simp [results, Tryz.results41, h4, c0, c1, c2, c3, c4, go_sem]
theorem res_val2 (tmps : Array Value) (w : World) (b : Nat) (v0 v1 v2 v3 v4 : Value) (h4 : tmps.getD 1 undef = .pointer (some ⟨b, 0, none⟩)) (hb : w.heap[b]? = some (.cells #[v0, v1, v2, v3, v4] 26 (0, 0))) :
    (results Tryz.f43 tmps).run Tryz.prog w = .ok (.agg #[v0, v1, v2, v3, v4]) w := by
  have c0 := blk_cell hb 0
  have c1 := blk_cell hb 1
  have c2 := blk_cell hb 2
  have c3 := blk_cell hb 3
  have c4 := blk_cell hb 4
  rw [Array.getD_eq_getD_getElem?] at h4
  simp [results, Tryz.results43, h4, c0, c1, c2, c3, c4, go_sem]
theorem res_within (tmps : Array Value) (w : World) (b : Nat) (v0 v1 v2 v3 v4 : Value) (h4 : tmps.getD 4 undef = .pointer (some ⟨b, 0, none⟩)) (hb : w.heap[b]? = some (.cells #[v0, v1, v2, v3, v4] 26 (0, 0))) :
    (results Tryz.f40 tmps).run Tryz.prog w = .ok (.agg #[v0, v1, v2, v3, v4]) w := by
  have c0 := blk_cell hb 0
  have c1 := blk_cell hb 1
  have c2 := blk_cell hb 2
  have c3 := blk_cell hb 3
  have c4 := blk_cell hb 4
  rw [Array.getD_eq_getD_getElem?] at h4
  simp [results, Tryz.results40, h4, c0, c1, c2, c3, c4, go_sem]
theorem res_value (tmps : Array Value) (w : World) (b : Nat) (v0 v1 v2 v3 v4 : Value) (h4 : tmps.getD 2 undef = .pointer (some ⟨b, 0, none⟩)) (hb : w.heap[b]? = some (.cells #[v0, v1, v2, v3, v4] 26 (0, 0))) :
    (results Tryz.f21 tmps).run Tryz.prog w = .ok (.agg #[v0, v1, v2, v3, v4]) w := by
  have c0 := blk_cell hb 0
  have c1 := blk_cell hb 1
  have c2 := blk_cell hb 2
  have c3 := blk_cell hb 3
  have c4 := blk_cell hb 4
  rw [Array.getD_eq_getD_getElem?] at h4
  simp [results, Tryz.results21, h4, c0, c1, c2, c3, c4, go_sem]
set_option maxRecDepth 100000 in
theorem val1_calls (ts : List Tk) (len : Nat) (G : Obj) (g b o p bq : Nat) (r : PRes) (w : World) (h : Pz ts len G g b p o w) (hq : w.heap[bq]? = some (.cells #[.pointer (some ⟨b, 0, none⟩)] 49 (0, 0)))
    (hA : ∀ w1, Below w.heap.size w w1 → Calls Tryz.prog 42 #[.pointer (some ⟨b, 0, none⟩)] w1 (VQ ts len G g b o r w1)) :
    Calls Tryz.prog 41 #[.pointer (some ⟨bq, 0, none⟩)] w (VQ ts len G g b o r w) := by
  have hbA := (Below.refl w.heap.size w).alloc (Nat.le_refl _) (.cells #[.int .i64 0, .int .i64 0, .string ⟨#[]⟩, .slice none 0 0, .slice none 0 0] 26 (0, 0))
  have hA1 := hA _ hbA
  have HB := Aside0.mk hbA
  obtain ⟨hbw, hgw⟩ := h.lt
  have q0 := cellA (v := .pointer (some ⟨b, 0, none⟩)) (blk_cell hq 0)
  have HZ := Aside0.mk h
  clear hbA hA h
  have hw1 := blk_new w (.cells #[.int .i64 0, .int .i64 0, .string ⟨#[]⟩, .slice none 0 0, .slice none 0 0] 26 (0, 0))
  have HA := Aside0.mk hA1
  have HW := Aside0.mk hw1
  clear hA1 hw1
  go_enter Tryz.func41, Tryz.ntmps41
  go_wp2_with fail
  refine HA.out.mono ?_
  have hs1 : (w.alloc (.cells #[.int .i64 0, .int .i64 0, .string ⟨#[]⟩, .slice none 0 0, .slice none 0 0] 26 (0, 0))).heap.size = w.heap.size + 1 := by simp
  rintro e w2 ⟨hk2, h2⟩
  generalize w.alloc (.cells #[.int .i64 0, .int .i64 0, .string ⟨#[]⟩, .slice none 0 0, .slice none 0 0] 26 (0, 0)) = W1 at *
  have hkw : KeepR b w W1 := KeepR.of_below HB.out hbw
  cases r with
  | bad c a =>
    obtain rfl := h2
    exact ⟨rfl, hkw.trans hk2, rfl⟩
  | ok v p1 =>
    obtain ⟨⟨v3, v4, rfl, h3, h4⟩, hz2⟩ := h2
    obtain ⟨A3, c3, rfl⟩ := Kd.R_slice h3
    obtain ⟨A4, c4, rfl⟩ := Kd.R_slice h4
    have hr4 := (hk2.2.2 w.heap.size (by omega) (by omega)).trans HW.out
    have d0 : w2.cell? ⟨w.heap.size, 0, none⟩ = some (.int .i64 0) := blk_cell hr4 0
    have d1 : w2.cell? ⟨w.heap.size, 1, none⟩ = some (.int .i64 0) := blk_cell hr4 1
    have d2 : w2.cell? ⟨w.heap.size, 2, none⟩ = some (.string ⟨#[]⟩) := blk_cell hr4 2
    have d3 : w2.cell? ⟨w.heap.size, 3, none⟩ = some (.slice none 0 0) := blk_cell hr4 3
    have d4 : w2.cell? ⟨w.heap.size, 4, none⟩ = some (.slice none 0 0) := blk_cell hr4 4
    have fd : ∀ j, w2.frozen? ⟨w.heap.size, j, none⟩ = false := blk_frozen hr4
    have HR4 := Aside0.mk hr4
    have HV := Aside0.mk (VQ_put hkw hbw hgw (Nat.le_refl _) (by omega) hk2 hz2 h3 h4)
    clear hr4 hz2 h3 h4 hk2 hkw
    go_wp2
    exact bodyPost_ret (res_val1 _ _ w.heap.size _ _ _ _ _ rfl (blk_set5 HR4.out _ _ _ _ _)) rfl HV.out
set_option maxRecDepth 100000 in
theorem val2_calls (ts : List Tk) (len : Nat) (G : Obj) (g b o p bq : Nat) (r : PRes) (w : World) (h : Pz ts len G g b p o w) (hq : w.heap[bq]? = some (.cells #[.pointer (some ⟨b, 0, none⟩)] 49 (0, 0)))
    (hA : ∀ w1, Below w.heap.size w w1 → Calls Tryz.prog 44 #[.pointer (some ⟨b, 0, none⟩)] w1 (VQ ts len G g b o r w1)) :
    Calls Tryz.prog 43 #[.pointer (some ⟨bq, 0, none⟩)] w (VQ ts len G g b o r w) := by
  have hbA := (Below.refl w.heap.size w).alloc (Nat.le_refl _) (.cells #[.int .i64 0, .int .i64 0, .string ⟨#[]⟩, .slice none 0 0, .slice none 0 0] 26 (0, 0))
  have hA1 := hA _ hbA
  have HB := Aside0.mk hbA
  obtain ⟨hbw, hgw⟩ := h.lt
  have q0 := cellA (v := .pointer (some ⟨b, 0, none⟩)) (blk_cell hq 0)
  have HZ := Aside0.mk h
  clear hbA hA h
  have hw1 := blk_new w (.cells #[.int .i64 0, .int .i64 0, .string ⟨#[]⟩, .slice none 0 0, .slice none 0 0] 26 (0, 0))
  have HA := Aside0.mk hA1
  have HW := Aside0.mk hw1
  clear hA1 hw1
  go_enter Tryz.func43, Tryz.ntmps43
  go_wp2_with fail
  refine HA.out.mono ?_
  have hs1 : (w.alloc (.cells #[.int .i64 0, .int .i64 0, .string ⟨#[]⟩, .slice none 0 0, .slice none 0 0] 26 (0, 0))).heap.size = w.heap.size + 1 := by simp
  rintro e w2 ⟨hk2, h2⟩
  generalize w.alloc (.cells #[.int .i64 0, .int .i64 0, .string ⟨#[]⟩, .slice none 0 0, .slice none 0 0] 26 (0, 0)) = W1 at *
  have hkw : KeepR b w W1 := KeepR.of_below HB.out hbw
  cases r with
  | bad c a =>
    obtain rfl := h2
    exact ⟨rfl, hkw.trans hk2, rfl⟩
  | ok v p1 =>
    obtain ⟨⟨v3, v4, rfl, h3, h4⟩, hz2⟩ := h2
    obtain ⟨A3, c3, rfl⟩ := Kd.R_slice h3
    obtain ⟨A4, c4, rfl⟩ := Kd.R_slice h4
    have hr4 := (hk2.2.2 w.heap.size (by omega) (by omega)).trans HW.out
    have d0 : w2.cell? ⟨w.heap.size, 0, none⟩ = some (.int .i64 0) := blk_cell hr4 0
    have d1 : w2.cell? ⟨w.heap.size, 1, none⟩ = some (.int .i64 0) := blk_cell hr4 1
    have d2 : w2.cell? ⟨w.heap.size, 2, none⟩ = some (.string ⟨#[]⟩) := blk_cell hr4 2
    have d3 : w2.cell? ⟨w.heap.size, 3, none⟩ = some (.slice none 0 0) := blk_cell hr4 3
    have d4 : w2.cell? ⟨w.heap.size, 4, none⟩ = some (.slice none 0 0) := blk_cell hr4 4
    have fd : ∀ j, w2.frozen? ⟨w.heap.size, j, none⟩ = false := blk_frozen hr4
    have HR4 := Aside0.mk hr4
    have HV := Aside0.mk (VQ_put hkw hbw hgw (Nat.le_refl _) (by omega) hk2 hz2 h3 h4)
    clear hr4 hz2 h3 h4 hk2 hkw
    go_wp2
    exact bodyPost_ret (res_val2 _ _ w.heap.size _ _ _ _ _ rfl (blk_set5 HR4.out _ _ _ _ _)) rfl HV.out
set_option maxRecDepth 100000 in
set_option maxHeartbeats 1000000 in
theorem within_calls (ts : List Tk) (len : Nat) (G : Obj) (hG : RowG ts len G) (fid : FuncId) (caps : Array Value) (hen : ∀ (args : Array Value) (w : World), (callFunc fid args).run Tryz.prog w = .ok (.enter fid args) w) (g b o p : Nat) (r : PRes) (w : World) (h : Pz ts len G g b p o w) (ho : o ≤ 8)
    (hC : o < 8 → ∀ w1, KeepR b w w1 → Pz ts len G g b p (o + 1) w1 → Calls Tryz.prog fid caps w1 (VQ ts len G g b (o + 1) r w1)) :
    Calls Tryz.prog 40 #[.pointer (some ⟨b, 0, none⟩), .func (.func fid) #[] caps] w (VQ ts len G g b o (if o = 8 then .bad 21 (tokAt ts len p).pos else r) w) := by
  obtain ⟨hbw, hgw⟩ := h.lt
  have hbA := (Below.refl w.heap.size w).alloc (Nat.le_refl _) (.cells #[.int .i64 0, .int .i64 0, .string ⟨#[]⟩, .slice none 0 0, .slice none 0 0] 26 (0, 0))
  have hzA := h.keep hbA
  have hs1 : (w.alloc (.cells #[.int .i64 0, .int .i64 0, .string ⟨#[]⟩, .slice none 0 0, .slice none 0 0] 26 (0, 0))).heap.size = w.heap.size + 1 := by simp
  have hw1 := blk_new w (.cells #[.int .i64 0, .int .i64 0, .string ⟨#[]⟩, .slice none 0 0, .slice none 0 0] 26 (0, 0))
  have HB := Aside0.mk hbA
  have HZ := Aside0.mk hzA
  have HZ0 := Aside0.mk h
  have HW := Aside0.mk hw1
  have HC := Aside0.mk hC
  have HG := Aside0.mk hG
  have HE := Aside0.mk hen
  obtain ⟨⟨cc, hbk, _⟩, _⟩ := h
  have o1 := cellA (v := .int .i64 o) (blk_cell hbk 1)
  have fb' : ∀ ob j, (w.alloc ob).frozen? ⟨b, j, none⟩ = false := fun ob j => blk_frozen (blkA hbk ob) j
  clear hbA hzA hw1 hC hG hen hbk
  by_cases ho8 : o = 8
  · have hob : ((o : Int) == 8) = true := by simp; omega
    rw [if_pos ho8]
    clear ho8
    go_enter Tryz.func40, Tryz.ntmps40
    go_wp2_with fail
    refine (refuse_calls ts len G HG.out g b p o 21 _ HZ.out).mono ?_
    rintro e w2 ⟨rfl, hb2⟩
    exact ⟨rfl, KeepR.of_below (HB.out.trans (hb2.mono (by omega))) hbw, rfl⟩
  · have hob : ((o : Int) == 8) = false := by simp; omega
    rw [if_neg ho8]
    have ho7 : o < 8 := by omega
    clear ho8
    have hn := Nat.ne_of_lt hbw
    go_enter Tryz.func40, Tryz.ntmps40
    have he := HE.out
    go_wp2_with fail
    clear he
    have hcst : ((o + 1 : Nat) : Int) = (o : Int) + 1 := by omega
    have hzo := HZ0.out.open (o + 1)
    rw [hcst] at hzo
    have hkp := (KeepR.refl b w).set 1 (.int .i64 ((o : Int) + 1))
    have hsz2 : (w.setCell ⟨b, 1, none⟩ (.int .i64 ((o : Int) + 1))).heap.size = w.heap.size := by simp [World.setCell]
    have hw2 := blk_new (w.setCell ⟨b, 1, none⟩ (.int .i64 ((o : Int) + 1))) (.cells #[.int .i64 0, .int .i64 0, .string ⟨#[]⟩, .slice none 0 0, .slice none 0 0] 26 (0, 0))
    rw [hsz2] at hw2
    have hkA := hkp.alloc hbw (.cells #[.int .i64 0, .int .i64 0, .string ⟨#[]⟩, .slice none 0 0, .slice none 0 0] 26 (0, 0))
    have hzA := hzo.keep ((Below.refl _ _).alloc (Nat.le_refl _) (.cells #[.int .i64 0, .int .i64 0, .string ⟨#[]⟩, .slice none 0 0, .slice none 0 0] 26 (0, 0)))
    have hsz3 : ((w.setCell ⟨b, 1, none⟩ (.int .i64 ((o : Int) + 1))).alloc (.cells #[.int .i64 0, .int .i64 0, .string ⟨#[]⟩, .slice none 0 0, .slice none 0 0] 26 (0, 0))).heap.size = w.heap.size + 1 := by simp [World.setCell]
    clear hzo hkp
    generalize (w.setCell ⟨b, 1, none⟩ (.int .i64 ((o : Int) + 1))).alloc (.cells #[.int .i64 0, .int .i64 0, .string ⟨#[]⟩, .slice none 0 0, .slice none 0 0] 26 (0, 0)) = W2 at *
    refine (HC.out ho7 W2 hkA hzA).mono ?_
    rintro e w3 ⟨hk3, h3⟩
    cases r with
    | bad c a =>
      obtain rfl := h3
      exact ⟨rfl, hkA.trans hk3, rfl⟩
    | ok v p1 =>
      obtain ⟨⟨v3, v4, rfl, h3, h4⟩, hz3⟩ := h3
      obtain ⟨A3, c3, rfl⟩ := Kd.R_slice h3
      obtain ⟨A4, c4, rfl⟩ := Kd.R_slice h4
      have hr3 := (hk3.2.2 w.heap.size (by omega) (by omega)).trans hw2
      have d0 : w3.cell? ⟨w.heap.size, 0, none⟩ = some (.int .i64 0) := blk_cell hr3 0
      have d1 : w3.cell? ⟨w.heap.size, 1, none⟩ = some (.int .i64 0) := blk_cell hr3 1
      have d2 : w3.cell? ⟨w.heap.size, 2, none⟩ = some (.string ⟨#[]⟩) := blk_cell hr3 2
      have d3 : w3.cell? ⟨w.heap.size, 3, none⟩ = some (.slice none 0 0) := blk_cell hr3 3
      have d4 : w3.cell? ⟨w.heap.size, 4, none⟩ = some (.slice none 0 0) := blk_cell hr3 4
      have d0' := cellA d0
      have d1' := cellA d1
      have d2' := cellA d2
      have d3' := cellA d3
      have d4' := cellA d4
      have fd' : ∀ ob j, (w3.alloc ob).frozen? ⟨w.heap.size, j, none⟩ = false := fun ob j => blk_frozen (blkA hr3 ob) j
      have HR3 := Aside0.mk hr3
      have HZ3 := Aside0.mk hz3
      have H3 := Aside0.mk h3
      have H4 := Aside0.mk h4
      have HK3 := Aside0.mk hk3
      have HKA := Aside0.mk hkA
      have hsz := hk3.2.1
      obtain ⟨⟨c9, hb3, _⟩, _⟩ := hz3
      rw [hcst] at hb3
      have b1 := cellA (v := .int .i64 ((o : Int) + 1)) (blk_cell hb3 1)
      have fb3 : ∀ ob j, (w3.alloc ob).frozen? ⟨b, j, none⟩ = false := fun ob j => blk_frozen (blkA hb3 ob) j
      have n1 : b ≠ w3.heap.size := by omega
      have n2 : w.heap.size ≠ w3.heap.size := by omega
      have n3 : w.heap.size ≠ b := by omega
      have n1' : w3.heap.size ≠ b := by omega
      have n2' : w3.heap.size ≠ w.heap.size := by omega
      have n3' : b ≠ w.heap.size := by omega
      have hsb : (o : Int) + 1 - 1 = o := by omega
      clear hr3 hk3 h3 h4 hb3 hkA hzA hw2 o1 fb'
      go_wp2
      have hba := (Below.refl w3.heap.size w3).alloc (Nat.le_refl _) (.cells #[.int .i64 v.f0, .int .i64 v.f1, .string v.f2, .slice A3 v.f3.length c3, .slice A4 v.f4.length c4] 26 (0, 0))
      refine bodyPost_ret (res_within _ _ w.heap.size _ _ _ _ _ rfl (blk_set5 (far1 (blkA HR3.out _) n3 _) _ _ _ _ _)) rfl (VQ_put HKA.out hbw hgw (Nat.le_refl _) (by omega) ((HK3.out.alloc (by omega) _).set 1 _) ((HZ3.out.keep hba).open o) ?_ ?_)
      · exact Kd.R_mono (Kd.R_step (Kd.R_bound (Kd.R_below H3.out hba)) fun k hk1 _ => far_set _ _ _ _ _ (by have := hk1.2.1; omega)) (fun _ _ => trivial)
      · exact Kd.R_mono (Kd.R_step (Kd.R_bound (Kd.R_below H4.out hba)) fun k hk1 _ => far_set _ _ _ _ _ (by have := hk1.2.1; omega)) (fun _ _ => trivial)
theorem wordV_f3 (t : List UInt8) : (wordV t).f3 = [] := by
  unfold wordV nulV
  split
  · rfl
  · split <;> rfl
theorem wordV_f4 (t : List UInt8) : (wordV t).f4 = [] := by
  unfold wordV nulV
  split
  · rfl
  · split <;> rfl
theorem val1_enters (args : Array Value) (w : World) : (callFunc 41 args).run Tryz.prog w = .ok (.enter 41 args) w := enters_ Tryz.func41 (by kernel_rfl) (by kernel_rfl) args w
theorem val2_enters (args : Array Value) (w : World) : (callFunc 43 args).run Tryz.prog w = .ok (.enter 43 args) w := enters_ Tryz.func43 (by kernel_rfl) (by kernel_rfl) args w
set_option maxRecDepth 100000 in
set_option maxHeartbeats 2000000 in
theorem value_step (ts : List Tk) (len : Nat) (G : Obj) (hG : RowG ts len G) (hl : ts.length ≤ 1000000) (n : Nat) (IH : ∀ f, f < n → ValC ts len G f) : ValC ts len G (n + 1) := by
  intro g b o p r w ho hr h
  obtain ⟨hbw, hgw⟩ := h.lt
  have HH := Aside0.mk h
  have HG := Aside0.mk hG
  have HIH := Aside0.mk IH
  have HR := Aside0.mk hr
  have hmf : ∀ (fn : Fn) (first cap : Array Value) (w : World), (Instr.makeFunc fn first cap).run Tryz.prog w = .ok (.func fn first cap) w := fun _ _ _ _ => rfl
  clear h hG IH hr
  go_enter Tryz.func21, Tryz.ntmps21
  go_wp2_with fail
  have s1 : (w.alloc (.cells #[.pointer (some ⟨b, 0, none⟩)] 49 (0, 0))).heap.size = w.heap.size + 1 := by simp
  have nb := blkA (blk_new w (.cells #[.pointer (some ⟨b, 0, none⟩)] 49 (0, 0))) (.cells #[.int .i64 0, .int .i64 0, .string ⟨#[]⟩, .slice none 0 0, .slice none 0 0] 26 (0, 0))
  have nr := blk_new (w.alloc (.cells #[.pointer (some ⟨b, 0, none⟩)] 49 (0, 0))) (.cells #[.int .i64 0, .int .i64 0, .string ⟨#[]⟩, .slice none 0 0, .slice none 0 0] 26 (0, 0))
  rw [s1] at nr
  have hB2 : Below w.heap.size w ((w.alloc (.cells #[.pointer (some ⟨b, 0, none⟩)] 49 (0, 0))).alloc (.cells #[.int .i64 0, .int .i64 0, .string ⟨#[]⟩, .slice none 0 0, .slice none 0 0] 26 (0, 0))) := ((Below.refl _ _).alloc (Nat.le_refl _) _).alloc (by simp) _
  have hs2 : ((w.alloc (.cells #[.pointer (some ⟨b, 0, none⟩)] 49 (0, 0))).alloc (.cells #[.int .i64 0, .int .i64 0, .string ⟨#[]⟩, .slice none 0 0, .slice none 0 0] 26 (0, 0))).heap.size = w.heap.size + 2 := by simp
  generalize (w.alloc (.cells #[.pointer (some ⟨b, 0, none⟩)] 49 (0, 0))).alloc (.cells #[.int .i64 0, .int .i64 0, .string ⟨#[]⟩, .slice none 0 0, .slice none 0 0] 26 (0, 0)) = W2 at *
  refine (peek_calls ts len G HG.out g b p o _ (HH.out.keep hB2)).mono ?_
  rintro e w1 ⟨rfl, hb1⟩
  have hbt := (Below.refl w1.heap.size w1).alloc (Nat.le_refl _) (.cells #[.int .i64 (tokAt ts len p).kind, .string ⟨(tokAt ts len p).text.toArray⟩, .int .i64 (tokAt ts len p).num, .int .i64 (tokAt ts len p).pos] 51 (0, 0))
  have hb3 := hb1.trans (hbt.mono hb1.size)
  have hs1' := hb1.size
  have hz3 := (HH.out.keep hB2).keep hb3
  have HZ3 := Aside0.mk hz3
  have HBP := Aside0.mk (blk_below nb hb3)
  have HRES := Aside0.mk (blk_below nr hb3)
  have HK3 := Aside0.mk (KeepR.of_below (hB2.trans (hb3.mono hB2.size)) hbw)
  have hsz3 := (hb3).size
  have q0 := fun ob => cellA (v := .pointer (some ⟨b, 0, none⟩)) (blk_cell (blk_below nb hb1) 0) ob
  have n1 : w.heap.size ≠ w1.heap.size := by omega
  clear nb nr hB2 hb1 hbt hb3 hz3 s1
  have hr := HR.out
  unfold tkV
  simp only [valP] at hr
  by_cases h8 : (tokAt ts len p).kind = 8
  · rw [if_pos h8] at hr
    injection hr with hr
    subst hr
    have hpl : p < ts.length := tok_lt (by rw [h8]; decide)
    have HK := Aside0.mk h8
    clear h8
    generalize ht : tokAt ts len p = t at *
    have HT := Aside0.mk ht
    clear ht
    have k8 : ((t.kind : Int) == 8) = true := by simp; have := HK.out; omega
    have k7 : ((t.kind : Int) == 7) = false := by simp; have := HK.out; omega
    have k9 : ((t.kind : Int) == 9) = false := by simp; have := HK.out; omega
    go_wp2_with fail
    generalize w1.alloc (.cells #[.int .i64 t.kind, .string ⟨t.text.toArray⟩, .int .i64 t.num, .int .i64 t.pos] 51) = W3 at *
    have hN := next_ok ts len G HG.out g b p o W3 HZ3.out hpl hl
    rw [HT.out, HK.out] at hN
    refine hN.mono ?_
    clear hN
    rintro e w4 ⟨rfl, hz4, hk4⟩
    unfold tkV
    have hr4 := (hk4.2.2 (w.heap.size + 1) (by omega) (by omega)).trans HRES.out
    have d0 : w4.cell? ⟨w.heap.size + 1, 0, none⟩ = some (.int .i64 0) := blk_cell hr4 0
    have d1 : w4.cell? ⟨w.heap.size + 1, 1, none⟩ = some (.int .i64 0) := blk_cell hr4 1
    have d2 : w4.cell? ⟨w.heap.size + 1, 2, none⟩ = some (.string ⟨#[]⟩) := blk_cell hr4 2
    have d3 : w4.cell? ⟨w.heap.size + 1, 3, none⟩ = some (.slice none 0 0) := blk_cell hr4 3
    have d4 : w4.cell? ⟨w.heap.size + 1, 4, none⟩ = some (.slice none 0 0) := blk_cell hr4 4
    have fd : ∀ j, w4.frozen? ⟨w.heap.size + 1, j, none⟩ = false := blk_frozen hr4
    have HR4 := Aside0.mk hr4
    have HV := Aside0.mk (VQ_put (o := o) (r := w.heap.size + 1) (v := ⟨3, t.num, ⟨#[]⟩, [], []⟩) HK3.out hbw hgw (by omega) (by omega) hk4 hz4 (Kd.R_nil _ _ _ _ _) (Kd.R_nil _ _ _ _ _))
    clear hr4 hk4 hz4
    go_wp2
    exact bodyPost_ret (res_value _ _ (w.heap.size + 1) _ _ _ _ _ rfl (blk_set5 HR4.out _ _ _ _ _)) rfl HV.out
  · rw [if_neg h8] at hr
    by_cases h7 : (tokAt ts len p).kind = 7
    · rw [if_pos h7] at hr
      injection hr with hr
      subst hr
      have hpl : p < ts.length := tok_lt (by rw [h7]; decide)
      have HK := Aside0.mk h7
      clear h7
      generalize ht : tokAt ts len p = t at *
      have HT := Aside0.mk ht
      clear ht
      have k8 : ((t.kind : Int) == 8) = false := by simp; have := HK.out; omega
      have k7 : ((t.kind : Int) == 7) = true := by simp; have := HK.out; omega
      have k9 : ((t.kind : Int) == 9) = false := by simp; have := HK.out; omega
      go_wp2_with fail
      generalize w1.alloc (.cells #[.int .i64 t.kind, .string ⟨t.text.toArray⟩, .int .i64 t.num, .int .i64 t.pos] 51) = W3 at *
      have hN := next_ok ts len G HG.out g b p o W3 HZ3.out hpl hl
      rw [HT.out, HK.out] at hN
      refine hN.mono ?_
      clear hN
      rintro e w4 ⟨rfl, hz4, hk4⟩
      unfold tkV
      have hr4 := (hk4.2.2 (w.heap.size + 1) (by omega) (by omega)).trans HRES.out
      have d0 : w4.cell? ⟨w.heap.size + 1, 0, none⟩ = some (.int .i64 0) := blk_cell hr4 0
      have d1 : w4.cell? ⟨w.heap.size + 1, 1, none⟩ = some (.int .i64 0) := blk_cell hr4 1
      have d2 : w4.cell? ⟨w.heap.size + 1, 2, none⟩ = some (.string ⟨#[]⟩) := blk_cell hr4 2
      have d3 : w4.cell? ⟨w.heap.size + 1, 3, none⟩ = some (.slice none 0 0) := blk_cell hr4 3
      have d4 : w4.cell? ⟨w.heap.size + 1, 4, none⟩ = some (.slice none 0 0) := blk_cell hr4 4
      have fd : ∀ j, w4.frozen? ⟨w.heap.size + 1, j, none⟩ = false := blk_frozen hr4
      have HR4 := Aside0.mk hr4
      have HV := Aside0.mk (VQ_put (o := o) (r := w.heap.size + 1) (v := ⟨4, 0, toB t.text, [], []⟩) HK3.out hbw hgw (by omega) (by omega) hk4 hz4 (Kd.R_nil _ _ _ _ _) (Kd.R_nil _ _ _ _ _))
      clear hr4 hk4 hz4
      go_wp2
      exact bodyPost_ret (res_value _ _ (w.heap.size + 1) _ _ _ _ _ rfl (blk_set5 HR4.out _ _ _ _ _)) rfl HV.out
    · rw [if_neg h7] at hr
      by_cases h9 : (tokAt ts len p).kind = 9
      · rw [if_pos h9] at hr
        injection hr with hr
        subst hr
        have hpl : p < ts.length := tok_lt (by rw [h9]; decide)
        have HK := Aside0.mk h9
        clear h9
        generalize ht : tokAt ts len p = t at *
        have HT := Aside0.mk ht
        clear ht
        have k8 : ((t.kind : Int) == 8) = false := by simp; have := HK.out; omega
        have k7 : ((t.kind : Int) == 7) = false := by simp; have := HK.out; omega
        have k9 : ((t.kind : Int) == 9) = true := by simp; have := HK.out; omega
        go_wp2_with fail
        generalize w1.alloc (.cells #[.int .i64 t.kind, .string ⟨t.text.toArray⟩, .int .i64 t.num, .int .i64 t.pos] 51) = W3 at *
        have hN := next_ok ts len G HG.out g b p o W3 HZ3.out hpl hl
        rw [HT.out, HK.out] at hN
        refine hN.mono ?_
        clear hN
        rintro e w4 ⟨rfl, hz4, hk4⟩
        unfold tkV
        go_wp2_with fail
        refine (word_calls t.text w4).mono ?_
        rintro e w5 ⟨rfl, hb5⟩
        have hk5 : KeepR b _ w5 := hk4.trans (KeepR.of_below hb5 (by have := hk4.2.1; omega))
        have hz5 := hz4.keep hb5
        clear hb5 hz4
        unfold leafV
        have hr4 := (hk5.2.2 (w.heap.size + 1) (by omega) (by omega)).trans HRES.out
        have d0 : w5.cell? ⟨w.heap.size + 1, 0, none⟩ = some (.int .i64 0) := blk_cell hr4 0
        have d1 : w5.cell? ⟨w.heap.size + 1, 1, none⟩ = some (.int .i64 0) := blk_cell hr4 1
        have d2 : w5.cell? ⟨w.heap.size + 1, 2, none⟩ = some (.string ⟨#[]⟩) := blk_cell hr4 2
        have d3 : w5.cell? ⟨w.heap.size + 1, 3, none⟩ = some (.slice none 0 0) := blk_cell hr4 3
        have d4 : w5.cell? ⟨w.heap.size + 1, 4, none⟩ = some (.slice none 0 0) := blk_cell hr4 4
        have fd : ∀ j, w5.frozen? ⟨w.heap.size + 1, j, none⟩ = false := blk_frozen hr4
        have HR4 := Aside0.mk hr4
        have HV := Aside0.mk (VQ_put (o := o) (r := w.heap.size + 1) (v := wordV t.text) HK3.out hbw hgw (by omega) (by omega) hk5 hz5 (by rw [wordV_f3]; exact Kd.R_nil _ _ _ _ _) (by rw [wordV_f4]; exact Kd.R_nil _ _ _ _ _))
        clear hr4 hk4 hk5 hz5
        generalize wordV t.text = v at *
        go_wp2
        exact bodyPost_ret (res_value _ _ (w.heap.size + 1) _ _ _ _ _ rfl (blk_set5 HR4.out _ _ _ _ _)) rfl HV.out
      · rw [if_neg h9] at hr
        by_cases h3 : (tokAt ts len p).kind = 3
        · rw [if_pos h3] at hr
          have HK := Aside0.mk h3
          clear h8 h7 h9 h3
          obtain ⟨r', hr', hrr⟩ : ∃ r', (o < 8 → arrP ts len n (o + 1) (p + 1) [] = some r') ∧ r = (if o = 8 then .bad 21 (tokAt ts len p).pos else r') := by
            by_cases ho8 : o = 8
            · rw [if_pos ho8] at hr
              injection hr with hr
              exact ⟨.bad 0 0, fun h => by omega, by rw [if_pos ho8]; exact hr.symm⟩
            · rw [if_neg ho8] at hr
              exact ⟨r, fun _ => hr, by rw [if_neg ho8]⟩
          have HR' := Aside0.mk hr'
          have HRR := Aside0.mk hrr
          clear hr hr' HR hrr
          generalize ht : tokAt ts len p = t at *
          have HT := Aside0.mk ht
          clear ht
          have k8 : ((t.kind : Int) == 8) = false := by simp; have := HK.out; omega
          have k7 : ((t.kind : Int) == 7) = false := by simp; have := HK.out; omega
          have k9 : ((t.kind : Int) == 9) = false := by simp; have := HK.out; omega
          have k3 : ((t.kind : Int) == 3) = true := by simp; have := HK.out; omega
          have k1 : ((t.kind : Int) == 1) = false := by simp; have := HK.out; omega
          go_wp2_with fail
          generalize w1.alloc (.cells #[.int .i64 t.kind, .string ⟨t.text.toArray⟩, .int .i64 t.num, .int .i64 t.pos] 51) = W3 at *
          have hW := within_calls ts len G HG.out 41 #[.pointer (some ⟨w.heap.size, 0, none⟩)] val1_enters g b o p r' W3 HZ3.out ho (fun ho1 w2 hk2 hz2 => by
            have hq2 := (hk2.2.2 w.heap.size (by omega) (by omega)).trans HBP.out
            exact val1_calls ts len G g b (o + 1) p w.heap.size r' w2 hz2 hq2 (fun w5 hb5 => array_calls ts len G HG.out hl n HIH.out g b (o + 1) p r' w5 (by omega) (by rw [HT.out]; exact HK.out) (HR'.out ho1) (hz2.keep hb5)))
          rw [HT.out, ← HRR.out] at hW
          refine hW.mono ?_
          clear hW
          rintro e w4 ⟨hk4, h4⟩
          cases r with
          | bad c a =>
            obtain rfl := h4
            exact ⟨rfl, HK3.out.trans hk4, rfl⟩
          | ok v p1 =>
            obtain ⟨⟨v3, v4, rfl, h3, h4⟩, hz4⟩ := h4
            obtain ⟨A3, c3, rfl⟩ := Kd.R_slice h3
            obtain ⟨A4, c4, rfl⟩ := Kd.R_slice h4
            have hr4 := (hk4.2.2 (w.heap.size + 1) (by omega) (by omega)).trans HRES.out
            have d0 : w4.cell? ⟨w.heap.size + 1, 0, none⟩ = some (.int .i64 0) := blk_cell hr4 0
            have d1 : w4.cell? ⟨w.heap.size + 1, 1, none⟩ = some (.int .i64 0) := blk_cell hr4 1
            have d2 : w4.cell? ⟨w.heap.size + 1, 2, none⟩ = some (.string ⟨#[]⟩) := blk_cell hr4 2
            have d3 : w4.cell? ⟨w.heap.size + 1, 3, none⟩ = some (.slice none 0 0) := blk_cell hr4 3
            have d4 : w4.cell? ⟨w.heap.size + 1, 4, none⟩ = some (.slice none 0 0) := blk_cell hr4 4
            have fd : ∀ j, w4.frozen? ⟨w.heap.size + 1, j, none⟩ = false := blk_frozen hr4
            have HR4 := Aside0.mk hr4
            have HV := Aside0.mk (VQ_put (o := o) (r := w.heap.size + 1) HK3.out hbw hgw (by omega) (by omega) hk4 hz4 h3 h4)
            clear hr4 hk4 hz4 h3 h4
            go_wp2
            exact bodyPost_ret (res_value _ _ (w.heap.size + 1) _ _ _ _ _ rfl (blk_set5 HR4.out _ _ _ _ _)) rfl HV.out
        · rw [if_neg h3] at hr
          by_cases h1 : (tokAt ts len p).kind = 1
          · rw [if_pos h1] at hr
            have HK := Aside0.mk h1
            clear h8 h7 h9 h3 h1
            obtain ⟨r', hr', hrr⟩ : ∃ r', (o < 8 → mapP ts len n (o + 1) (p + 1) [] [] = some r') ∧ r = (if o = 8 then .bad 21 (tokAt ts len p).pos else r') := by
              by_cases ho8 : o = 8
              · rw [if_pos ho8] at hr
                injection hr with hr
                exact ⟨.bad 0 0, fun h => by omega, by rw [if_pos ho8]; exact hr.symm⟩
              · rw [if_neg ho8] at hr
                exact ⟨r, fun _ => hr, by rw [if_neg ho8]⟩
            have HR' := Aside0.mk hr'
            have HRR := Aside0.mk hrr
            clear hr hr' HR hrr
            generalize ht : tokAt ts len p = t at *
            have HT := Aside0.mk ht
            clear ht
            have k8 : ((t.kind : Int) == 8) = false := by simp; have := HK.out; omega
            have k7 : ((t.kind : Int) == 7) = false := by simp; have := HK.out; omega
            have k9 : ((t.kind : Int) == 9) = false := by simp; have := HK.out; omega
            have k3 : ((t.kind : Int) == 3) = false := by simp; have := HK.out; omega
            have k1 : ((t.kind : Int) == 1) = true := by simp; have := HK.out; omega
            go_wp2_with fail
            generalize w1.alloc (.cells #[.int .i64 t.kind, .string ⟨t.text.toArray⟩, .int .i64 t.num, .int .i64 t.pos] 51) = W3 at *
            have hW := within_calls ts len G HG.out 43 #[.pointer (some ⟨w.heap.size, 0, none⟩)] val2_enters g b o p r' W3 HZ3.out ho (fun ho1 w2 hk2 hz2 => by
              have hq2 := (hk2.2.2 w.heap.size (by omega) (by omega)).trans HBP.out
              exact val2_calls ts len G g b (o + 1) p w.heap.size r' w2 hz2 hq2 (fun w5 hb5 => named_calls ts len G HG.out hl n HIH.out g b (o + 1) p r' w5 (by omega) (by rw [HT.out]; exact HK.out) (HR'.out ho1) (hz2.keep hb5)))
            rw [HT.out, ← HRR.out] at hW
            refine hW.mono ?_
            clear hW
            rintro e w4 ⟨hk4, h4⟩
            cases r with
            | bad c a =>
              obtain rfl := h4
              exact ⟨rfl, HK3.out.trans hk4, rfl⟩
            | ok v p1 =>
              obtain ⟨⟨v3, v4, rfl, h3, h4⟩, hz4⟩ := h4
              obtain ⟨A3, c3, rfl⟩ := Kd.R_slice h3
              obtain ⟨A4, c4, rfl⟩ := Kd.R_slice h4
              have hr4 := (hk4.2.2 (w.heap.size + 1) (by omega) (by omega)).trans HRES.out
              have d0 : w4.cell? ⟨w.heap.size + 1, 0, none⟩ = some (.int .i64 0) := blk_cell hr4 0
              have d1 : w4.cell? ⟨w.heap.size + 1, 1, none⟩ = some (.int .i64 0) := blk_cell hr4 1
              have d2 : w4.cell? ⟨w.heap.size + 1, 2, none⟩ = some (.string ⟨#[]⟩) := blk_cell hr4 2
              have d3 : w4.cell? ⟨w.heap.size + 1, 3, none⟩ = some (.slice none 0 0) := blk_cell hr4 3
              have d4 : w4.cell? ⟨w.heap.size + 1, 4, none⟩ = some (.slice none 0 0) := blk_cell hr4 4
              have fd : ∀ j, w4.frozen? ⟨w.heap.size + 1, j, none⟩ = false := blk_frozen hr4
              have HR4 := Aside0.mk hr4
              have HV := Aside0.mk (VQ_put (o := o) (r := w.heap.size + 1) HK3.out hbw hgw (by omega) (by omega) hk4 hz4 h3 h4)
              clear hr4 hk4 hz4 h3 h4
              go_wp2
              exact bodyPost_ret (res_value _ _ (w.heap.size + 1) _ _ _ _ _ rfl (blk_set5 HR4.out _ _ _ _ _)) rfl HV.out
          · rw [if_neg h1] at hr
            injection hr with hr
            subst hr
            generalize ht : tokAt ts len p = t at *
            have HT := Aside0.mk ht
            clear ht
            have k8 : ((t.kind : Int) == 8) = false := by simp; omega
            have k7 : ((t.kind : Int) == 7) = false := by simp; omega
            have k9 : ((t.kind : Int) == 9) = false := by simp; omega
            have k3 : ((t.kind : Int) == 3) = false := by simp; omega
            have k1 : ((t.kind : Int) == 1) = false := by simp; omega
            clear h8 h7 h9 h3 h1
            go_wp2_with fail
            generalize w1.alloc (.cells #[.int .i64 t.kind, .string ⟨t.text.toArray⟩, .int .i64 t.num, .int .i64 t.pos] 51) = W3 at *
            refine (refuse_calls ts len G HG.out g b p o 20 _ HZ3.out).mono ?_
            rintro e w4 ⟨rfl, hb4⟩
            exact ⟨rfl, HK3.out.trans (KeepR.of_below hb4 (by omega)), by rw [HT.out]⟩
end Go.Proofs.YtegppkngdkkdcaaGreatDoor.Tr
end
section
set_option linter.unusedVariables false
set_option linter.unusedSimpArgs false
namespace Go.Proofs.YtegppkngdkkdcaaGreatDoor.Tr
open Go.RowKit Go.Proofs.YtegppkngdkkdcaaGreatDoorW.PrintWords Go.Proofs.YtegppkngdkkdcaaGreatDoorW.PrintLast Go.Proofs.YtegppkngdkkdcaaGreatDoorW.PrintMore
open Go.Proofs.YtegppkngdkkdcaaGreatDoor.Lx Go.Proofs.YtegppkngdkkdcaaGreatDoor.PS
attribute [local go_sem high] fld0 fld1 fld2 fld3
theorem value_all (ts : List Tk) (len : Nat) (G : Obj) (hG : RowG ts len G) (hl : ts.length ≤ 1000000) (n : Nat) : ValC ts len G n := by
  induction n using Nat.strongRecOn with
  | _ n ih =>
    cases n with
    | zero =>
      intro g b o p r w ho hr h
      simp [valP] at hr
    | succ n => exact value_step ts len G hG hl n (fun f hf => ih f (by omega))
theorem fuel_all (ts : List Tk) (len : Nat) : ∀ f, (∀ o p, 2 * (ts.length - p) + 1 ≤ f → ∃ r, valP ts len f o p = some r) ∧ (∀ o p acc, 2 * (ts.length - p) + 2 ≤ f → ∃ r, arrP ts len f o p acc = some r) ∧ (∀ o p acc nm, 2 * (ts.length - p) + 2 ≤ f → ∃ r, mapP ts len f o p acc nm = some r)
  | 0 => ⟨fun _ _ h => by omega, fun _ _ _ h => by omega, fun _ _ _ _ h => by omega⟩
  | f + 1 => by
    obtain ⟨h1, h2, h3⟩ := fuel_all ts len f
    refine ⟨fun o p hf => ?_, fun o p acc hf => ?_, fun o p acc nm hf => ?_⟩
    · simp only [valP]
      split
      · exact ⟨_, rfl⟩
      · split
        · exact ⟨_, rfl⟩
        · split
          · exact ⟨_, rfl⟩
          · split
            · rename_i hk
              split
              · exact ⟨_, rfl⟩
              · have := tok_lt (ts := ts) (len := len) (p := p) (by rw [hk]; decide)
                exact h2 _ _ _ (by omega)
            · split
              · rename_i hk
                split
                · exact ⟨_, rfl⟩
                · have := tok_lt (ts := ts) (len := len) (p := p) (by rw [hk]; decide)
                  exact h3 _ _ _ _ (by omega)
              · exact ⟨_, rfl⟩
    · simp only [arrP]
      split
      · exact ⟨_, rfl⟩
      · obtain ⟨r, hr⟩ := h1 o p (by omega)
        rw [hr]
        cases r with
        | bad c a => exact ⟨_, rfl⟩
        | ok v p1 =>
          have hlt := valP_lt' hr
          simp only
          split
          · exact ⟨_, rfl⟩
          · split
            · exact ⟨_, rfl⟩
            · rename_i hk
              split
              · exact ⟨_, rfl⟩
              · have := tok_lt (ts := ts) (len := len) (p := p1) (by rw [Decidable.not_not.1 hk]; decide)
                exact h2 _ _ _ (by omega)
    · simp only [mapP]
      split
      · exact ⟨_, rfl⟩
      · split
        · exact ⟨_, rfl⟩
        · split
          · exact ⟨_, rfl⟩
          · split
            · exact ⟨_, rfl⟩
            · obtain ⟨r, hr⟩ := h1 o (p + 2) (by omega)
              rw [hr]
              cases r with
              | bad c a => exact ⟨_, rfl⟩
              | ok v p1 =>
                have hlt := valP_lt' hr
                simp only
                split
                · exact ⟨_, rfl⟩
                · split
                  · exact ⟨_, rfl⟩
                  · rename_i hk
                    split
                    · exact ⟨_, rfl⟩
                    · have := tok_lt (ts := ts) (len := len) (p := p1) (by rw [Decidable.not_not.1 hk]; decide)
                      exact h3 _ _ _ _ (by omega)
theorem tksCs_get : ∀ (ts : List Tk) (i j : Nat) (t : Tk), ts[i]? = some t → j < 4 → (tksCs ts)[4 * i + j]? = (tkCs t)[j]?
  | [], i, j, t, h, _ => by simp at h
  | x :: ts, 0, j, t, h, hj => by
    simp at h
    subst h
    have : tksCs (x :: ts) = tkCs x ++ tksCs ts := by simp [tksCs]
    rw [this, Nat.mul_zero, Nat.zero_add, List.getElem?_append_left (by simpa [tkCs] using hj)]
  | x :: ts, i + 1, j, t, h, hj => by
    have : tksCs (x :: ts) = tkCs x ++ tksCs ts := by simp [tksCs]
    rw [this, List.getElem?_append_right (by simp [tkCs]; omega)]
    have e : 4 * (i + 1) + j - (tkCs x).length = 4 * i + j := by simp [tkCs]; omega
    rw [e]
    exact tksCs_get ts i j t (by simpa using h) hj
theorem rowG_of {ts : List Tk} {len : Nat} {w : World} {base : Nat} {v : Value} (h : w.ownsRow base 51 4 v (ts.length + 1) (tksCs ts ++ tkCs ⟨0, [], 0, len⟩)) :
    ∃ g c G, v = .slice (some ⟨g, 0, none⟩) (ts.length + 1) c ∧ base ≤ g ∧ w.heap[g]? = some G ∧ RowG ts len G ∧ ts.length + 1 ≤ c := by
  rcases h.2 with ⟨_, h2⟩ | ⟨g, c, cur, hv, hg, hh, r1, r2, r3, r4⟩
  · omega
  · refine ⟨g, c, _, hv, hg, hh, ⟨cur, rfl, fun i hi => ?_⟩, r1⟩
    have hget : ∀ j, j < 4 → cur[4 * i + j]? = (tkCs (tokAt ts len i))[j]? := by
      intro j hj
      have e1 : cur[4 * i + j]? = (cur.toList.take ((ts.length + 1) * 4))[4 * i + j]? := by
        rw [List.getElem?_take, if_pos (by omega)]
        simp
      rw [e1, r4]
      have e2 : tksCs ts ++ tkCs ⟨0, [], 0, len⟩ = tksCs (ts ++ [⟨0, [], 0, len⟩]) := tksCs_snoc _ _
      rw [e2]
      refine tksCs_get _ _ _ _ ?_ hj
      unfold tokAt
      rcases Nat.lt_or_ge i ts.length with h1 | h1
      · rw [List.getElem?_append_left h1, List.getD_eq_getElem?_getD, List.getElem?_eq_getElem h1]
        rfl
      · obtain rfl : i = ts.length := by omega
        rw [List.getElem?_append_right (Nat.le_refl _), List.getD_eq_getElem?_getD, List.getElem?_eq_none (Nat.le_refl _)]
        simp
    exact ⟨hget 0 (by omega), hget 1 (by omega), hget 2 (by omega), hget 3 (by omega)⟩
end Go.Proofs.YtegppkngdkkdcaaGreatDoor.Tr
end
section
set_option linter.unusedVariables false
set_option linter.unusedSimpArgs false
namespace Go.Proofs.YtegppkngdkkdcaaGreatDoor.Lx
open Go
theorem escR_at {L pre suf : List UInt8} {c : UInt8} (h : L = pre ++ c :: suf) : escR L pre.length = if 0 ≤ Lib.indexByte escTab c then some ([escOut.getD (Lib.indexByte escTab c).toNat 0], pre.length + 1) else
    if c ≠ 117 ∨ L.length < pre.length + 5 then none else
    match hexN 0 (suf.take 4) with
    | none => none
    | some n => if 55296 ≤ n ∧ n ≤ 57343 then none else some (runeB n, pre.length + 5) := by
  have hg : L[pre.length]? = some c := by rw [h, List.getElem?_append_right (Nat.le_refl _)]; simp
  have hd : L.drop (pre.length + 1) = suf := by
    rw [h, show pre ++ c :: suf = (pre ++ [c]) ++ suf by simp, show pre.length + 1 = (pre ++ [c]).length by simp, List.drop_left]
  unfold escR
  rw [hg, hd]
  rfl
theorem textR_at {L pre suf : List UInt8} {c : UInt8} (h : L = pre ++ c :: suf) (f : Nat) (acc : List UInt8) : textR L (f + 1) pre.length acc = if c = 34 then some (acc, pre.length + 1) else if c.toNat < 32 then none else if c = 92 then
      match escR L (pre.length + 1) with
      | none => none
      | some (o, a2) => textR L f a2 (acc ++ o)
    else textR L f (pre.length + 1) (acc ++ [c]) := by
  have hg : L[pre.length]? = some c := by rw [h, List.getElem?_append_right (Nat.le_refl _)]; simp
  rw [textR, hg]
  rfl
theorem hexC_d : ∀ n : Nat, n < 16 → hexD (hexC n).toNat = some n := by decide +kernel
theorem hexD_48 : hexD (48 : UInt8).toNat = some 0 := by decide +kernel
theorem quoteB_read {L pre suf : List UInt8} (c : UInt8) (h : L = pre ++ (quoteB c ++ suf)) (f : Nat) (acc : List UInt8) : textR L (f + 1) pre.length acc = textR L f (pre ++ quoteB c).length (acc ++ [c]) := by
  unfold quoteB at h ⊢
  by_cases q1 : c = 34 ∨ c = 92
  · rw [if_pos q1] at h ⊢
    have h1 : L = pre ++ 92 :: (c :: suf) := h
    have h2 : L = (pre ++ [92]) ++ c :: suf := by rw [h1]; simp
    rw [textR_at h1, if_neg (by decide), if_neg (by decide), if_pos rfl, show pre.length + 1 = (pre ++ [92]).length by simp, escR_at h2]
    rcases q1 with rfl | rfl
    · rw [if_pos (by decide)]
      simp [escOut]
      rfl
    · rw [if_pos (by decide)]
      simp [escOut]
      rfl
  · rw [if_neg q1] at h ⊢
    by_cases q2 : c = 10
    · rw [if_pos q2] at h ⊢
      have h1 : L = pre ++ 92 :: (110 :: suf) := h
      have h2 : L = (pre ++ [92]) ++ 110 :: suf := by rw [h1]; simp
      rw [textR_at h1, if_neg (by decide), if_neg (by decide), if_pos rfl, show pre.length + 1 = (pre ++ [92]).length by simp, escR_at h2, if_pos (by decide), q2]
      simp [escOut]
      rfl
    · rw [if_neg q2] at h ⊢
      by_cases q3 : c = 9
      · rw [if_pos q3] at h ⊢
        have h1 : L = pre ++ 92 :: (116 :: suf) := h
        have h2 : L = (pre ++ [92]) ++ 116 :: suf := by rw [h1]; simp
        rw [textR_at h1, if_neg (by decide), if_neg (by decide), if_pos rfl, show pre.length + 1 = (pre ++ [92]).length by simp, escR_at h2, if_pos (by decide), q3]
        simp [escOut]
        rfl
      · rw [if_neg q3] at h ⊢
        by_cases q4 : c.toNat < 32
        · rw [if_pos q4] at h ⊢
          have h1 : L = pre ++ 92 :: (117 :: ([48, 48, hexC (c.toNat / 16), hexC (c.toNat % 16)] ++ suf)) := h
          have h2 : L = (pre ++ [92]) ++ 117 :: ([48, 48, hexC (c.toNat / 16), hexC (c.toNat % 16)] ++ suf) := by rw [h1]; simp
          have hl : L.length = pre.length + 6 + suf.length := by rw [h1]; simp; omega
          have hx : hexN 0 (([48, 48, hexC (c.toNat / 16), hexC (c.toNat % 16)] ++ suf).take 4) = some c.toNat := by
            have e : ([48, 48, hexC (c.toNat / 16), hexC (c.toNat % 16)] ++ suf).take 4 = [48, 48, hexC (c.toNat / 16), hexC (c.toNat % 16)] := rfl
            rw [e]
            simp only [hexN, hexD_48, hexC_d _ (show c.toNat / 16 < 16 by omega), hexC_d _ (show c.toNat % 16 < 16 by omega)]
            congr 1
            omega
          rw [textR_at h1, if_neg (by decide), if_neg (by decide), if_pos rfl, show pre.length + 1 = (pre ++ [92]).length by simp, escR_at h2, if_neg (by decide), if_neg (by rw [List.length_append]; simp; omega), hx]
          have hr : runeB c.toNat = [c] := by
            unfold runeB
            rw [if_pos (by omega)]
            simp
          simp only [if_neg (show ¬ (55296 ≤ c.toNat ∧ c.toNat ≤ 57343) by omega), hr]
          simp
        · rw [if_neg q4] at h ⊢
          have h1 : L = pre ++ c :: suf := h
          rw [textR_at h1, if_neg (fun e => q1 (.inl e)), if_neg q4, if_neg (fun e => q1 (.inr e))]
          simp
theorem quote_read {L suf : List UInt8} : ∀ (t pre : List UInt8) (f : Nat) (acc : List UInt8), L = pre ++ (t.flatMap quoteB ++ 34 :: suf) → t.length < f → textR L f pre.length acc = some (acc ++ t, (pre ++ t.flatMap quoteB).length + 1)
  | [], pre, f, acc, h, hf => by
    obtain ⟨f, rfl⟩ : ∃ m, f = m + 1 := ⟨f - 1, by omega⟩
    have h1 : L = pre ++ 34 :: suf := by rw [h]; rfl
    rw [textR_at h1, if_pos rfl]
    simp
  | c :: t, pre, f, acc, h, hf => by
    obtain ⟨f, rfl⟩ : ∃ m, f = m + 1 := ⟨f - 1, by omega⟩
    have h1 : L = pre ++ (quoteB c ++ (t.flatMap quoteB ++ 34 :: suf)) := by rw [h]; simp
    rw [quoteB_read c h1, quote_read (suf := suf) t (pre ++ quoteB c) f (acc ++ [c]) (by rw [h1]; simp) (by simp at hf; omega)]
    simp
theorem nextR_quote {L pre suf : List UInt8} (t : List UInt8) (h : L = pre ++ (quoteR t ++ suf)) : nextR L pre.length = some (⟨7, t, 0, pre.length⟩, pre.length + (quoteR t).length) := by
  have h0 : L = pre ++ 34 :: (t.flatMap quoteB ++ 34 :: suf) := by rw [h, quoteR]; simp
  have hg : L[pre.length]? = some 34 := by rw [h0, List.getElem?_append_right (Nat.le_refl _)]; simp
  have hlen : t.length ≤ (t.flatMap quoteB).length := by
    clear h h0 hg
    induction t with
    | nil => simp
    | cons c t ih =>
      have hc : 1 ≤ (quoteB c).length := by
        unfold quoteB
        split
        · simp
        · split
          · simp
          · split
            · simp
            · split <;> simp
      simp only [List.flatMap_cons, List.length_append, List.length_cons]
      omega
  have hL : t.length < L.length + 1 := by rw [h0]; simp only [List.length_append, List.length_cons]; omega
  unfold nextR
  rw [hg]
  have hr := quote_read (L := L) (suf := suf) t (pre ++ [34]) (L.length + 1) [] (by rw [h0]; simp) hL
  have hpl : (pre ++ [(34 : UInt8)]).length = pre.length + 1 := by simp
  rw [hpl] at hr
  simp only [hr]
  rw [if_neg (by decide), if_neg (by decide), if_pos trivial]
  simp [quoteR]
  omega
end Go.Proofs.YtegppkngdkkdcaaGreatDoor.Lx
end
section
set_option linter.unusedVariables false
set_option linter.unusedSimpArgs false
namespace Go.Proofs.YtegppkngdkkdcaaGreatDoor.Lx
open Go
def writtenR (k : Int) (t : List UInt8) (n : Int) : Option (List UInt8) :=
  if 1 ≤ k ∧ k ≤ 6 then some [singles.getD (k.toNat - 1) 0] else if k = 10 then some [10] else if k = 7 then some (quoteR t) else if k = 8 then some (Lib.itoa n) else if k = 9 ∧ isWord t = true then some t else none
structure JT where
  k : Int
  t : List UInt8
  n : Int
  a : Int
def wordy (k : Int) : Bool := k == 8 || k == 9
def joinF : Bool → List JT → Option (List UInt8)
  | _, [] => some []
  | pw, x :: r => match writtenR x.k x.t x.n with
    | none => none
    | some s => (joinF (wordy x.k) r).map fun o => (if pw && wordy x.k then [32] else []) ++ s ++ o
theorem nextR_at {L pre suf : List UInt8} {c : UInt8} (h : L = pre ++ c :: suf) : nextR L pre.length = if 0 ≤ Lib.indexByte singles c then some (⟨(Lib.indexByte singles c).toNat + 1, [], 0, pre.length⟩, pre.length + 1)
    else if c = 10 then some (⟨10, [], 0, pre.length⟩, pre.length + 1)
    else if c = 34 then (textR L (L.length + 1) (pre.length + 1) []).map fun x => (⟨7, x.1, 0, pre.length⟩, x.2)
    else if c = 45 then (numR true (suf.takeWhile isDigit)).map fun v => (⟨8, [], v, pre.length⟩, pre.length + 1 + (suf.takeWhile isDigit).length)
    else if isDigit c = true then (numR false ((c :: suf).takeWhile isDigit)).map fun v => (⟨8, [], v, pre.length⟩, pre.length + ((c :: suf).takeWhile isDigit).length)
    else if isWord ((c :: suf).takeWhile isLow) = true then some (⟨9, (c :: suf).takeWhile isLow, 0, pre.length⟩, pre.length + ((c :: suf).takeWhile isLow).length) else none := by
  have hg : L[pre.length]? = some c := by rw [h, List.getElem?_append_right (Nat.le_refl _)]; simp
  have hd0 : L.drop pre.length = c :: suf := by rw [h, List.drop_left]
  have hd : L.drop (pre.length + 1) = suf := by
    rw [h, show pre ++ c :: suf = (pre ++ [c]) ++ suf by simp, show pre.length + 1 = (pre ++ [c]).length by simp, List.drop_left]
  unfold nextR
  rw [hg, hd, hd0]
theorem takeWhile_end (p : UInt8 → Bool) (w suf : List UInt8) (hw : ∀ c ∈ w, p c = true) (hs : ∀ c r, suf = c :: r → p c = false) : (w ++ suf).takeWhile p = w := by
  induction w with
  | nil => cases suf with
    | nil => rfl
    | cons c r => simp [hs c r rfl]
  | cons a w ih => simp [hw a (by simp), ih (fun c hc => hw c (by simp [hc]))]
theorem dig_not' : ∀ n : Nat, n < 256 → isDigit (UInt8.ofNat n) = true → ¬ 0 ≤ Lib.indexByte singles (UInt8.ofNat n) ∧ UInt8.ofNat n ≠ 10 ∧ UInt8.ofNat n ≠ 34 ∧ UInt8.ofNat n ≠ 45 ∧ isBlank (UInt8.ofNat n) = false := by decide +kernel
theorem dig_not (c : UInt8) (h : isDigit c = true) : ¬ 0 ≤ Lib.indexByte singles c ∧ c ≠ 10 ∧ c ≠ 34 ∧ c ≠ 45 ∧ isBlank c = false := by
  have := dig_not' c.toNat (UInt8.toNat_lt c)
  rw [UInt8.ofNat_toNat] at this
  exact this h
def sufOk (k : Int) (suf : List UInt8) : Prop := wordy k = true → ∀ c r, suf = c :: r → isDigit c = false ∧ isLow c = false
def tokOf (k : Int) (t : List UInt8) (n : Int) (pos : Nat) : Tk := ⟨k.toNat, if k = 7 ∨ k = 9 then t else [], if k = 8 then n else 0, pos⟩
theorem isWord_cases {t : List UInt8} (h : isWord t = true) : t = wTrue ∨ t = wFalse ∨ t = wNull := by
  unfold isWord at h
  simp only [Bool.or_eq_true, beq_iff_eq] at h
  rcases h with (h | h) | h
  · exact .inl h
  · exact .inr (.inl h)
  · exact .inr (.inr h)
theorem nextR_written {L pre suf w : List UInt8} {k : Int} {t : List UInt8} {n : Int} (hn : -9223372036854775808 ≤ n ∧ n ≤ 9223372036854775807) (h : writtenR k t n = some w) (hL : L = pre ++ (w ++ suf)) (hs : sufOk k suf) :
    nextR L pre.length = some (tokOf k t n pre.length, pre.length + w.length) := by
  unfold writtenR at h
  split at h
  · rename_i q
    cases h
    have hk : k = 1 ∨ k = 2 ∨ k = 3 ∨ k = 4 ∨ k = 5 ∨ k = 6 := by omega
    rcases hk with rfl | rfl | rfl | rfl | rfl | rfl <;> (rw [nextR_at (c := _) (suf := suf) hL, if_pos (by decide)]; rfl)
  · split at h
    · rename_i q
      subst q
      cases h
      rw [nextR_at (c := 10) (suf := suf) hL, if_neg (by decide), if_pos rfl]
      rfl
    · split at h
      · rename_i q
        subst q
        cases h
        exact nextR_quote t hL
      · split at h
        · rename_i q
          subst q
          cases h
          have hsf : ∀ c r, suf = c :: r → isDigit c = false := fun c r h => (hs (by rfl) c r h).1
          unfold Lib.itoa at hL ⊢
          by_cases hneg : n < 0
          · rw [if_pos hneg] at hL ⊢
            obtain ⟨f1, f2, f3, f4⟩ := decDigits_facts n.natAbs
            have hL' : L = pre ++ 45 :: (Lib.decDigits n.natAbs ++ suf) := hL
            rw [nextR_at hL', if_neg (by decide), if_neg (by decide), if_neg (by decide), if_pos rfl, takeWhile_end isDigit _ _ f2 hsf, numR_eq true _ f2, f1]
            rw [if_neg, if_pos rfl, if_pos (by omega)]
            · simp only [Option.map_some, tokOf, List.length_cons]
              have : -(n.natAbs : Int) = n := by omega
              rw [this]
              simp
              omega
            · rintro (hh | hh)
              · exact f3 hh
              · cases hd : Lib.decDigits n.natAbs with
                | nil => exact f3 hd
                | cons d r =>
                  rw [hd] at hh f4
                  have := ((badNum_iff true d r).1 hh).1
                  have := f4 (by rw [this]; rfl)
                  omega
          · rw [if_neg hneg] at hL ⊢
            obtain ⟨f1, f2, f3, f4⟩ := decDigits_facts n.toNat
            have hL1 := decDigits_len1 (u := n.toNat)
            generalize hds : Lib.decDigits n.toNat = ds at hL f1 f2 f3 f4 hL1 ⊢
            cases ds with
            | nil => exact absurd rfl f3
            | cons d r =>
              have hL' : L = pre ++ d :: (r ++ suf) := hL
              obtain ⟨g1, g2, g3, g4, _⟩ := dig_not d (f2 d (by simp))
              rw [nextR_at hL', if_neg g1, if_neg g2, if_neg g3, if_neg g4, if_pos (f2 d (by simp)), show d :: (r ++ suf) = (d :: r) ++ suf from rfl, takeWhile_end isDigit _ _ f2 hsf, numR_eq false _ f2, f1]
              rw [if_neg, if_neg (by decide), if_pos (by omega)]
              · simp only [Option.map_some, tokOf]
                have : (n.toNat : Int) = n := by omega
                rw [this]
                simp
              · rintro (hh | hh)
                · cases hh
                · obtain ⟨e1, e2⟩ := (badNum_iff false d r).1 hh
                  have := hL1 (by rw [e1]; rfl)
                  injection this with _ hr
                  rcases e2 with e2 | e2
                  · exact e2 hr
                  · cases e2
        · split at h
          · rename_i q
            obtain ⟨rfl, hw⟩ := q
            cases h
            have hsf : ∀ c r, suf = c :: r → isLow c = false := fun c r h => (hs (by rfl) c r h).2
            have KEY : ∀ (c : UInt8) (r : List UInt8), w = c :: r → ¬ 0 ≤ Lib.indexByte singles c → c ≠ 10 → c ≠ 34 → c ≠ 45 → ¬ isDigit c = true → (∀ x ∈ c :: r, isLow x = true) → nextR L pre.length = some (tokOf 9 w n pre.length, pre.length + w.length) := by
              rintro c r rfl g1 g2 g3 g4 g5 hall
              have hL' : L = pre ++ c :: (r ++ suf) := hL
              rw [nextR_at hL', if_neg g1, if_neg g2, if_neg g3, if_neg g4, if_neg g5, show c :: (r ++ suf) = (c :: r) ++ suf from rfl, takeWhile_end isLow _ _ hall hsf, if_pos hw]
              rfl
            rcases isWord_cases hw with e | e | e
            · exact KEY 116 [114, 117, 101] e (by decide) (by decide) (by decide) (by decide) (by decide) (by decide)
            · exact KEY 102 [97, 108, 115, 101] e (by decide) (by decide) (by decide) (by decide) (by decide) (by decide)
            · exact KEY 110 [117, 108, 108] e (by decide) (by decide) (by decide) (by decide) (by decide) (by decide)
          · cases h
theorem written_head {k : Int} {t : List UInt8} {n : Int} {w : List UInt8} (h : writtenR k t n = some w) : ∃ c r, w = c :: r ∧ isBlank c = false ∧ (wordy k = false → isDigit c = false ∧ isLow c = false) := by
  unfold writtenR at h
  split at h
  · rename_i q
    cases h
    have hk : k = 1 ∨ k = 2 ∨ k = 3 ∨ k = 4 ∨ k = 5 ∨ k = 6 := by omega
    rcases hk with rfl | rfl | rfl | rfl | rfl | rfl <;> exact ⟨_, _, rfl, by decide, fun _ => by decide⟩
  · split at h
    · cases h
      exact ⟨_, _, rfl, by decide, fun _ => by decide⟩
    · split at h
      · cases h
        exact ⟨_, _, rfl, by decide, fun _ => by decide⟩
      · split at h
        · rename_i q
          subst q
          cases h
          unfold Lib.itoa
          by_cases hneg : n < 0
          · rw [if_pos hneg]
            exact ⟨_, _, rfl, by decide, fun h => by cases h⟩
          · rw [if_neg hneg]
            obtain ⟨f1, f2, f3, f4⟩ := decDigits_facts n.toNat
            cases hds : Lib.decDigits n.toNat with
            | nil => exact absurd hds f3
            | cons d r =>
              rw [hds] at f2
              exact ⟨d, r, rfl, (dig_not d (f2 d (by simp))).2.2.2.2, fun h => by cases h⟩
        · split at h
          · rename_i q
            obtain ⟨rfl, hw⟩ := q
            cases h
            rcases isWord_cases hw with rfl | rfl | rfl <;> exact ⟨_, _, rfl, by decide, fun h => by cases h⟩
          · cases h
theorem joinF_head : ∀ (l : List JT) (o : List UInt8), joinF true l = some o → ∀ c r, o = c :: r → isDigit c = false ∧ isLow c = false
  | [], o, h, c, r, e => by cases h; cases e
  | x :: l, o, h, c, r, e => by
    rw [joinF] at h
    cases hw : writtenR x.k x.t x.n with
    | none => rw [hw] at h; cases h
    | some s =>
      rw [hw] at h
      simp only at h
      obtain ⟨o1, h1, rfl⟩ := Option.map_eq_some_iff.1 h
      cases hx : wordy x.k with
      | true =>
        rw [hx] at e
        have e' : (32 : UInt8) :: (s ++ o1) = c :: r := by simpa using e
        injection e' with e1 _
        subst e1
        decide
      | false =>
        rw [hx] at e
        have e' : s ++ o1 = c :: r := by simpa using e
        obtain ⟨c', r', rfl, _, h3⟩ := written_head hw
        injection e' with e1 _
        subst e1
        exact h3 hx
def bareT (t : Tk) : Nat × List UInt8 × Int := (t.kind, t.text, t.num)
def bareJ (x : JT) : Nat × List UInt8 × Int := (x.k.toNat, if x.k = 7 ∨ x.k = 9 then x.t else [], if x.k = 8 then x.n else 0)
def JT.nok (x : JT) : Prop := -9223372036854775808 ≤ x.n ∧ x.n ≤ 9223372036854775807
theorem toks_join {L : List UInt8} : ∀ (l : List JT) (pw : Bool) (pre o : List UInt8) (acc : List Tk) (f : Nat), (∀ x ∈ l, x.nok) → joinF pw l = some o → L = pre ++ o → l.length < f →
    ∃ ts, toksR L f pre.length acc = .inl (acc ++ ts) ∧ ts.map bareT = l.map bareJ
  | [], pw, pre, o, acc, f, _, h, hL, hf => by
    obtain ⟨f, rfl⟩ : ∃ m, f = m + 1 := ⟨f - 1, by omega⟩
    cases h
    refine ⟨[], ?_, rfl⟩
    have hl : L.length = pre.length := by rw [hL]; simp
    rw [toksR, List.drop_eq_nil_of_le (by omega)]
    rw [if_pos (by simp [hl])]
    simp
  | x :: l, pw, pre, o, acc, f, hn, h, hL, hf => by
    obtain ⟨f, rfl⟩ : ∃ m, f = m + 1 := ⟨f - 1, by omega⟩
    rw [joinF] at h
    cases hw : writtenR x.k x.t x.n with
    | none => rw [hw] at h; cases h
    | some s =>
      rw [hw] at h
      simp only at h
      obtain ⟨o1, h1, rfl⟩ := Option.map_eq_some_iff.1 h
      generalize hsep : (if pw && wordy x.k then [32] else ([] : List UInt8)) = sep at hL h
      have hsb : ∀ c ∈ sep, isBlank c = true := by
        intro c hc
        rw [← hsep] at hc
        split at hc
        · simp at hc; subst hc; decide
        · cases hc
      obtain ⟨c0, r0, hs0, hb0, _⟩ := written_head hw
      have hd : L.drop pre.length = sep ++ (s ++ o1) := by rw [hL, List.drop_left]; simp
      have htw : (L.drop pre.length).takeWhile isBlank = sep := by
        rw [hd]
        exact takeWhile_end isBlank _ _ hsb (fun c r e => by rw [hs0] at e; injection e with e _; rw [← e]; exact hb0)
      have hL1 : L = (pre ++ sep) ++ (s ++ o1) := by rw [hL]; simp
      have hlen : L.length = pre.length + sep.length + s.length + o1.length := by rw [hL]; simp only [List.length_append]; omega
      have hsl : s.length = r0.length + 1 := by rw [hs0]; rfl
      have hnx := nextR_written (hn x (by simp)) hw hL1 (fun hwd c r e => by
        rw [hwd] at h1
        exact joinF_head l o1 h1 c r e)
      have hpl : pre.length + sep.length = (pre ++ sep).length := by simp
      obtain ⟨ts, ht, hb⟩ := toks_join (L := L) l (wordy x.k) (pre ++ sep ++ s) o1 (acc ++ [tokOf x.k x.t x.n (pre ++ sep).length]) f (fun y hy => hn y (by simp [hy])) h1 (by rw [hL1]; simp) (by simp at hf; omega)
      refine ⟨tokOf x.k x.t x.n (pre ++ sep).length :: ts, ?_, ?_⟩
      · rw [toksR, htw, if_neg (by omega), hpl, hnx]
        simp only
        rw [show (pre ++ sep).length + s.length = (pre ++ sep ++ s).length by simp only [List.length_append], ht]
        simp
      · rw [List.map_cons, List.map_cons, hb]
        rfl
theorem joinF_len : ∀ (l : List JT) (pw : Bool) (o : List UInt8), joinF pw l = some o → l.length ≤ o.length
  | [], _, _, _ => by simp
  | x :: l, pw, o, h => by
    rw [joinF] at h
    cases hw : writtenR x.k x.t x.n with
    | none => rw [hw] at h; cases h
    | some s =>
      rw [hw] at h
      simp only at h
      obtain ⟨o1, h1, rfl⟩ := Option.map_eq_some_iff.1 h
      have := joinF_len l _ o1 h1
      obtain ⟨c0, r0, hs0, _, _⟩ := written_head hw
      rw [hs0]
      simp only [List.length_append, List.length_cons]
      omega
end Go.Proofs.YtegppkngdkkdcaaGreatDoor.Lx
end
section
set_option linter.unusedVariables false
set_option linter.unusedSimpArgs false
namespace Go.Proofs.YtegppkngdkkdcaaGreatDoor.Tr
open Go Go.Proofs.YtegppkngdkkdcaaGreatDoor.Lx Go.Proofs.YtegppkngdkkdcaaGreatDoor.PS
def jS (k : Int) : JT := ⟨k, [], 0, 0⟩
def jN (n : ByteArray) : JT := ⟨7, n.data.toList, 0, 0⟩
def leafJ (x : V) : List JT := if x.f0 = 1 then [⟨9, wNul, 0, 0⟩] else if x.f0 = 2 then [⟨9, Lib.formatBool (x.f1 == 1), 0, 0⟩] else if x.f0 = 3 then [⟨8, [], x.f1, 0⟩] else if x.f0 = 4 then [⟨7, x.f2.data.toList, 0, 0⟩] else []
def elemsJ (f : V → List JT) (m : Bool) : Nat → List V → List ByteArray → List JT
  | _, [], _ => []
  | i, y :: ys, ns => (if i = 0 then [] else [jS 6]) ++ ((if m = true then [jN (ns.headD ByteArray.empty), jS 5] else []) ++ (f y ++ elemsJ f m (i + 1) ys ns.tail))
def toksJ : Nat → V → List JT
  | 0, x => leafJ x
  | d + 1, x => if x.f0 = 5 then jS 3 :: (elemsJ (toksJ d) false 0 x.f3 x.f4 ++ [jS 4]) else if x.f0 = 6 then jS 1 :: (elemsJ (toksJ d) true 0 x.f3 x.f4 ++ [jS 2]) else leafJ x
theorem fb_true : Lib.formatBool true = wTru := by decide +kernel
theorem fb_false : Lib.formatBool false = wFalse := by decide +kernel
theorem joinF_step (pw : Bool) (x : JT) (r : List JT) (s o : List UInt8) (hw : writtenR x.k x.t x.n = some s) (h : joinF (wordy x.k) r = some o) : joinF pw (x :: r) = some ((if pw && wordy x.k then [32] else []) ++ s ++ o) := by
  rw [joinF, hw]
  simp only [h, Option.map_some]
theorem joinF_one (pw : Bool) (k : Int) (hk : 1 ≤ k ∧ k ≤ 6) (r : List JT) (o : List UInt8) (h : joinF false r = some o) : joinF pw (jS k :: r) = some (singles.getD (k.toNat - 1) 0 :: o) := by
  have hw : wordy k = false := by
    unfold wordy
    have h1 : ¬ k = 8 := by omega
    have h2 : ¬ k = 9 := by omega
    simp [h1, h2]
  have hx : wordy (jS k).k = false := hw
  have e : writtenR (jS k).k (jS k).t (jS k).n = some [singles.getD (k.toNat - 1) 0] := by
    unfold writtenR jS
    rw [if_pos hk]
  rw [joinF_step pw (jS k) r _ o e (by rw [hx]; exact h), hx]
  simp
theorem joinF_name (pw : Bool) (n : ByteArray) (r : List JT) (o : List UInt8) (h : joinF false r = some o) : joinF pw (jN n :: r) = some (quoteR n.data.toList ++ o) := by
  have hx : wordy (jN n).k = false := rfl
  rw [joinF_step pw (jN n) r (quoteR n.data.toList) o rfl (by rw [hx]; exact h), hx]
  simp
theorem leaf_join (x : V) (hx : 1 ≤ x.f0 ∧ x.f0 ≤ 4) (r : List JT) (o : List UInt8) (h : ∀ pw, joinF pw r = some o) : joinF false (leafJ x ++ r) = some (leafW x ++ o) := by
  unfold leafJ leafW
  by_cases h1 : x.f0 = 1
  · rw [if_pos h1, if_pos h1]
    have hw : writtenR 9 wNul 0 = some wNul := by decide
    simp only [List.cons_append, List.nil_append, joinF, hw, h]
    simp
  · rw [if_neg h1, if_neg h1]
    by_cases h2 : x.f0 = 2
    · rw [if_pos h2, if_pos h2]
      have hw : writtenR 9 (Lib.formatBool (x.f1 == 1)) 0 = some (Lib.formatBool (x.f1 == 1)) := by
        cases (x.f1 == 1)
        · rw [fb_false]; decide
        · rw [fb_true]; decide
      simp only [List.cons_append, List.nil_append, joinF, hw, h]
      simp
    · rw [if_neg h2, if_neg h2]
      by_cases h3 : x.f0 = 3
      · rw [if_pos h3, if_pos h3]
        have hw : writtenR 8 [] x.f1 = some (Lib.itoa x.f1) := rfl
        simp only [List.cons_append, List.nil_append, joinF, hw, h]
        simp
      · rw [if_neg h3, if_neg h3]
        have h4 : x.f0 = 4 := by omega
        rw [if_pos h4, if_pos h4]
        have hw : writtenR 7 x.f2.data.toList 0 = some (quoteR x.f2.data.toList) := rfl
        simp only [List.cons_append, List.nil_append, joinF, hw, h]
        simp
theorem elems_join (fJ : V → List JT) (fW : V → List UInt8) (m : Bool) (ys : List V) : ∀ (i : Nat) (ns : List ByteArray) (pw : Bool) (r : List JT) (o : List UInt8), (∀ y ∈ ys, ∀ r o, (∀ pw, joinF pw r = some o) → joinF false (fJ y ++ r) = some (fW y ++ o)) → (i = 0 → pw = false) → (∀ pw, joinF pw r = some o) → joinF pw (elemsJ fJ m i ys ns ++ r) = some (elemsW fW m i ys ns ++ o) := by
  induction ys with
  | nil => intro i ns pw r o _ _ h; simpa [elemsJ, elemsW] using h pw
  | cons y ys ih =>
    intro i ns pw r o hf hi h
    have hrest := fun pw' => ih (i + 1) ns.tail pw' r o (fun z hz => hf z (by simp [hz])) (fun e => by omega) h
    have hy := hf y (by simp) _ _ hrest
    have hn : joinF false ((if m = true then [jN (ns.headD ByteArray.empty), jS 5] else []) ++ (fJ y ++ (elemsJ fJ m (i + 1) ys ns.tail ++ r))) = some ((if m = true then quoteR (ns.headD ByteArray.empty).data.toList ++ [58] else []) ++ (fW y ++ (elemsW fW m (i + 1) ys ns.tail ++ o))) := by
      cases m with
      | false => exact hy
      | true =>
        have := joinF_name false (ns.headD ByteArray.empty) _ _ (joinF_one false 5 (by decide) _ _ hy)
        rw [show singles.getD ((5 : Int).toNat - 1) 0 = 58 from rfl] at this
        simpa using this
    simp only [elemsJ, elemsW, List.append_assoc]
    by_cases h0 : i = 0
    · rw [if_pos h0, if_pos h0, hi h0]
      exact hn
    · rw [if_neg h0, if_neg h0]
      have := joinF_one pw 6 (by decide) _ _ hn
      rw [show singles.getD ((6 : Int).toNat - 1) 0 = 44 from rfl] at this
      simpa using this
theorem bareV_kind {x : V} (h : bareV x = true) : 1 ≤ x.f0 ∧ x.f0 ≤ 6 := by
  unfold bareV bareR at h
  (repeat' split at h) <;> first | omega | cases h
theorem sound_bare {d : Nat} {x : V} (h : soundR d x = true) : bareV x = true := by
  cases d <;> simp only [soundR, Bool.and_eq_true] at h
  · exact h.1.2
  · exact h.1.1
theorem toks_join' : ∀ (d : Nat) (x : V), soundR d x = true → ∀ r o, (∀ pw, joinF pw r = some o) → joinF false (toksJ d x ++ r) = some (writeD d x ++ o)
  | 0, x, h, r, o, hr => by
    have hk := bareV_kind (sound_bare h)
    simp only [soundR, Bool.and_eq_true, Bool.not_eq_true', Bool.or_eq_false_iff, beq_eq_false_iff_ne] at h
    exact leaf_join x ⟨hk.1, by have := h.1.1; omega⟩ r o hr
  | d + 1, x, h, r, o, hr => by
    have hk := bareV_kind (sound_bare h)
    simp only [soundR, Bool.and_eq_true, List.all_eq_true] at h
    have hf : ∀ y ∈ x.f3, ∀ r o, (∀ pw, joinF pw r = some o) → joinF false (toksJ d y ++ r) = some (writeD d y ++ o) := fun y hy => toks_join' d y (h.2 y hy)
    simp only [toksJ, writeD]
    by_cases h5 : x.f0 = 5
    · rw [if_pos h5, if_pos h5]
      have := joinF_one false 3 (by decide) _ _ (elems_join (toksJ d) (writeD d) false x.f3 0 x.f4 false _ _ hf (fun _ => rfl) (fun pw => joinF_one pw 4 (by decide) r o (hr false)))
      rw [show singles.getD ((3 : Int).toNat - 1) 0 = 91 from rfl, show singles.getD ((4 : Int).toNat - 1) 0 = 93 from rfl] at this
      simpa using this
    · rw [if_neg h5, if_neg h5]
      by_cases h6 : x.f0 = 6
      · rw [if_pos h6, if_pos h6]
        have := joinF_one false 1 (by decide) _ _ (elems_join (toksJ d) (writeD d) true x.f3 0 x.f4 false _ _ hf (fun _ => rfl) (fun pw => joinF_one pw 2 (by decide) r o (hr false)))
        rw [show singles.getD ((1 : Int).toNat - 1) 0 = 123 from rfl, show singles.getD ((2 : Int).toNat - 1) 0 = 125 from rfl] at this
        simpa using this
      · rw [if_neg h6, if_neg h6]
        exact leaf_join x ⟨hk.1, by omega⟩ r o hr
def Has (ts : List Tk) (p : Nat) (J : List JT) : Prop := J.map bareJ <+: (ts.map bareT).drop p
theorem Has.left {ts : List Tk} {p : Nat} {a b : List JT} (h : Has ts p (a ++ b)) : Has ts p a := by
  unfold Has at *
  rw [List.map_append] at h
  exact (List.prefix_append _ _).trans h
theorem Has.right {ts : List Tk} {p : Nat} {a b : List JT} (h : Has ts p (a ++ b)) : Has ts (p + a.length) b := by
  unfold Has at *
  obtain ⟨m, hm⟩ := h
  refine ⟨m, ?_⟩
  rw [← List.drop_drop, ← hm, List.map_append, List.append_assoc, List.drop_left' (by simp)]
theorem Has.cons {ts : List Tk} {p : Nat} {a : JT} {b : List JT} (h : Has ts p (a :: b)) : Has ts (p + 1) b := Has.right (a := [a]) h
theorem Has.at {ts : List Tk} {p : Nat} {a : JT} {b : List JT} (h : Has ts p (a :: b)) (len : Nat) : (tokAt ts len p).kind = a.k.toNat ∧ (tokAt ts len p).text = (if a.k = 7 ∨ a.k = 9 then a.t else []) ∧ (tokAt ts len p).num = (if a.k = 8 then a.n else 0) := by
  obtain ⟨m, hm⟩ := h
  have h1 : (ts.map bareT)[p]? = some (bareJ a) := by
    have : ((ts.map bareT).drop p)[0]? = some (bareJ a) := by rw [← hm]; rfl
    rw [List.getElem?_drop] at this
    exact this
  rw [List.getElem?_map] at h1
  obtain ⟨t, ht, e⟩ := Option.map_eq_some_iff.1 h1
  have e2 : tokAt ts len p = t := by simp [tokAt, ht]
  rw [e2]
  unfold bareT bareJ at e
  simp only [Prod.mk.injEq] at e
  exact e
theorem ba_nil {a : ByteArray} (h : a.data.toList = []) : a = ⟨#[]⟩ := by
  cases a with
  | mk d => cases d with
    | mk l => simp at h; rw [h]
theorem toB_list (a : ByteArray) : toB a.data.toList = a := by cases a; rfl
theorem bareV_leaf {x : V} (h : bareV x = true) (h5 : x.f0 ≠ 5) (h6 : x.f0 ≠ 6) : x.f3 = [] ∧ x.f4 = [] := by
  unfold bareV bareR at h
  rw [if_neg h5, if_neg h6] at h
  have : x.f3.length + x.f4.length = 0 := by
    repeat' split at h
    all_goals simp at h
    all_goals simp [h]
  exact ⟨List.length_eq_zero_iff.1 (by omega), List.length_eq_zero_iff.1 (by omega)⟩
theorem leaf_len (x : V) (hx : 1 ≤ x.f0 ∧ x.f0 ≤ 4) : (leafJ x).length = 1 := by
  unfold leafJ
  repeat' split
  all_goals first | rfl | omega
theorem leaf_read (ts : List Tk) (len f o p : Nat) (x : V) (hb : bareV x = true) (h5 : x.f0 ≠ 5) (h6 : x.f0 ≠ 6) (h : Has ts p (leafJ x)) : valP ts len (f + 1) o p = some (.ok x (p + 1)) := by
  obtain ⟨h3, h4⟩ := bareV_leaf hb h5 h6
  have hk := bareV_kind hb
  obtain ⟨k, n, t, rs, ns⟩ := x
  simp only at h3 h4 h5 h6 hk
  subst h3 h4
  unfold bareV bareR at hb
  simp only [List.length_nil] at hb
  unfold leafJ at h
  simp only at h
  simp only [valP]
  by_cases h1 : k = 1
  · rw [if_pos h1] at h hb
    obtain ⟨a1, a2, a3⟩ := h.at len
    rw [a1, a2]
    simp only [Bool.and_eq_true, beq_iff_eq, List.isEmpty_iff] at hb
    rw [ba_nil hb.1.2, hb.1.1, h1]
    simp [wordV, nulV]
  · rw [if_neg h1] at h hb
    by_cases h2 : k = 2
    · rw [if_pos h2] at h hb
      obtain ⟨a1, a2, a3⟩ := h.at len
      rw [a1, a2]
      simp only [Bool.and_eq_true, Bool.or_eq_true, beq_iff_eq, List.isEmpty_iff] at hb
      rw [ba_nil hb.1.2, h2]
      rcases hb.1.1 with e | e
      · rw [e, show ((0 : Int) == 1) = false from rfl, fb_false]
        simp [wordV, wNul, wTru, wFalse]
      · rw [e, show ((1 : Int) == 1) = true from rfl, fb_true]
        simp [wordV, wNul, wTru]
    · rw [if_neg h2] at h hb
      by_cases h3 : k = 3
      · rw [if_pos h3] at h hb
        obtain ⟨a1, a2, a3⟩ := h.at len
        rw [a1, a3]
        simp only [Bool.and_eq_true, List.isEmpty_iff] at hb
        rw [ba_nil hb.1, h3]
        simp
      · rw [if_neg h3] at h hb
        have h4 : k = 4 := by omega
        rw [if_pos h4] at h hb
        obtain ⟨a1, a2, a3⟩ := h.at len
        rw [a1, a2]
        simp only [Bool.and_eq_true, beq_iff_eq] at hb
        rw [hb.1, h4]
        simp [toB_list]
def First (J : List JT) : Prop := ∃ j r, J = j :: r ∧ j.k.toNat ≠ 4 ∧ j.k.toNat ≠ 2
theorem leaf_first (x : V) (hx : 1 ≤ x.f0 ∧ x.f0 ≤ 4) : First (leafJ x) := by
  unfold leafJ
  repeat' split
  all_goals first | exact ⟨_, _, rfl, by simp, by simp⟩ | omega
theorem toks_first (d : Nat) (x : V) (h : soundR d x = true) : First (toksJ d x) := by
  have hk := bareV_kind (sound_bare h)
  cases d with
  | zero =>
    simp only [soundR, Bool.and_eq_true, Bool.not_eq_true', Bool.or_eq_false_iff, beq_eq_false_iff_ne] at h
    exact leaf_first x ⟨hk.1, by have := h.1.1; omega⟩
  | succ d =>
    unfold toksJ
    split
    · exact ⟨_, _, rfl, by decide, by decide⟩
    · split
      · exact ⟨_, _, rfl, by decide, by decide⟩
      · exact leaf_first x ⟨hk.1, by omega⟩
theorem elems_comma (fJ : V → List JT) (m : Bool) (y : V) (ys : List V) (ns : List ByteArray) : elemsJ fJ m 1 (y :: ys) ns = jS 6 :: elemsJ fJ m 0 (y :: ys) ns := by
  have hi : ∀ i j zs ns, 0 < i → 0 < j → elemsJ fJ m i zs ns = elemsJ fJ m j zs ns := by
    intro i j zs
    induction zs generalizing i j with
    | nil => intro ns _ _; rfl
    | cons z zs ih =>
      intro ns h1 h2
      simp only [elemsJ]
      rw [if_neg (show ¬ i = 0 by omega), if_neg (show ¬ j = 0 by omega), ih (i + 1) (j + 1) _ (by omega) (by omega)]
  simp only [elemsJ]
  rw [if_neg (by omega), if_pos trivial, hi 2 1 ys ns.tail (by omega) (by omega)]
  rfl
theorem arr_read (ts : List Tk) (len o : Nat) (fJ : V → List JT) (ys : List V) : ∀ (y : V) (f p : Nat) (acc : List V) (ns : List ByteArray),
    (∀ z ∈ y :: ys, First (fJ z) ∧ ∀ f p, Has ts p (fJ z) → 2 * (fJ z).length ≤ f → valP ts len f o p = some (.ok z (p + (fJ z).length))) →
    Has ts p (elemsJ fJ false 0 (y :: ys) ns ++ [jS 4]) → 2 * (elemsJ fJ false 0 (y :: ys) ns).length + 1 ≤ f →
    arrP ts len f o p acc = some (.ok ⟨5, 0, ⟨#[]⟩, acc ++ y :: ys, []⟩ (p + (elemsJ fJ false 0 (y :: ys) ns).length + 1)) := by
  induction ys with
  | nil =>
    intro y f p acc ns hf h hF
    obtain ⟨f, rfl⟩ : ∃ g, f = g + 1 := ⟨f - 1, by omega⟩
    obtain ⟨⟨j, r, hj, hj4, hj2⟩, hv⟩ := hf y (by simp)
    have e : elemsJ fJ false 0 [y] ns = fJ y := by simp [elemsJ]
    rw [e] at h hF ⊢
    have h0 := h.left
    have h1 := h.right
    have k0 : (tokAt ts len p).kind ≠ 4 := by
      rw [hj] at h0
      rw [(h0.at len).1]
      exact hj4
    have k1 : (tokAt ts len (p + (fJ y).length)).kind = 4 := (h1.at len).1
    simp only [arrP]
    rw [if_neg k0, hv f p h0 (by omega)]
    simp only
    rw [if_pos k1]
  | cons z zs ih =>
    intro y f p acc ns hf h hF
    obtain ⟨f, rfl⟩ : ∃ g, f = g + 1 := ⟨f - 1, by omega⟩
    obtain ⟨⟨j, r, hj, hj4, hj2⟩, hv⟩ := hf y (by simp)
    obtain ⟨⟨j', r', hj', hj4', _⟩, _⟩ := hf z (by simp)
    have e : elemsJ fJ false 0 (y :: z :: zs) ns = fJ y ++ (jS 6 :: elemsJ fJ false 0 (z :: zs) ns.tail) := by
      rw [← elems_comma]
      simp [elemsJ]
    rw [e] at h hF ⊢
    rw [List.append_assoc] at h
    have h0 := h.left
    have h1 := h.right
    have h2 : Has ts (p + (fJ y).length + 1) (elemsJ fJ false 0 (z :: zs) ns.tail ++ [jS 4]) := h1.cons
    have k0 : (tokAt ts len p).kind ≠ 4 := by
      rw [hj] at h0
      rw [(h0.at len).1]
      exact hj4
    have k1 : (tokAt ts len (p + (fJ y).length)).kind = 6 := (h1.at len).1
    have k2 : (tokAt ts len (p + (fJ y).length + 1)).kind ≠ 4 := by
      have e3 : elemsJ fJ false 0 (z :: zs) ns.tail = fJ z ++ elemsJ fJ false 1 zs ns.tail.tail := by simp [elemsJ]
      rw [e3, List.append_assoc] at h2
      have h3 := h2.left
      rw [hj'] at h3
      rw [(h3.at len).1]
      exact hj4'
    rw [List.length_append, List.length_cons] at hF
    simp only [arrP]
    rw [if_neg k0, hv f p h0 (by omega)]
    simp only
    rw [if_neg (by omega), if_neg (by omega), if_neg k2, ih z f (p + (fJ y).length + 1) (acc ++ [y]) ns.tail (fun x hx => hf x (by simp at hx ⊢; exact .inr hx)) h2 (by omega)]
    simp only [List.length_append, List.length_cons, List.append_assoc, List.singleton_append]
    congr 3
    omega
theorem hasN_false {n : ByteArray} {nm : List ByteArray} (h : n ∉ nm) : hasN n.data.toList nm = false := by
  unfold hasN
  rw [List.any_eq_false]
  intro x hx he
  have : x.data.toList = n.data.toList := by simpa using he
  have e : x = n := by rw [← toB_list x, ← toB_list n, this]
  exact h (e ▸ hx)
theorem map_read (ts : List Tk) (len o : Nat) (fJ : V → List JT) (ys : List V) : ∀ (y : V) (f p : Nat) (acc : List V) (nm : List ByteArray) (n : ByteArray) (ns : List ByteArray),
    (∀ z ∈ y :: ys, ∀ f p, Has ts p (fJ z) → 2 * (fJ z).length ≤ f → valP ts len f o p = some (.ok z (p + (fJ z).length))) →
    ns.length = ys.length → (nm ++ n :: ns).Nodup →
    Has ts p (elemsJ fJ true 0 (y :: ys) (n :: ns) ++ [jS 2]) → 2 * (elemsJ fJ true 0 (y :: ys) (n :: ns)).length + 1 ≤ f →
    mapP ts len f o p acc nm = some (.ok ⟨6, 0, ⟨#[]⟩, acc ++ y :: ys, nm ++ n :: ns⟩ (p + (elemsJ fJ true 0 (y :: ys) (n :: ns)).length + 1)) := by
  induction ys with
  | nil =>
    intro y f p acc nm n ns hf hl hnd h hF
    obtain ⟨f, rfl⟩ : ∃ g, f = g + 1 := ⟨f - 1, by omega⟩
    have hns : ns = [] := List.length_eq_zero_iff.1 hl
    subst hns
    have hv := hf y (by simp)
    have e : elemsJ fJ true 0 [y] [n] = jN n :: jS 5 :: fJ y := by simp [elemsJ]
    rw [e] at h hF ⊢
    have a0 := h.at len
    have h1 := h.cons
    have a1 := h1.at len
    have h2 := h1.cons
    have h3 := Has.left (a := fJ y) h2
    have h4 := Has.right (a := fJ y) h2
    have hnn : n ∉ nm := by
      rw [List.nodup_append] at hnd
      exact fun hn => hnd.2.2 n hn n (by simp) rfl
    have k0 : (tokAt ts len p).kind = 7 := a0.1
    have t0 : (tokAt ts len p).text = n.data.toList := a0.2.1
    have k1 : (tokAt ts len (p + 1)).kind = 5 := a1.1
    have k2 : (tokAt ts len (p + 1 + 1 + (fJ y).length)).kind = 2 := (h4.at len).1
    simp only [List.length_cons] at hF
    simp only [mapP]
    rw [if_neg (by omega), if_neg (by omega), t0, hasN_false hnn, if_neg (by decide), if_neg (by omega), hv f (p + 2) h3 (by omega)]
    simp only
    rw [if_pos (by rw [show p + 2 + (fJ y).length = p + 1 + 1 + (fJ y).length by omega]; exact k2), toB_list]
    simp only [List.length_cons]
    congr 3
    omega
  | cons z zs ih =>
    intro y f p acc nm n ns hf hl hnd h hF
    obtain ⟨f, rfl⟩ : ∃ g, f = g + 1 := ⟨f - 1, by omega⟩
    obtain ⟨n', ns, rfl⟩ : ∃ a l, ns = a :: l := by cases ns with
      | nil => simp at hl
      | cons a l => exact ⟨a, l, rfl⟩
    have hv := hf y (by simp)
    have e : elemsJ fJ true 0 (y :: z :: zs) (n :: n' :: ns) = jN n :: jS 5 :: (fJ y ++ (jS 6 :: elemsJ fJ true 0 (z :: zs) (n' :: ns))) := by
      rw [← elems_comma]
      simp [elemsJ]
    rw [e] at h hF ⊢
    have a0 := h.at len
    have h1 := h.cons
    have a1 := h1.at len
    have h2 := h1.cons
    have h2' : Has ts (p + 1 + 1) (fJ y ++ ((jS 6 :: elemsJ fJ true 0 (z :: zs) (n' :: ns)) ++ [jS 2])) := by simpa using h2
    have h3 := h2'.left
    have h4 := h2'.right
    have h5 := Has.cons (by simpa using h4)
    have hnn : n ∉ nm := by
      rw [List.nodup_append] at hnd
      exact fun hn => hnd.2.2 n hn n (by simp) rfl
    have k0 : (tokAt ts len p).kind = 7 := a0.1
    have t0 : (tokAt ts len p).text = n.data.toList := a0.2.1
    have k1 : (tokAt ts len (p + 1)).kind = 5 := a1.1
    have k2 : (tokAt ts len (p + 2 + (fJ y).length)).kind = 6 := by
      rw [show p + 2 + (fJ y).length = p + 1 + 1 + (fJ y).length by omega]
      exact (Has.at (by simpa using h4) len).1
    have k3 : (tokAt ts len (p + 2 + (fJ y).length + 1)).kind = 7 := by
      rw [show p + 2 + (fJ y).length + 1 = p + 1 + 1 + (fJ y).length + 1 by omega]
      have e3 : elemsJ fJ true 0 (z :: zs) (n' :: ns) ++ [jS 2] = jN n' :: (jS 5 :: (fJ z ++ elemsJ fJ true 1 zs ns) ++ [jS 2]) := by simp [elemsJ]
      rw [e3] at h5
      exact (h5.at len).1
    simp only [List.length_cons, List.length_append] at hF
    simp only [mapP]
    rw [if_neg (by omega), if_neg (by omega), t0, hasN_false hnn, if_neg (by decide), if_neg (by omega), hv f (p + 2) h3 (by omega)]
    simp only
    rw [if_neg (by omega), if_neg (by omega), if_neg (by omega), toB_list, ih z f (p + 2 + (fJ y).length + 1) (acc ++ [y]) (nm ++ [n]) n' ns (fun x hx => hf x (by simp at hx ⊢; exact .inr hx)) (by simpa using hl) (by simpa using hnd) (by rw [show p + 2 + (fJ y).length + 1 = p + 1 + 1 + (fJ y).length + 1 by omega]; exact h5) (by omega)]
    simp only [List.length_append, List.length_cons, List.append_assoc, List.singleton_append]
    congr 3
    omega
theorem val_read (ts : List Tk) (len : Nat) : ∀ (d : Nat) (x : V), soundR d x = true → ∀ f o p, Has ts p (toksJ d x) → o + d ≤ 8 → 2 * (toksJ d x).length ≤ f → valP ts len f o p = some (.ok x (p + (toksJ d x).length))
  | 0, x, h, f, o, p, hH, ho, hF => by
    have hb := sound_bare h
    have hk := bareV_kind hb
    simp only [soundR, Bool.and_eq_true, Bool.not_eq_true', Bool.or_eq_false_iff, beq_eq_false_iff_ne] at h
    have hl := leaf_len x ⟨hk.1, by have := h.1.1; omega⟩
    unfold toksJ at hH hF ⊢
    rw [hl] at hF ⊢
    obtain ⟨f, rfl⟩ : ∃ g, f = g + 1 := ⟨f - 1, by omega⟩
    exact leaf_read ts len f o p x hb h.1.1.1 h.1.1.2 hH
  | d + 1, x, h, f, o, p, hH, ho, hF => by
    have hb := sound_bare h
    have hk := bareV_kind hb
    simp only [soundR, Bool.and_eq_true, List.all_eq_true, decide_eq_true_eq] at h
    have hr : ∀ z ∈ x.f3, First (toksJ d z) ∧ ∀ f p, Has ts p (toksJ d z) → 2 * (toksJ d z).length ≤ f → valP ts len f (o + 1) p = some (.ok z (p + (toksJ d z).length)) :=
      fun z hz => ⟨toks_first d z (h.2 z hz), fun f p h1 h2 => val_read ts len d z (h.2 z hz) f (o + 1) p h1 (by omega) h2⟩
    unfold toksJ at hH hF ⊢
    by_cases h5 : x.f0 = 5
    · rw [if_pos h5] at hH hF ⊢
      simp only [List.length_cons, List.length_append, List.length_nil] at hF ⊢
      obtain ⟨f, rfl⟩ : ∃ g, f = g + 1 := ⟨f - 1, by omega⟩
      have k0 : (tokAt ts len p).kind = 3 := (hH.at len).1
      have h1 := hH.cons
      simp only [valP]
      rw [if_neg (by omega), if_neg (by omega), if_neg (by omega), if_pos k0, if_neg (by omega)]
      obtain ⟨k, n, t, rs, ns⟩ := x
      simp only at h5 h hr h1 hF hb ⊢
      unfold bareV bareR at hb
      rw [h5] at hb
      simp at hb
      obtain ⟨⟨e1, e2⟩, e3⟩ := hb
      have e2 : t = ⟨#[]⟩ := ba_nil (by simpa using e2)
      cases rs with
      | nil =>
        obtain ⟨f, rfl⟩ : ∃ g, f = g + 1 := ⟨f - 1, by omega⟩
        have k1 : (tokAt ts len (p + 1)).kind = 4 := (h1.at len).1
        simp only [arrP]
        rw [if_pos k1, h5, e1, e2, e3]
        simp [elemsJ]
      | cons y ys =>
        rw [arr_read ts len (o + 1) (toksJ d) ys y f (p + 1) [] ns hr h1 (by omega), h5, e1, e2, e3]
        simp only [List.nil_append]
        congr 2
        omega
    · rw [if_neg h5] at hH hF ⊢
      by_cases h6 : x.f0 = 6
      · rw [if_pos h6] at hH hF ⊢
        simp only [List.length_cons, List.length_append, List.length_nil] at hF ⊢
        obtain ⟨f, rfl⟩ : ∃ g, f = g + 1 := ⟨f - 1, by omega⟩
        have k0 : (tokAt ts len p).kind = 1 := (hH.at len).1
        have h1 := hH.cons
        simp only [valP]
        rw [if_neg (by omega), if_neg (by omega), if_neg (by omega), if_neg (by omega), if_pos k0, if_neg (by omega)]
        obtain ⟨k, n, t, rs, ns⟩ := x
        simp only at h6 h hr h1 hF hb ⊢
        unfold bareV bareR at hb
        rw [h6] at hb
        simp at hb
        obtain ⟨⟨e1, e2⟩, e3⟩ := hb
        have e2 : t = ⟨#[]⟩ := ba_nil (by simpa using e2)
        cases rs with
        | nil =>
          obtain ⟨f, rfl⟩ : ∃ g, f = g + 1 := ⟨f - 1, by omega⟩
          have e4 : ns = [] := List.length_eq_zero_iff.1 (by simpa using e3)
          have k1 : (tokAt ts len (p + 1)).kind = 2 := (h1.at len).1
          simp only [mapP]
          rw [if_pos k1, h6, e1, e2, e4]
          simp [elemsJ]
        | cons y ys =>
          obtain ⟨n', ns, rfl⟩ : ∃ a l, ns = a :: l := by cases ns with
            | nil => simp at e3
            | cons a l => exact ⟨a, l, rfl⟩
          rw [map_read ts len (o + 1) (toksJ d) ys y f (p + 1) [] [] n' ns (fun z hz => (hr z hz).2) (by simpa using e3) (by simpa using h.1.2) h1 (by omega), h6, e1, e2]
          simp only [List.nil_append]
          congr 2
          omega
      · rw [if_neg h6] at hH hF ⊢
        have hl := leaf_len x ⟨hk.1, by omega⟩
        rw [hl] at hF ⊢
        obtain ⟨f, rfl⟩ : ∃ g, f = g + 1 := ⟨f - 1, by omega⟩
        exact leaf_read ts len f o p x hb h5 h6 hH
def numsR : Nat → V → Prop
  | 0, x => -9223372036854775808 ≤ x.f1 ∧ x.f1 ≤ 9223372036854775807
  | d + 1, x => (-9223372036854775808 ≤ x.f1 ∧ x.f1 ≤ 9223372036854775807) ∧ ∀ y ∈ x.f3, numsR d y
theorem leaf_nok (x : V) (h : -9223372036854775808 ≤ x.f1 ∧ x.f1 ≤ 9223372036854775807) : ∀ j ∈ leafJ x, j.nok := by
  intro j hj
  unfold leafJ at hj
  (repeat' split at hj) <;> simp at hj
  all_goals (subst hj; first | exact h | exact ⟨by show (-9223372036854775808 : Int) ≤ 0; decide, by show (0 : Int) ≤ 9223372036854775807; decide⟩)
theorem elems_nok (fJ : V → List JT) (m : Bool) : ∀ (ys : List V) (i : Nat) (ns : List ByteArray), (∀ y ∈ ys, ∀ j ∈ fJ y, j.nok) → ∀ j ∈ elemsJ fJ m i ys ns, j.nok
  | [], _, _, _ => by simp [elemsJ]
  | y :: ys, i, ns, h => by
    intro j hj
    have z : ∀ k t, (⟨k, t, 0, 0⟩ : JT).nok := fun _ _ => ⟨by show (-9223372036854775808 : Int) ≤ 0; decide, by show (0 : Int) ≤ 9223372036854775807; decide⟩
    simp only [elemsJ, List.mem_append] at hj
    rcases hj with hj | hj | hj | hj
    · split at hj
      · cases hj
      · rw [List.mem_singleton.1 hj]; exact z _ _
    · split at hj
      · rcases List.mem_cons.1 hj with e | hj
        · rw [e]; exact z _ _
        · rw [List.mem_singleton.1 hj]; exact z _ _
      · cases hj
    · exact h y (by simp) j hj
    · exact elems_nok fJ m ys _ _ (fun x hx => h x (by simp [hx])) j hj
theorem toks_nok : ∀ (d : Nat) (x : V), numsR d x → ∀ j ∈ toksJ d x, j.nok
  | 0, x, h => leaf_nok x h
  | d + 1, x, h => by
    have z : ∀ k, (jS k).nok := fun _ => ⟨by show (-9223372036854775808 : Int) ≤ 0; decide, by show (0 : Int) ≤ 9223372036854775807; decide⟩
    intro j hj
    unfold toksJ at hj
    split at hj
    · simp only [List.mem_cons, List.mem_append, List.not_mem_nil, or_false] at hj
      rcases hj with e | hj | e
      · rw [e]; exact z _
      · exact elems_nok _ _ _ _ _ (fun y hy => toks_nok d y (h.2 y hy)) j hj
      · rw [e]; exact z _
    · split at hj
      · simp only [List.mem_cons, List.mem_append, List.not_mem_nil, or_false] at hj
        rcases hj with e | hj | e
        · rw [e]; exact z _
        · exact elems_nok _ _ _ _ _ (fun y hy => toks_nok d y (h.2 y hy)) j hj
        · rw [e]; exact z _
      · exact leaf_nok x h.1 j hj
end Go.Proofs.YtegppkngdkkdcaaGreatDoor.Tr
end
section
set_option linter.unusedVariables false
set_option linter.unusedSimpArgs false
namespace Go.Proofs.YtegppkngdkkdcaaGreatDoor.Tr
open Go Go.Proofs.YtegppkngdkkdcaaGreatDoor.Lx Go.Proofs.YtegppkngdkkdcaaGreatDoor.PS
structure Ok (d : Nat) (x : V) : Prop where
  s : soundR d x = true
  n : numsR d x
  f : fitsR d x
end Go.Proofs.YtegppkngdkkdcaaGreatDoor.Tr
end
section
set_option linter.unusedVariables false
set_option linter.unusedSimpArgs false
namespace Go.Proofs.YtegppkngdkkdcaaGreatDoor.Tr
open Go.RowKit Go.Proofs.YtegppkngdkkdcaaGreatDoorW.PrintWords Go.Proofs.YtegppkngdkkdcaaGreatDoorW.PrintLast Go.Proofs.YtegppkngdkkdcaaGreatDoorW.PrintMore
open Go.Proofs.YtegppkngdkkdcaaGreatDoor.Lx Go.Proofs.YtegppkngdkkdcaaGreatDoor.PS
def KeptT (w w' : World) : Prop := ∀ (k : Nat) (cs : Array Value), w.heap[k]? = some (.cells cs 26 (0, 0)) → w'.heap[k]? = some (.cells cs 26 (0, 0))
theorem KeptT.trans {w w1 w2 : World} (h : KeptT w w1) (k : KeptT w1 w2) : KeptT w w2 := fun j cs e => k j cs (h j cs e)
theorem KeptT.below {w w' : World} (h : Below w.heap.size w w') : KeptT w w' := fun k cs e => (h.block k (blk_lt e)).trans e
theorem KeptT.kept {Br b : Nat} {v : Value} {bs : List Value} {w w' : World} (h : BAt Br b v bs w) (hk : Kept b v w w') : KeptT w w' := by
  intro k cs e
  refine (hk.2 k (blk_lt e) ?_ ?_).trans e
  · rintro rfl
    rcases h.blk with hb | hb
    · rw [hb] at e
      injection e with e
      injection e with _ e _
      exact absurd e (by decide)
    · rw [hb] at e
      injection e with e
      injection e with _ e _
      exact absurd e (by decide)
  · intro ho
    rcases h.row.2 with ⟨rfl, _⟩ | ⟨g, cap, cur, rfl, _, hg, _⟩
    · simp [Value.ownBlock] at ho
    · have : g = k := by simpa [Value.ownBlock] using ho
      subst this
      rw [hg] at e
      injection e with e
      injection e with _ e _
      exact absurd e (by decide)
def WroteQ (Br b : Nat) (bs out : List UInt8) (w : World) (e : Ending) (w' : World) : Prop :=
  e = .returned (.tuple #[]) ∧ ∃ v', BAt Br b v' (Lib.byteCells (bs ++ out)) w' ∧ Below b w w' ∧ KeptT w w'
theorem byteCells_app (a c : List UInt8) : Lib.byteCells (a ++ c) = Lib.byteCells a ++ Lib.byteCells c := by simp [Lib.byteCells]
theorem byteCells_len (a : List UInt8) : (Lib.byteCells a).length = a.length := by simp [Lib.byteCells]
theorem bat_blw {Br b : Nat} {v : Value} {bs : List Value} {w w' : World} (h : BAt Br b v bs w) (hb : Below w.heap.size w w') : BAt Br b v bs w' := h.move fun k hk _ => hb.block k hk
theorem quote_ge (t : List UInt8) : t.length ≤ (quoteR t).length := by
  have h : t.length ≤ (t.flatMap quoteB).length := by
    induction t with
    | nil => simp
    | cons c t ih =>
      have hc : 1 ≤ (quoteB c).length := by
        unfold quoteB
        split
        · simp
        · split
          · simp
          · split
            · simp
            · split <;> simp
      simp only [List.flatMap_cons, List.length_append, List.length_cons]
      omega
  unfold quoteR
  simp only [List.length_cons, List.length_append, List.length_nil]
  omega
set_option maxRecDepth 100000 in
set_option maxHeartbeats 1000000 in
theorem write_1 (n : Int) (t : ByteArray) (A3 : Option Addr) (n3 c3 : Nat) (A4 : Option Addr) (n4 c4 : Nat) (w : World) (Br b : Nat) (v : Value) (bs : List UInt8) (hb : BAt Br b v (Lib.byteCells bs) w) (hBr : Br ≤ w.heap.size) (hl : bs.length + wNul.length ≤ 10000000000000) :
    Calls Tryz.prog 27 #[.pointer (some ⟨b, 0, none⟩), .agg #[.int .i64 1, .int .i64 n, .string t, .slice A3 n3 c3, .slice A4 n4 c4]] w (WroteQ Br b bs wNul w) := by
  have hba := (Below.refl w.heap.size w).alloc (Nat.le_refl _) (.cells #[.int .i64 1, .int .i64 n, .string t, .slice A3 n3 c3, .slice A4 n4 c4] 26 (0, 0))
  have HB1 := Aside0.mk (bat_blw hb hba)
  have HBA := Aside0.mk hba
  have hbl := hb.blt
  have hlb := hba.size
  clear hb hba
  go_enter Tryz.func27, Tryz.ntmps27
  go_wp2_with fail
  refine (Write_calls Br b v _ ⟨wNul.toArray⟩ _ HB1.out (by rw [byteCells_len]; simp [ByteArray.size, wNul] at hl ⊢; omega) (by omega)).mono ?_
  rintro e w1 ⟨rfl, v1, h1, k1⟩
  rw [strCells_list, ← byteCells_app] at h1
  have H1 := Aside0.mk h1
  have K1 := Aside0.mk k1
  clear h1 k1
  go_wp2
  go_end0
  exact ⟨rfl, v1, H1.out, (HBA.out.mono (by omega)).trans K1.out.1, (KeptT.below HBA.out).trans (KeptT.kept HB1.out K1.out)⟩
set_option maxRecDepth 100000 in
set_option maxHeartbeats 1000000 in
theorem write_2 (n : Int) (t : ByteArray) (A3 : Option Addr) (n3 c3 : Nat) (A4 : Option Addr) (n4 c4 : Nat) (w : World) (Br b : Nat) (v : Value) (bs : List UInt8) (hb : BAt Br b v (Lib.byteCells bs) w) (hBr : Br ≤ w.heap.size) (hl : bs.length + (Lib.formatBool (n == 1)).length ≤ 10000000000000) :
    Calls Tryz.prog 27 #[.pointer (some ⟨b, 0, none⟩), .agg #[.int .i64 2, .int .i64 n, .string t, .slice A3 n3 c3, .slice A4 n4 c4]] w (WroteQ Br b bs (Lib.formatBool (n == 1)) w) := by
  have hba := (Below.refl w.heap.size w).alloc (Nat.le_refl _) (.cells #[.int .i64 2, .int .i64 n, .string t, .slice A3 n3 c3, .slice A4 n4 c4] 26 (0, 0))
  have HB1 := Aside0.mk (bat_blw hb hba)
  have HBA := Aside0.mk hba
  have hbl := hb.blt
  have hlb := hba.size
  have HL := Aside0.mk hl
  clear hb hba hl
  go_enter Tryz.func27, Tryz.ntmps27
  go_wp2_with fail
  refine (Tryz.strconv_FormatBool (n == 1) _).mono ?_
  rintro e w1 ⟨rfl, rfl⟩
  generalize Lib.formatBool (n == 1) = out at *
  go_wp2_with fail
  refine (Write_calls Br b v _ ⟨out.toArray⟩ _ HB1.out (by have := HL.out; rw [byteCells_len]; simp [ByteArray.size] at this ⊢; omega) (by omega)).mono ?_
  rintro e w1 ⟨rfl, v1, h1, k1⟩
  rw [strCells_list, ← byteCells_app] at h1
  have H1 := Aside0.mk h1
  have K1 := Aside0.mk k1
  clear h1 k1
  go_wp2
  go_end0
  exact ⟨rfl, v1, H1.out, (HBA.out.mono (by omega)).trans K1.out.1, (KeptT.below HBA.out).trans (KeptT.kept HB1.out K1.out)⟩
set_option maxRecDepth 100000 in
set_option maxHeartbeats 1000000 in
theorem write_3 (n : Int) (hn : -9223372036854775808 ≤ n ∧ n ≤ 9223372036854775807) (t : ByteArray) (A3 : Option Addr) (n3 c3 : Nat) (A4 : Option Addr) (n4 c4 : Nat) (w : World) (Br b : Nat) (v : Value) (bs : List UInt8) (hb : BAt Br b v (Lib.byteCells bs) w) (hBr : Br ≤ w.heap.size) (hl : bs.length + (Lib.itoa n).length ≤ 10000000000000) (hlw : ∀ w1, Below w.heap.size w w1 → LW w1) :
    Calls Tryz.prog 27 #[.pointer (some ⟨b, 0, none⟩), .agg #[.int .i64 3, .int .i64 n, .string t, .slice A3 n3 c3, .slice A4 n4 c4]] w (WroteQ Br b bs (Lib.itoa n) w) := by
  have hba := (Below.refl w.heap.size w).alloc (Nat.le_refl _) (.cells #[.int .i64 3, .int .i64 n, .string t, .slice A3 n3 c3, .slice A4 n4 c4] 26 (0, 0))
  have HLW := Aside0.mk (hlw _ hba)
  have HB1 := Aside0.mk (bat_blw hb hba)
  have HBA := Aside0.mk hba
  have hbl := hb.blt
  have hlb := hba.size
  have HL := Aside0.mk hl
  have HN := Aside0.mk hn
  clear hb hba hl hn hlw
  go_enter Tryz.func27, Tryz.ntmps27
  go_wp2_with fail
  refine (Tryz.strconv_FormatInt_10 n HN.out.1 HN.out.2 _ HLW.out.p10).mono ?_
  rintro e W2 ⟨rfl, k, os, hw⟩
  have hb2 : Below (w.alloc (.cells #[.int .i64 3, .int .i64 n, .string t, .slice A3 n3 c3, .slice A4 n4 c4] 26 (0, 0))).heap.size (w.alloc (.cells #[.int .i64 3, .int .i64 n, .string t, .slice A3 n3 c3, .slice A4 n4 c4] 26 (0, 0))) W2 := by
    rw [hw]
    exact Lib.below_grow _ _ (Nat.le_refl _) _ _
  clear hw
  have HB2 := Aside0.mk (bat_blw HB1.out hb2)
  have HBB := Aside0.mk hb2
  have hs2 := hb2.size
  clear hb2
  generalize Lib.itoa n = out at *
  go_wp2_with fail
  refine (Write_calls Br b v _ ⟨out.toArray⟩ _ HB2.out (by have := HL.out; rw [byteCells_len]; simp [ByteArray.size] at this ⊢; omega) (by omega)).mono ?_
  rintro e w1 ⟨rfl, v1, h1, k1⟩
  rw [strCells_list, ← byteCells_app] at h1
  have H1 := Aside0.mk h1
  have K1 := Aside0.mk k1
  clear h1 k1
  go_wp2
  go_end0
  exact ⟨rfl, v1, H1.out, ((HBA.out.mono (by omega)).trans (HBB.out.mono (by omega))).trans K1.out.1, ((KeptT.below HBA.out).trans (KeptT.below HBB.out)).trans (KeptT.kept HB2.out K1.out)⟩
set_option maxRecDepth 100000 in
set_option maxHeartbeats 1000000 in
theorem write_4 (n : Int) (t : List UInt8) (A3 : Option Addr) (n3 c3 : Nat) (A4 : Option Addr) (n4 c4 : Nat) (w : World) (Br b : Nat) (v : Value) (bs : List UInt8) (hb : BAt Br b v (Lib.byteCells bs) w) (hBr : Br ≤ w.heap.size) (hl : bs.length + (quoteR t).length ≤ 10000000000000) (hlw : ∀ w1, Below w.heap.size w w1 → LW w1) :
    Calls Tryz.prog 27 #[.pointer (some ⟨b, 0, none⟩), .agg #[.int .i64 4, .int .i64 n, .string ⟨t.toArray⟩, .slice A3 n3 c3, .slice A4 n4 c4]] w (WroteQ Br b bs (quoteR t) w) := by
  have hba := (Below.refl w.heap.size w).alloc (Nat.le_refl _) (.cells #[.int .i64 4, .int .i64 n, .string ⟨t.toArray⟩, .slice A3 n3 c3, .slice A4 n4 c4] 26 (0, 0))
  have HQ := Aside0.mk (Quote_calls t (w.alloc (.cells #[.int .i64 4, .int .i64 n, .string ⟨t.toArray⟩, .slice A3 n3 c3, .slice A4 n4 c4] 26 (0, 0))) (by have := quote_ge t; omega) (fun w1 h1 => (hlw w1 (hba.trans (h1.mono hba.size))).deb))
  have HB1 := Aside0.mk (bat_blw hb hba)
  have HBA := Aside0.mk hba
  have hbl := hb.blt
  have hlb := hba.size
  have HL := Aside0.mk hl
  clear hb hba hl hlw
  go_enter Tryz.func27, Tryz.ntmps27
  go_wp2_with fail
  refine HQ.out.mono ?_
  rintro e W2 ⟨rfl, hb2⟩
  have HB2 := Aside0.mk (bat_blw HB1.out hb2)
  have HBB := Aside0.mk hb2
  have hs2 := hb2.size
  clear hb2 HQ
  generalize quoteR t = out at *
  go_wp2_with fail
  refine (Write_calls Br b v _ ⟨out.toArray⟩ _ HB2.out (by have := HL.out; rw [byteCells_len]; simp [ByteArray.size] at this ⊢; omega) (by omega)).mono ?_
  rintro e w1 ⟨rfl, v1, h1, k1⟩
  rw [strCells_list, ← byteCells_app] at h1
  have H1 := Aside0.mk h1
  have K1 := Aside0.mk k1
  clear h1 k1
  go_wp2
  go_end0
  exact ⟨rfl, v1, H1.out, ((HBA.out.mono (by omega)).trans (HBB.out.mono (by omega))).trans K1.out.1, ((KeptT.below HBA.out).trans (KeptT.below HBB.out)).trans (KeptT.kept HB2.out K1.out)⟩
end Go.Proofs.YtegppkngdkkdcaaGreatDoor.Tr
end
section
set_option linter.unusedVariables false
set_option linter.unusedSimpArgs false
namespace Go.Proofs.YtegppkngdkkdcaaGreatDoor.Tr
open Go.RowKit Go.Proofs.YtegppkngdkkdcaaGreatDoorW.PrintWords Go.Proofs.YtegppkngdkkdcaaGreatDoorW.PrintLast Go.Proofs.YtegppkngdkkdcaaGreatDoorW.PrintMore
open Go.Proofs.YtegppkngdkkdcaaGreatDoor.Lx Go.Proofs.YtegppkngdkkdcaaGreatDoor.PS
theorem elemsW_app (f : V → List UInt8) (m : Bool) : ∀ (a b : List V) (i : Nat) (ns : List ByteArray), elemsW f m i (a ++ b) ns = elemsW f m i a ns ++ elemsW f m (i + a.length) b (ns.drop a.length)
  | [], b, i, ns => by simp [elemsW]
  | y :: a, b, i, ns => by
    simp only [List.cons_append, elemsW, elemsW_app f m a b, List.append_assoc, List.length_cons]
    rw [List.drop_tail, show i + 1 + a.length = i + (a.length + 1) by omega]
theorem elemsW_len (f : V → List UInt8) (m : Bool) (l : List V) (ns : List ByteArray) (k : Nat) : (elemsW f m 0 (l.take k) ns).length ≤ (elemsW f m 0 l ns).length := by
  conv => rhs; rw [← List.take_append_drop k l]
  rw [elemsW_app, List.length_append]
  omega
theorem elemsW_next (f : V → List UInt8) (m : Bool) (l : List V) (ns : List ByteArray) (k : Nat) (h : k < l.length) :
    elemsW f m 0 (l.take (k + 1)) ns = elemsW f m 0 (l.take k) ns ++ ((if k = 0 then [] else [44]) ++ ((if m = true then quoteR (ns.getD k ByteArray.empty).data.toList ++ [58] else []) ++ f l[k])) := by
  rw [List.take_succ_eq_append_getElem h, elemsW_app]
  have e : (l.take k).length = k := by rw [List.length_take]; omega
  have e2 : (ns.drop k).headD ByteArray.empty = ns.getD k ByteArray.empty := by
    rw [List.headD_eq_head?_getD, List.head?_drop, List.getD_eq_getElem?_getD]
  rw [e, Nat.zero_add]
  simp only [elemsW, List.append_nil, List.append_assoc, e2]
def WriteC (d : Nat) : Prop := ∀ (x : V) (A3 : Option Addr) (c3 : Nat) (A4 : Option Addr) (c4 : Nat) (w0 w : World) (Br b : Nat) (v : Value) (bs : List UInt8), Ok d x → x.f3.length ≤ c3 → k26.C w0 A3 x.f3.length x.f3 → x.f4.length ≤ c4 → Kd.string.C w0 A4 x.f4.length x.f4 →
  Below w0.heap.size w0 w → w0.heap.size ≤ b → BAt Br b v (Lib.byteCells bs) w → Br ≤ w.heap.size → bs.length + (writeD d x).length ≤ 10000000000000 → (∀ w1, Below w0.heap.size w0 w1 → LW w1) →
  Calls Tryz.prog 27 #[.pointer (some ⟨b, 0, none⟩), vArg x A3 c3 A4 c4] w (WroteQ Br b bs (writeD d x) w)
set_option maxRecDepth 100000 in
set_option maxHeartbeats 2000000 in
theorem write_arr (d : Nat) (IH : WriteC d) (n : Int) (t : ByteArray) (rs : List V) (ns : List ByteArray) (A3 : Option Addr) (c3 : Nat) (A4 : Option Addr) (n4 c4 : Nat) (w0 w : World) (Br b : Nat) (v : Value) (bs : List UInt8) (hok : ∀ y ∈ rs, Ok d y) (hl3 : rs.length ≤ 1000000000000) (l3 : rs.length ≤ c3)
    (g3 : k26.C w0 A3 rs.length rs) (hb0 : Below w0.heap.size w0 w) (h0b : w0.heap.size ≤ b) (hb : BAt Br b v (Lib.byteCells bs) w) (hBr : Br ≤ w.heap.size) (hl : bs.length + (elemsW (writeD d) false 0 rs ns).length + 2 ≤ 10000000000000) (hlw : ∀ w1, Below w0.heap.size w0 w1 → LW w1) :
    Calls Tryz.prog 27 #[.pointer (some ⟨b, 0, none⟩), .agg #[.int .i64 5, .int .i64 n, .string t, .slice A3 rs.length c3, .slice A4 n4 c4]] w (WroteQ Br b bs ([91] ++ elemsW (writeD d) false 0 rs ns ++ [93]) w) := by
  have hba := (Below.refl w.heap.size w).alloc (Nat.le_refl _) (.cells #[.int .i64 5, .int .i64 n, .string t, .slice A3 rs.length c3, .slice A4 n4 c4] 26 (0, 0))
  have nv := blk_new w (.cells #[.int .i64 5, .int .i64 n, .string t, .slice A3 rs.length c3, .slice A4 n4 c4] 26 (0, 0))
  have HB1 := Aside0.mk (bat_blw hb hba)
  have HBA := Aside0.mk hba
  have hbl := hb.blt
  have hlb : (w.alloc (.cells #[.int .i64 5, .int .i64 n, .string t, .slice A3 rs.length c3, .slice A4 n4 c4] 26 (0, 0))).heap.size = w.heap.size + 1 := by simp
  have HL := Aside0.mk hl
  have HG := Aside0.mk g3
  have HB0 := Aside0.mk hb0
  have HOK := Aside0.mk hok
  have HLW := Aside0.mk hlw
  have HIH := Aside0.mk IH
  have NV := Aside0.mk nv
  clear hb hba hl g3 hb0 hok hlw IH nv
  go_enter Tryz.func27, Tryz.ntmps27
  go_wp2_with fail
  refine (Write_calls Br b v _ ⟨[91].toArray⟩ _ HB1.out (by have := HL.out; rw [byteCells_len]; simp [ByteArray.size] at this ⊢; omega) (by omega)).mono ?_
  rintro e w1 ⟨rfl, v1, h1, k1⟩
  rw [strCells_list, ← byteCells_app] at h1
  have hv1 := (KeptT.kept HB1.out k1) _ _ NV.out
  have x0 : w1.cell? ⟨w.heap.size, 0, none⟩ = some (.int .i64 5) := blk_cell hv1 0
  have x3 : w1.cell? ⟨w.heap.size, 3, none⟩ = some (.slice A3 rs.length c3) := blk_cell hv1 3
  have hs1 : w.heap.size + 1 ≤ w1.heap.size := by have := k1.1.size; omega
  have HH1 := Aside0.mk h1
  have HV1 := Aside0.mk hv1
  have HK1 := Aside0.mk ((KeptT.below HBA.out).trans (KeptT.kept HB1.out k1))
  have HW1 := Aside0.mk ((HBA.out.mono (show b ≤ w.heap.size by omega)).trans k1.1)
  clear h1 k1 hv1 hlb
  go_wp2_with fail
  go_loopg [5, 6, 48] rs.length (fun kq v5 v6 v48 w2 => ∃ (k : Nat) (v' : Value), k + kq = rs.length ∧ v48 = .int .i64 k ∧ w.heap.size + 1 ≤ w2.heap.size ∧ Aside0 (BAt Br b v' (Lib.byteCells (bs ++ [91] ++ elemsW (writeD d) false 0 (rs.take k) ns)) w2) ∧ Aside0 (Below b w w2) ∧ Aside0 (KeptT w w2) ∧ Aside0 (w2.heap[w.heap.size]? = some (.cells #[.int .i64 5, .int .i64 n, .string t, .slice A3 rs.length c3, .slice A4 n4 c4] 26 (0, 0))))
  case atStart => exact ⟨0, v1, by omega, rfl, hs1, Aside0.mk (by simpa [elemsW] using HH1.out), HW1, HK1, HV1⟩
  case round =>
    obtain ⟨k, v', hk, rfl, hsr, HR, HWR, HKR, HVR⟩ := hrel
    clear x0 x3 HH1 HV1 HK1 HW1 hs1
    cases gk with
    | zero =>
      have hge : ¬ ((k : Nat) : Int) < (rs.length : Int) := by omega
      have HE := Aside0.mk (show rs.take k = rs from List.take_of_length_le (by omega))
      go_wp2_with fail
      refine (Write_calls Br b v' _ ⟨[93].toArray⟩ _ HR.out (by have := HL.out; rw [byteCells_len, HE.out]; simp [ByteArray.size] at this ⊢; omega) (by omega)).mono ?_
      rintro e w3 ⟨rfl, v3, h3, k3⟩
      rw [strCells_list, ← byteCells_app, HE.out] at h3
      have H3 := Aside0.mk h3
      have K3 := Aside0.mk k3
      clear h3 k3
      go_wp2
      go_end0
      exact ⟨rfl, v3, by simpa using H3.out, HWR.out.trans K3.out.1, HKR.out.trans (KeptT.kept HR.out K3.out)⟩
    | succ k1 =>
      have hlt : ((k : Nat) : Int) < (rs.length : Int) := by omega
      have hlt' : k < rs.length := by omega
      obtain ⟨ad, B3, e3, B4, e4, e, r0, r1, r2, r3, r4, m3, g3, m4, g4⟩ := at_T26 HG.out k (by omega) hlt
      cases e
      have hrd : rd_T26 rs k = rs[k] := by simp [rd_T26, List.getD, List.getElem?_eq_getElem hlt']
      rw [hrd] at r0 r1 r2 r3 r4 m3 g3 m4 g4
      rw [Int.toNat_natCast] at r0 r1 r2 r3 r4
      have hbR : Below w0.heap.size w0 wr := HB0.out.trans (HWR.out.mono h0b)
      replace r0 := cell_below' hbR r0
      replace r1 := cell_below' hbR r1
      replace r2 := cell_below' hbR r2
      replace r3 := cell_below' hbR r3
      replace r4 := cell_below' hbR r4
      have HNX := Aside0.mk (elemsW_next (writeD d) false rs ns k hlt')
      have HLN := Aside0.mk (elemsW_len (writeD d) false rs ns (k + 1))
      have HOX := Aside0.mk (HOK.out rs[k] (List.getElem_mem _))
      have HC := Aside0.mk (And.intro m3 (And.intro g3 (And.intro m4 g4)))
      have HBR := Aside0.mk hbR
      clear hrd m3 g3 m4 g4 hbR
      generalize rs[k] = x at *
      have y0 : wr.cell? ⟨w.heap.size, 0, none⟩ = some (.int .i64 5) := blk_cell HVR.out 0
      have y0' := cellA y0
      have hb2 := (Below.refl wr.heap.size wr).alloc (Nat.le_refl _) (.cells #[.int .i64 x.f0, .int .i64 x.f1, .string x.f2, .slice B3 x.f3.length e3, .slice B4 x.f4.length e4] 26 (0, 0))
      have HR2 := Aside0.mk (bat_blw HR.out hb2)
      have NV2 := Aside0.mk (blk_new wr (.cells #[.int .i64 x.f0, .int .i64 x.f1, .string x.f2, .slice B3 x.f3.length e3, .slice B4 x.f4.length e4] 26 (0, 0)))
      have HV2 := Aside0.mk ((hb2.block _ (blk_lt HVR.out)).trans HVR.out)
      have HB2 := Aside0.mk hb2
      have hs2 := hb2.size
      clear hb2
      have HWL := Aside0.mk (show (elemsW (writeD d) false 0 (rs.take k) ns).length + (if k = 0 then 0 else 1) + (writeD d x).length = (elemsW (writeD d) false 0 (rs.take (k + 1)) ns).length by
        rw [HNX.out]
        simp only [List.length_append, if_neg (show ¬ (false = true) by decide), List.length_nil, Nat.zero_add]
        split <;> simp <;> omega)
      have HB02 := Aside0.mk (HBR.out.trans (HB2.out.mono HBR.out.size))
      have HSB := Aside0.mk (And.intro (show b ≤ wr.heap.size by omega) (show Br ≤ wr.heap.size by omega))
      by_cases hk0 : k = 0
      · have hgt : ¬ ((k : Nat) : Int) > 0 := by omega
        have HK0 := Aside0.mk hk0
        clear hk0
        go_wp2_with fail
        have H := Aside0.mk (HIH.out x B3 e3 B4 e4 w0 _ Br b v' _ HOX.out HC.out.1 HC.out.2.1 HC.out.2.2.1 HC.out.2.2.2 HB02.out h0b HR2.out (by have := HSB.out.2; omega) (by have h1 := HL.out; have h2 := HWL.out; have h3 := HLN.out; rw [if_pos HK0.out] at h2; simp only [List.length_append, List.length_cons, List.length_nil]; omega) HLW.out)
        unfold vArg at H
        refine H.out.mono ?_
        rintro e w5 ⟨rfl, v5, h5, b5, k5⟩
        have H5 := Aside0.mk h5
        have B5 := Aside0.mk (HWR.out.trans ((HB2.out.mono HSB.out.1).trans b5))
        have K5 := Aside0.mk (HKR.out.trans ((KeptT.below HB2.out).trans k5))
        have V5 := Aside0.mk (k5 _ _ HV2.out)
        have S5 := b5.size
        clear h5 b5 k5
        go_wp2
        go_roundg k1
        case measure => omega
        case rel => exact ⟨k + 1, v5, by omega, by go_num, by omega, Aside0.mk (by rw [HNX.out, if_pos HK0.out]; simpa using H5.out), B5, K5, V5⟩
      · have hgt : ((k : Nat) : Int) > 0 := by omega
        have HK0 := Aside0.mk hk0
        clear hk0
        go_wp2_with fail
        refine (WriteByte_calls Br b v' _ 44 _ HR2.out (by have h1 := HL.out; have h3 := elemsW_len (writeD d) false rs ns k; rw [byteCells_len]; simp only [List.length_append, List.length_cons, List.length_nil]; omega) (by have := HSB.out.2; omega)).mono ?_
        rintro e w4 ⟨rfl, v4, h4, k4⟩
        rw [byteCells_snoc] at h4
        have hv4 := KeptT.kept HR2.out k4 _ _ HV2.out
        have hx4 := KeptT.kept HR2.out k4 _ _ NV2.out
        have z0 : w4.cell? ⟨w.heap.size, 0, none⟩ = some (.int .i64 5) := blk_cell hv4 0
        have t0 : w4.cell? ⟨wr.heap.size, 0, none⟩ = some (.int .i64 x.f0) := blk_cell hx4 0
        have t1 : w4.cell? ⟨wr.heap.size, 1, none⟩ = some (.int .i64 x.f1) := blk_cell hx4 1
        have t2 : w4.cell? ⟨wr.heap.size, 2, none⟩ = some (.string x.f2) := blk_cell hx4 2
        have t3 : w4.cell? ⟨wr.heap.size, 3, none⟩ = some (.slice B3 x.f3.length e3) := blk_cell hx4 3
        have t4 : w4.cell? ⟨wr.heap.size, 4, none⟩ = some (.slice B4 x.f4.length e4) := blk_cell hx4 4
        have s4 := k4.1.size
        have HS4 := Aside0.mk s4
        have H4 := Aside0.mk h4
        have HB4 := Aside0.mk ((HB2.out.mono HSB.out.1).trans k4.1)
        have HK4 := Aside0.mk ((KeptT.below HB2.out).trans (KeptT.kept HR2.out k4))
        have HV4 := Aside0.mk hv4
        clear h4 k4 hv4 hx4 r0 r1 r2 r3 r4 y0 y0' s4
        go_wp2_with fail
        have H := Aside0.mk (HIH.out x B3 e3 B4 e4 w0 _ Br b v4 _ HOX.out HC.out.1 HC.out.2.1 HC.out.2.2.1 HC.out.2.2.2 (HBR.out.trans (HB4.out.mono h0b)) h0b H4.out (by have := HSB.out.2; have := HS4.out; omega) (by have h1 := HL.out; have h2 := HWL.out; have h3 := HLN.out; rw [if_neg HK0.out] at h2; simp only [List.length_append, List.length_cons, List.length_nil]; omega) HLW.out)
        unfold vArg at H
        refine H.out.mono ?_
        rintro e w5 ⟨rfl, v5, h5, b5, k5⟩
        have H5 := Aside0.mk h5
        have B5 := Aside0.mk (HWR.out.trans (HB4.out.trans b5))
        have K5 := Aside0.mk (HKR.out.trans (HK4.out.trans k5))
        have V5 := Aside0.mk (k5 _ _ HV4.out)
        have S5 := b5.size
        have S4 := HS4.out
        clear h5 b5 k5 z0 t0 t1 t2 t3 t4
        go_wp2
        go_roundg k1
        case measure => omega
        case rel => exact ⟨k + 1, v5, by omega, by go_num, by omega, Aside0.mk (by rw [HNX.out, if_neg HK0.out]; simpa using H5.out), B5, K5, V5⟩
end Go.Proofs.YtegppkngdkkdcaaGreatDoor.Tr
end
section
set_option linter.unusedVariables false
set_option linter.unusedSimpArgs false
namespace Go.Proofs.YtegppkngdkkdcaaGreatDoor.Tr
open Go.RowKit Go.Proofs.YtegppkngdkkdcaaGreatDoorW.PrintWords Go.Proofs.YtegppkngdkkdcaaGreatDoorW.PrintLast Go.Proofs.YtegppkngdkkdcaaGreatDoorW.PrintMore
open Go.Proofs.YtegppkngdkkdcaaGreatDoor.Lx Go.Proofs.YtegppkngdkkdcaaGreatDoor.PS
set_option maxRecDepth 100000 in
set_option maxHeartbeats 2000000 in
theorem write_map (d : Nat) (IH : WriteC d) (n : Int) (t : ByteArray) (rs : List V) (ns : List ByteArray) (A3 : Option Addr) (c3 : Nat) (A4 : Option Addr) (c4 : Nat) (w0 w : World) (Br b : Nat) (v : Value) (bs : List UInt8) (hok : ∀ y ∈ rs, Ok d y) (hl3 : rs.length ≤ 1000000000000) (l3 : rs.length ≤ c3)
    (g3 : k26.C w0 A3 rs.length rs) (hns : ns.length = rs.length) (l4 : ns.length ≤ c4) (g4 : Kd.string.C w0 A4 ns.length ns) (hb0 : Below w0.heap.size w0 w) (h0b : w0.heap.size ≤ b) (hb : BAt Br b v (Lib.byteCells bs) w) (hBr : Br ≤ w.heap.size) (hl : bs.length + (elemsW (writeD d) true 0 rs ns).length + 2 ≤ 10000000000000) (hlw : ∀ w1, Below w0.heap.size w0 w1 → LW w1) :
    Calls Tryz.prog 27 #[.pointer (some ⟨b, 0, none⟩), .agg #[.int .i64 6, .int .i64 n, .string t, .slice A3 rs.length c3, .slice A4 ns.length c4]] w (WroteQ Br b bs ([123] ++ elemsW (writeD d) true 0 rs ns ++ [125]) w) := by
  have hba := (Below.refl w.heap.size w).alloc (Nat.le_refl _) (.cells #[.int .i64 6, .int .i64 n, .string t, .slice A3 rs.length c3, .slice A4 ns.length c4] 26 (0, 0))
  have nv := blk_new w (.cells #[.int .i64 6, .int .i64 n, .string t, .slice A3 rs.length c3, .slice A4 ns.length c4] 26 (0, 0))
  have HB1 := Aside0.mk (bat_blw hb hba)
  have HBA := Aside0.mk hba
  have hbl := hb.blt
  have hlb : (w.alloc (.cells #[.int .i64 6, .int .i64 n, .string t, .slice A3 rs.length c3, .slice A4 ns.length c4] 26 (0, 0))).heap.size = w.heap.size + 1 := by simp
  have HL := Aside0.mk hl
  have HG := Aside0.mk g3
  have HG4 := Aside0.mk g4
  have HNS := Aside0.mk hns
  have HB0 := Aside0.mk hb0
  have HOK := Aside0.mk hok
  have HLW := Aside0.mk hlw
  have HIH := Aside0.mk IH
  have NV := Aside0.mk nv
  clear hb hba hl g3 g4 hns hb0 hok hlw IH nv
  go_enter Tryz.func27, Tryz.ntmps27
  go_wp2_with fail
  refine (Write_calls Br b v _ ⟨[123].toArray⟩ _ HB1.out (by have := HL.out; rw [byteCells_len]; simp [ByteArray.size] at this ⊢; omega) (by omega)).mono ?_
  rintro e w1 ⟨rfl, v1, h1, k1⟩
  rw [strCells_list, ← byteCells_app] at h1
  have hv1 := (KeptT.kept HB1.out k1) _ _ NV.out
  have x0 : w1.cell? ⟨w.heap.size, 0, none⟩ = some (.int .i64 6) := blk_cell hv1 0
  have x4 : w1.cell? ⟨w.heap.size, 4, none⟩ = some (.slice A4 ns.length c4) := blk_cell hv1 4
  have x3 : w1.cell? ⟨w.heap.size, 3, none⟩ = some (.slice A3 rs.length c3) := blk_cell hv1 3
  have hs1 : w.heap.size + 1 ≤ w1.heap.size := by have := k1.1.size; omega
  have HH1 := Aside0.mk h1
  have HV1 := Aside0.mk hv1
  have HK1 := Aside0.mk ((KeptT.below HBA.out).trans (KeptT.kept HB1.out k1))
  have HW1 := Aside0.mk ((HBA.out.mono (show b ≤ w.heap.size by omega)).trans k1.1)
  clear h1 k1 hv1 hlb
  go_wp2_with fail
  go_loopg [5, 6, 48] rs.length (fun kq v5 v6 v48 w2 => ∃ (k : Nat) (v' : Value), k + kq = rs.length ∧ v48 = .int .i64 k ∧ w.heap.size + 1 ≤ w2.heap.size ∧ Aside0 (BAt Br b v' (Lib.byteCells (bs ++ [123] ++ elemsW (writeD d) true 0 (rs.take k) ns)) w2) ∧ Aside0 (Below b w w2) ∧ Aside0 (KeptT w w2) ∧ Aside0 (w2.heap[w.heap.size]? = some (.cells #[.int .i64 6, .int .i64 n, .string t, .slice A3 rs.length c3, .slice A4 ns.length c4] 26 (0, 0))))
  case atStart => exact ⟨0, v1, by omega, rfl, hs1, Aside0.mk (by simpa [elemsW] using HH1.out), HW1, HK1, HV1⟩
  case round =>
    obtain ⟨k, v', hk, rfl, hsr, HR, HWR, HKR, HVR⟩ := hrel
    clear x0 x3 x4 HH1 HV1 HK1 HW1 hs1
    cases gk with
    | zero =>
      have hge : ¬ ((k : Nat) : Int) < (rs.length : Int) := by omega
      have HE := Aside0.mk (show rs.take k = rs from List.take_of_length_le (by omega))
      go_wp2_with fail
      refine (Write_calls Br b v' _ ⟨[125].toArray⟩ _ HR.out (by have := HL.out; rw [byteCells_len, HE.out]; simp [ByteArray.size] at this ⊢; omega) (by omega)).mono ?_
      rintro e w3 ⟨rfl, v3, h3, k3⟩
      rw [strCells_list, ← byteCells_app, HE.out] at h3
      have H3 := Aside0.mk h3
      have K3 := Aside0.mk k3
      clear h3 k3
      go_wp2
      go_end0
      exact ⟨rfl, v3, by simpa using H3.out, HWR.out.trans K3.out.1, HKR.out.trans (KeptT.kept HR.out K3.out)⟩
    | succ k1 =>
      have hlt : ((k : Nat) : Int) < (rs.length : Int) := by omega
      have hlt' : k < rs.length := by omega
      obtain ⟨ad, B3, e3, B4, e4, e, r0, r1, r2, r3, r4, m3, g3, m4, g4⟩ := at_T26 HG.out k (by omega) hlt
      cases e
      have hrd : rd_T26 rs k = rs[k] := by simp [rd_T26, List.getD, List.getElem?_eq_getElem hlt']
      rw [hrd] at r0 r1 r2 r3 r4 m3 g3 m4 g4
      rw [Int.toNat_natCast] at r0 r1 r2 r3 r4
      have hbR : Below w0.heap.size w0 wr := HB0.out.trans (HWR.out.mono h0b)
      replace r0 := cell_below' hbR r0
      replace r1 := cell_below' hbR r1
      replace r2 := cell_below' hbR r2
      replace r3 := cell_below' hbR r3
      replace r4 := cell_below' hbR r4
      obtain ⟨ad4, cs4, e, _, hK4, hc4⟩ := Kd.C_get HG4.out ByteArray.empty (k : Int) (by omega) (by rw [HNS.out]; exact hlt)
      cases e
      have hK4' : cs4 = [.string (ns.getD k ByteArray.empty)] := by simpa [Kd.string, Kd.scalar] using hK4
      subst hK4'
      have q0 : w0.cell? (ad4.add k) = some (.string (ns.getD k ByteArray.empty)) := by
        have := hc4 0 _ rfl
        simpa [Kd.string, Kd.scalar] using this
      have Q0w := q0
      replace q0 := cell_below' hbR q0
      have hlt4 : ((k : Nat) : Int) < (ns.length : Int) := by have := HNS.out; omega
      clear hK4 hc4
      have HNX := Aside0.mk (elemsW_next (writeD d) true rs ns k hlt')
      have HLN := Aside0.mk (elemsW_len (writeD d) true rs ns (k + 1))
      have HOX := Aside0.mk (HOK.out rs[k] (List.getElem_mem _))
      have HC := Aside0.mk (And.intro m3 (And.intro g3 (And.intro m4 g4)))
      have HBR := Aside0.mk hbR
      clear hrd m3 g3 m4 g4 hbR
      generalize rs[k] = x at *
      rw [if_pos rfl] at HNX
      have hnm : ns.getD k ByteArray.empty = ⟨(ns.getD k ByteArray.empty).data.toList.toArray⟩ := by cases ns.getD k ByteArray.empty; rfl
      rw [hnm] at q0 Q0w
      have Q0 := Aside0.mk Q0w
      clear Q0w
      clear hnm
      generalize (ns.getD k ByteArray.empty).data.toList = nme at *
      have y0 : wr.cell? ⟨w.heap.size, 0, none⟩ = some (.int .i64 6) := blk_cell HVR.out 0
      have y0' := cellA y0
      have y4 : wr.cell? ⟨w.heap.size, 4, none⟩ = some (.slice (some ad4) ns.length c4) := blk_cell HVR.out 4
      have y4' := cellA y4
      have q0' := cellA q0
      have hb2 := (Below.refl wr.heap.size wr).alloc (Nat.le_refl _) (.cells #[.int .i64 x.f0, .int .i64 x.f1, .string x.f2, .slice B3 x.f3.length e3, .slice B4 x.f4.length e4] 26 (0, 0))
      have HR2 := Aside0.mk (bat_blw HR.out hb2)
      have NV2 := Aside0.mk (blk_new wr (.cells #[.int .i64 x.f0, .int .i64 x.f1, .string x.f2, .slice B3 x.f3.length e3, .slice B4 x.f4.length e4] 26 (0, 0)))
      have HV2 := Aside0.mk ((hb2.block _ (blk_lt HVR.out)).trans HVR.out)
      have HB2 := Aside0.mk hb2
      have hs2 := hb2.size
      clear hb2
      have HWL := Aside0.mk (show (elemsW (writeD d) true 0 (rs.take k) ns).length + (if k = 0 then 0 else 1) + ((quoteR nme).length + 1) + (writeD d x).length = (elemsW (writeD d) true 0 (rs.take (k + 1)) ns).length by
        rw [HNX.out]
        simp only [List.length_append, List.length_cons, List.length_nil]
        split <;> simp <;> omega)
      have HB02 := Aside0.mk (HBR.out.trans (HB2.out.mono HBR.out.size))
      have HSB := Aside0.mk (And.intro (show b ≤ wr.heap.size by omega) (show Br ≤ wr.heap.size by omega))
      by_cases hk0 : k = 0
      · have hgt : ¬ ((k : Nat) : Int) > 0 := by omega
        have HK0 := Aside0.mk hk0
        obtain ⟨T, hT⟩ : ∃ T, T = (bs ++ [123] ++ elemsW (writeD d) true 0 (rs.take k) ns) := ⟨_, rfl⟩
        have HTl := Aside0.mk (show T.length + ((quoteR nme).length + 1) + (writeD d x).length ≤ 10000000000000 by
          have h1 := HL.out
          have h2 := HWL.out
          have h3 := HLN.out
          rw [if_pos HK0.out] at h2
          rw [hT]
          simp only [List.length_append, List.length_cons, List.length_nil]
          omega)
        have HTE := Aside0.mk (show T ++ (quoteR nme ++ [58]) ++ writeD d x = bs ++ [123] ++ elemsW (writeD d) true 0 (rs.take (k + 1)) ns by
          rw [HNX.out, if_pos HK0.out, hT]
          simp)
        have HBT := Aside0.mk hT
        clear hT
        have HBc := Aside0.mk (show BAt Br b v' (Lib.byteCells T) _ by rw [HBT.out]; exact HR2.out)
        have HVc := HV2
        have HXc := NV2
        have HCb := Aside0.mk (HB2.out.mono HSB.out.1)
        have HCk := Aside0.mk (KeptT.below HB2.out)
        have HCs := Aside0.mk (show wr.heap.size + 1 ≤ (wr.alloc (.cells #[.int .i64 x.f0, .int .i64 x.f1, .string x.f2, .slice B3 x.f3.length e3, .slice B4 x.f4.length e4] 26 (0, 0))).heap.size by simp)
        clear hk0
        go_wp2_with fail
        refine (Quote_calls nme _ (by have h1 := HTl.out; have h4 := quote_ge nme; omega) (fun w1 h1 => (HLW.out w1 ((HBR.out.trans (HCb.out.mono h0b)).trans (h1.mono (Nat.le_trans HBR.out.size (Nat.le_trans (Nat.le_succ _) HCs.out))))).deb)).mono ?_
        rintro e w6 ⟨rfl, b6⟩
        have hv6 := (b6.block _ (blk_lt HVc.out)).trans HVc.out
        have hx6 := (b6.block _ (blk_lt HXc.out)).trans HXc.out
        have HR6 := Aside0.mk (bat_blw HBc.out b6)
        have HV6 := Aside0.mk hv6
        have HX6 := Aside0.mk hx6
        have HS6 := Aside0.mk (Nat.le_trans HCs.out b6.size)
        have HB6 := Aside0.mk (HCb.out.trans (b6.mono (Nat.le_trans HSB.out.1 (Nat.le_trans (Nat.le_succ _) HCs.out))))
        have HK6 := Aside0.mk (HCk.out.trans (KeptT.below b6))
        clear hv6 hx6 b6 r0 r1 r2 r3 r4 y0 y0' y4 y4' q0 q0' HBc HVc HXc HCb HCk HCs HNX HWL
        generalize quoteR nme = qn at *
        have hqs : qn.length < 10000000000001 := by have h1 := HTl.out; omega
        have c1 : (9223372036854775807 < (ByteArray.mk qn.toArray).size + 1) = False := eq_false (Nat.not_lt.2 (by simp only [ByteArray.size, List.size_toArray]; omega))
        have c2 : (9223372036854775807 < qn.length + 1) = False := eq_false (Nat.not_lt.2 (by omega))
        have HCAT := Aside0.mk (show (ByteArray.mk qn.toArray) ++ (ByteArray.mk #[58]) = ByteArray.mk (qn ++ [58]).toArray by apply ByteArray.ext; simp)
        have hws : (Lib.byteCells T).length + (ByteArray.mk (qn ++ [58]).toArray).size ≤ 140737488355328 := by
          have h1 := HTl.out
          rw [byteCells_len]
          simp only [ByteArray.size, List.size_toArray, List.length_append, List.length_cons, List.length_nil]
          omega
        have HWS := Aside0.mk hws
        clear hqs hws
        go_wp2_with fail
        rw [HCAT.out]
        clear c1 c2
        have hbw : Br ≤ w6.heap.size := Nat.le_trans HSB.out.2 (Nat.le_trans (Nat.le_succ _) HS6.out)
        have hr6 := HR6.out
        have hws := HWS.out
        have HTl2 := Aside0.mk (show T.length + (qn ++ [58]).length + (writeD d x).length ≤ 10000000000000 by have h1 := HTl.out; simp only [List.length_append, List.length_cons, List.length_nil]; omega)
        clear HCAT HTl HWS
        generalize qn ++ [58] = qs at *
        have HW7 := Write_calls Br b _ (Lib.byteCells T) ⟨qs.toArray⟩ w6 hr6 hws hbw
        clear hws hr6
        refine HW7.mono ?_
        clear HW7
        rintro e w7 ⟨rfl, v7, h7, k7⟩
        rw [strCells_list, ← byteCells_app] at h7
        have hv7 := KeptT.kept HR6.out k7 _ _ HV6.out
        have hx7 := KeptT.kept HR6.out k7 _ _ HX6.out
        have t0 : w7.cell? ⟨wr.heap.size, 0, none⟩ = some (.int .i64 x.f0) := blk_cell hx7 0
        have t1 : w7.cell? ⟨wr.heap.size, 1, none⟩ = some (.int .i64 x.f1) := blk_cell hx7 1
        have t2 : w7.cell? ⟨wr.heap.size, 2, none⟩ = some (.string x.f2) := blk_cell hx7 2
        have t3 : w7.cell? ⟨wr.heap.size, 3, none⟩ = some (.slice B3 x.f3.length e3) := blk_cell hx7 3
        have t4 : w7.cell? ⟨wr.heap.size, 4, none⟩ = some (.slice B4 x.f4.length e4) := blk_cell hx7 4
        have S7 := Aside0.mk (Nat.le_trans HS6.out k7.1.size)
        have H7 := Aside0.mk h7
        have HB7 := Aside0.mk (HB6.out.trans k7.1)
        have HK7 := Aside0.mk (HK6.out.trans (KeptT.kept HR6.out k7))
        have HV7 := Aside0.mk hv7
        have H := Aside0.mk (HIH.out x B3 e3 B4 e4 w0 w7 Br b v7 (T ++ qs) HOX.out HC.out.1 HC.out.2.1 HC.out.2.2.1 HC.out.2.2.2 (HBR.out.trans (HB7.out.mono h0b)) h0b H7.out (by have := HSB.out.2; have := S7.out; omega) (by have h1 := HTl2.out; rw [List.length_append]; omega) HLW.out)
        unfold vArg at H
        clear h7 k7 hv7 hx7
        go_wp2_with fail
        refine H.out.mono ?_
        rintro e w5 ⟨rfl, v5, h5, b5, k5⟩
        rw [HTE.out] at h5
        have H5 := Aside0.mk h5
        have B5 := Aside0.mk (HWR.out.trans (HB7.out.trans b5))
        have K5 := Aside0.mk (HKR.out.trans (HK7.out.trans k5))
        have V5 := Aside0.mk (k5 _ _ HV7.out)
        have S5 := Nat.le_trans S7.out b5.size
        clear h5 b5 k5 t0 t1 t2 t3 t4
        go_wp2
        go_roundg k1
        case measure => omega
        case rel => exact ⟨k + 1, v5, by omega, by go_num, by omega, H5, B5, K5, V5⟩
      · have hgt : ((k : Nat) : Int) > 0 := by omega
        have HK0 := Aside0.mk hk0
        have HCs2 := Aside0.mk (show wr.heap.size + 1 ≤ (wr.alloc (.cells #[.int .i64 x.f0, .int .i64 x.f1, .string x.f2, .slice B3 x.f3.length e3, .slice B4 x.f4.length e4] 26 (0, 0))).heap.size by simp)
        clear hk0
        go_wp2_with fail
        refine (WriteByte_calls Br b v' _ 44 _ HR2.out (by have h1 := HL.out; have h3 := elemsW_len (writeD d) true rs ns k; rw [byteCells_len]; simp only [List.length_append, List.length_cons, List.length_nil]; omega) (by have := HSB.out.2; omega)).mono ?_
        rintro e w4 ⟨rfl, v4, h4, k4⟩
        rw [byteCells_snoc] at h4
        obtain ⟨T, hT⟩ : ∃ T, T = (bs ++ [123] ++ elemsW (writeD d) true 0 (rs.take k) ns) ++ [44] := ⟨_, rfl⟩
        have HTl := Aside0.mk (show T.length + ((quoteR nme).length + 1) + (writeD d x).length ≤ 10000000000000 by
          have h1 := HL.out
          have h2 := HWL.out
          have h3 := HLN.out
          rw [if_neg HK0.out] at h2
          rw [hT]
          simp only [List.length_append, List.length_cons, List.length_nil]
          omega)
        have HTE := Aside0.mk (show T ++ (quoteR nme ++ [58]) ++ writeD d x = bs ++ [123] ++ elemsW (writeD d) true 0 (rs.take (k + 1)) ns by
          rw [HNX.out, if_neg HK0.out, hT]
          simp)
        have HBT := Aside0.mk hT
        clear hT
        have hv4 := KeptT.kept HR2.out k4 _ _ HV2.out
        have hx4 := KeptT.kept HR2.out k4 _ _ NV2.out
        have z0 : w4.cell? ⟨w.heap.size, 0, none⟩ = some (.int .i64 6) := blk_cell hv4 0
        have z4 : w4.cell? ⟨w.heap.size, 4, none⟩ = some (.slice (some ad4) ns.length c4) := blk_cell hv4 4
        have q4 := cell_below' (HBR.out.trans ((HB2.out.mono HBR.out.size).trans (k4.1.mono h0b))) Q0.out
        have HBc := Aside0.mk (show BAt Br b v4 (Lib.byteCells T) w4 by rw [HBT.out]; exact h4)
        have HVc := Aside0.mk hv4
        have HXc := Aside0.mk hx4
        have HCb := Aside0.mk ((HB2.out.mono HSB.out.1).trans k4.1)
        have HCk := Aside0.mk ((KeptT.below HB2.out).trans (KeptT.kept HR2.out k4))
        have HCs := Aside0.mk (Nat.le_trans HCs2.out k4.1.size)
        clear h4 k4 hv4 hx4
        clear q0
        have q0 := q4
        clear q4
        go_wp2_with fail
        refine (Quote_calls nme _ (by have h1 := HTl.out; have h4 := quote_ge nme; omega) (fun w1 h1 => (HLW.out w1 ((HBR.out.trans (HCb.out.mono h0b)).trans (h1.mono (Nat.le_trans HBR.out.size (Nat.le_trans (Nat.le_succ _) HCs.out))))).deb)).mono ?_
        rintro e w6 ⟨rfl, b6⟩
        have hv6 := (b6.block _ (blk_lt HVc.out)).trans HVc.out
        have hx6 := (b6.block _ (blk_lt HXc.out)).trans HXc.out
        have HR6 := Aside0.mk (bat_blw HBc.out b6)
        have HV6 := Aside0.mk hv6
        have HX6 := Aside0.mk hx6
        have HS6 := Aside0.mk (Nat.le_trans HCs.out b6.size)
        have HB6 := Aside0.mk (HCb.out.trans (b6.mono (Nat.le_trans HSB.out.1 (Nat.le_trans (Nat.le_succ _) HCs.out))))
        have HK6 := Aside0.mk (HCk.out.trans (KeptT.below b6))
        clear hv6 hx6 b6 r0 r1 r2 r3 r4 y0 y0' y4 y4' q0 q0' z0 z4 HBc HVc HXc HCb HCk HCs HNX HWL
        generalize quoteR nme = qn at *
        have hqs : qn.length < 10000000000001 := by have h1 := HTl.out; omega
        have c1 : (9223372036854775807 < (ByteArray.mk qn.toArray).size + 1) = False := eq_false (Nat.not_lt.2 (by simp only [ByteArray.size, List.size_toArray]; omega))
        have c2 : (9223372036854775807 < qn.length + 1) = False := eq_false (Nat.not_lt.2 (by omega))
        have HCAT := Aside0.mk (show (ByteArray.mk qn.toArray) ++ (ByteArray.mk #[58]) = ByteArray.mk (qn ++ [58]).toArray by apply ByteArray.ext; simp)
        have hws : (Lib.byteCells T).length + (ByteArray.mk (qn ++ [58]).toArray).size ≤ 140737488355328 := by
          have h1 := HTl.out
          rw [byteCells_len]
          simp only [ByteArray.size, List.size_toArray, List.length_append, List.length_cons, List.length_nil]
          omega
        have HWS := Aside0.mk hws
        clear hqs hws
        go_wp2_with fail
        rw [HCAT.out]
        clear c1 c2
        have hbw : Br ≤ w6.heap.size := Nat.le_trans HSB.out.2 (Nat.le_trans (Nat.le_succ _) HS6.out)
        have hr6 := HR6.out
        have hws := HWS.out
        have HTl2 := Aside0.mk (show T.length + (qn ++ [58]).length + (writeD d x).length ≤ 10000000000000 by have h1 := HTl.out; simp only [List.length_append, List.length_cons, List.length_nil]; omega)
        clear HCAT HTl HWS
        generalize qn ++ [58] = qs at *
        have HW7 := Write_calls Br b _ (Lib.byteCells T) ⟨qs.toArray⟩ w6 hr6 hws hbw
        clear hws hr6
        refine HW7.mono ?_
        clear HW7
        rintro e w7 ⟨rfl, v7, h7, k7⟩
        rw [strCells_list, ← byteCells_app] at h7
        have hv7 := KeptT.kept HR6.out k7 _ _ HV6.out
        have hx7 := KeptT.kept HR6.out k7 _ _ HX6.out
        have t0 : w7.cell? ⟨wr.heap.size, 0, none⟩ = some (.int .i64 x.f0) := blk_cell hx7 0
        have t1 : w7.cell? ⟨wr.heap.size, 1, none⟩ = some (.int .i64 x.f1) := blk_cell hx7 1
        have t2 : w7.cell? ⟨wr.heap.size, 2, none⟩ = some (.string x.f2) := blk_cell hx7 2
        have t3 : w7.cell? ⟨wr.heap.size, 3, none⟩ = some (.slice B3 x.f3.length e3) := blk_cell hx7 3
        have t4 : w7.cell? ⟨wr.heap.size, 4, none⟩ = some (.slice B4 x.f4.length e4) := blk_cell hx7 4
        have S7 := Aside0.mk (Nat.le_trans HS6.out k7.1.size)
        have H7 := Aside0.mk h7
        have HB7 := Aside0.mk (HB6.out.trans k7.1)
        have HK7 := Aside0.mk (HK6.out.trans (KeptT.kept HR6.out k7))
        have HV7 := Aside0.mk hv7
        have H := Aside0.mk (HIH.out x B3 e3 B4 e4 w0 w7 Br b v7 (T ++ qs) HOX.out HC.out.1 HC.out.2.1 HC.out.2.2.1 HC.out.2.2.2 (HBR.out.trans (HB7.out.mono h0b)) h0b H7.out (by have := HSB.out.2; have := S7.out; omega) (by have h1 := HTl2.out; rw [List.length_append]; omega) HLW.out)
        unfold vArg at H
        clear h7 k7 hv7 hx7
        go_wp2_with fail
        refine H.out.mono ?_
        rintro e w5 ⟨rfl, v5, h5, b5, k5⟩
        rw [HTE.out] at h5
        have H5 := Aside0.mk h5
        have B5 := Aside0.mk (HWR.out.trans (HB7.out.trans b5))
        have K5 := Aside0.mk (HKR.out.trans (HK7.out.trans k5))
        have V5 := Aside0.mk (k5 _ _ HV7.out)
        have S5 := Nat.le_trans S7.out b5.size
        clear h5 b5 k5 t0 t1 t2 t3 t4
        go_wp2
        go_roundg k1
        case measure => omega
        case rel => exact ⟨k + 1, v5, by omega, by go_num, by omega, H5, B5, K5, V5⟩
end Go.Proofs.YtegppkngdkkdcaaGreatDoor.Tr
end
section
set_option linter.unusedVariables false
set_option linter.unusedSimpArgs false
namespace Go.Proofs.YtegppkngdkkdcaaGreatDoor.Tr
open Go.RowKit Go.Proofs.YtegppkngdkkdcaaGreatDoorW.PrintWords Go.Proofs.YtegppkngdkkdcaaGreatDoorW.PrintLast Go.Proofs.YtegppkngdkkdcaaGreatDoorW.PrintMore
open Go.Proofs.YtegppkngdkkdcaaGreatDoor.Lx Go.Proofs.YtegppkngdkkdcaaGreatDoor.PS
theorem ok_n {d : Nat} {x : V} (h : Ok d x) : -9223372036854775808 ≤ x.f1 ∧ x.f1 ≤ 9223372036854775807 := by
  cases d with
  | zero => exact h.n
  | succ d => exact h.n.1
theorem writeD_leaf (d : Nat) (x : V) (h5 : x.f0 ≠ 5) (h6 : x.f0 ≠ 6) : writeD d x = leafW x := by
  cases d with
  | zero => rfl
  | succ d => simp only [writeD, if_neg h5, if_neg h6]
theorem write_leaf (d : Nat) (x : V) (A3 : Option Addr) (c3 : Nat) (A4 : Option Addr) (c4 : Nat) (w : World) (Br b : Nat) (v : Value) (bs : List UInt8) (hok : Ok d x) (h5 : x.f0 ≠ 5) (h6 : x.f0 ≠ 6) (hb : BAt Br b v (Lib.byteCells bs) w) (hBr : Br ≤ w.heap.size) (hl : bs.length + (writeD d x).length ≤ 10000000000000) (hlw : ∀ w1, Below w.heap.size w w1 → LW w1) :
    Calls Tryz.prog 27 #[.pointer (some ⟨b, 0, none⟩), vArg x A3 c3 A4 c4] w (WroteQ Br b bs (writeD d x) w) := by
  have hk := bareV_kind (sound_bare hok.s)
  have hn := ok_n hok
  rw [writeD_leaf d x h5 h6] at hl ⊢
  obtain ⟨k, n, t, rs, ns⟩ := x
  simp only at hk hn h5 h6
  unfold vArg
  simp only
  have hc : k = 1 ∨ k = 2 ∨ k = 3 ∨ k = 4 := by omega
  rcases hc with rfl | rfl | rfl | rfl
  · exact write_1 n t A3 _ c3 A4 _ c4 w Br b v bs hb hBr hl
  · exact write_2 n t A3 _ c3 A4 _ c4 w Br b v bs hb hBr hl
  · exact write_3 n hn t A3 _ c3 A4 _ c4 w Br b v bs hb hBr hl hlw
  · have := write_4 n t.data.toList A3 rs.length c3 A4 ns.length c4 w Br b v bs hb hBr hl hlw
    rw [show (ByteArray.mk t.data.toList.toArray) = t by cases t; rfl] at this
    exact this
theorem write_calls : ∀ d, WriteC d
  | 0 => by
    intro x A3 c3 A4 c4 w0 w Br b v bs hok l3 g3 l4 g4 hb0 h0b hb hBr hl hlw
    have hs := hok.s
    simp only [soundR, Bool.and_eq_true, Bool.not_eq_true', Bool.or_eq_false_iff, beq_eq_false_iff_ne] at hs
    exact write_leaf 0 x A3 c3 A4 c4 w Br b v bs hok hs.1.1.1 hs.1.1.2 hb hBr hl (fun w1 h1 => hlw w1 (hb0.trans (h1.mono hb0.size)))
  | d + 1 => by
    intro x A3 c3 A4 c4 w0 w Br b v bs hok l3 g3 l4 g4 hb0 h0b hb hBr hl hlw
    by_cases h5 : x.f0 = 5
    · have hs := hok.s
      simp only [soundR, Bool.and_eq_true, List.all_eq_true] at hs
      have hy : ∀ y ∈ x.f3, Ok d y := fun y hy => ⟨hs.2 y hy, hok.n.2 y hy, hok.f.2.2 y hy⟩
      obtain ⟨k, n, t, rs, ns⟩ := x
      simp only at h5
      subst h5
      simp only [writeD, if_pos] at hl ⊢
      exact write_arr d (write_calls d) n t rs ns A3 c3 A4 ns.length c4 w0 w Br b v bs hy hok.f.1 l3 g3 hb0 h0b hb hBr (by simp only [List.length_append, List.length_cons, List.length_nil] at hl; omega) hlw
    · by_cases h6 : x.f0 = 6
      · have hs := hok.s
        have hbv := sound_bare hs
        simp only [soundR, Bool.and_eq_true, List.all_eq_true] at hs
        have hy : ∀ y ∈ x.f3, Ok d y := fun y hy => ⟨hs.2 y hy, hok.n.2 y hy, hok.f.2.2 y hy⟩
        obtain ⟨k, n, t, rs, ns⟩ := x
        simp only at h6
        subst h6
        have hns : ns.length = rs.length := by
          simp [bareV, bareR] at hbv
          exact hbv.2
        simp only [writeD, if_neg (show ¬ (6 : Int) = 5 by decide), if_pos] at hl ⊢
        exact write_map d (write_calls d) n t rs ns A3 c3 A4 c4 w0 w Br b v bs hy hok.f.1 l3 g3 hns l4 g4 hb0 h0b hb hBr (by simp only [List.length_append, List.length_cons, List.length_nil] at hl; omega) hlw
      · exact write_leaf (d + 1) x A3 c3 A4 c4 w Br b v bs hok h5 h6 hb hBr hl (fun w1 h1 => hlw w1 (hb0.trans (h1.mono hb0.size)))
set_option maxRecDepth 100000 in
set_option maxHeartbeats 1000000 in
theorem Print_calls (x : V) (A3 : Option Addr) (c3 : Nat) (A4 : Option Addr) (c4 : Nat) (w : World) (fx : fitsR 8 x) (nx : numsR 8 x) (l3 : x.f3.length ≤ c3) (g3 : k26.C w A3 x.f3.length x.f3) (l4 : x.f4.length ≤ c4) (g4 : Kd.string.C w A4 x.f4.length x.f4)
    (hl : (writeD 8 x).length ≤ 10000000000000) (hlw : ∀ w1, Below w.heap.size w w1 → LW w1) :
    Calls Tryz.prog 12 #[vArg x A3 c3 A4 c4] w fun e w' => e = .returned (.tuple #[.string ⟨(printR x).1.toArray⟩, .int .i64 (printR x).2]) ∧ Below w.heap.size w w' := by
  have hba := (Below.refl w.heap.size w).alloc (Nat.le_refl _) (.cells #[.int .i64 x.f0, .int .i64 x.f1, .string x.f2, .slice A3 x.f3.length c3, .slice A4 x.f4.length c4] 26 (0, 0))
  have NV := Aside0.mk (blk_new w (.cells #[.int .i64 x.f0, .int .i64 x.f1, .string x.f2, .slice A3 x.f3.length c3, .slice A4 x.f4.length c4] 26 (0, 0)))
  have HS := Aside0.mk (sound_calls 8 (Nat.le_refl _))
  have HG := Aside0.mk (And.intro g3 g4)
  have HW := Aside0.mk hlw
  have HO := Aside0.mk (And.intro fx nx)
  have HL := Aside0.mk hl
  have HBA := Aside0.mk hba
  have HSA := Aside0.mk (show (w.alloc (.cells #[.int .i64 x.f0, .int .i64 x.f1, .string x.f2, .slice A3 x.f3.length c3, .slice A4 x.f4.length c4] 26 (0, 0))).heap.size = w.heap.size + 1 by simp)
  have HR := Aside0.mk (show printR x = if soundR 8 x = true then (writeD 8 x, 0) else ([], 1) from rfl)
  generalize printR x = pr at *
  unfold vArg at *
  clear g3 g4 hlw fx nx hl hba
  go_enter Tryz.func12, Tryz.ntmps12
  go_wp2_with fail
  refine (HS.out x A3 c3 A4 c4 _ HO.out.1 l3 (Kd.C_below HG.out.1 HBA.out) l4 (Kd.C_below HG.out.2 HBA.out)).mono ?_
  rintro e w1 ⟨rfl, hb1⟩
  have hv1 := (hb1.block _ (blk_lt NV.out)).trans NV.out
  have HV1 := Aside0.mk hv1
  have HB1 := Aside0.mk (HBA.out.trans (hb1.mono HBA.out.size))
  have HS1 := Aside0.mk (Nat.le_trans (Nat.le_of_eq HSA.out.symm) hb1.size)
  have x0 : w1.cell? ⟨w.heap.size, 0, none⟩ = some (.int .i64 x.f0) := blk_cell hv1 0
  have x1 : w1.cell? ⟨w.heap.size, 1, none⟩ = some (.int .i64 x.f1) := blk_cell hv1 1
  have x2 : w1.cell? ⟨w.heap.size, 2, none⟩ = some (.string x.f2) := blk_cell hv1 2
  have x3 : w1.cell? ⟨w.heap.size, 3, none⟩ = some (.slice A3 x.f3.length c3) := blk_cell hv1 3
  have x4 : w1.cell? ⟨w.heap.size, 4, none⟩ = some (.slice A4 x.f4.length c4) := blk_cell hv1 4
  clear hb1 HS hv1
  cases hs : soundR 8 x with
  | false =>
    have HQ := Aside0.mk (show pr = ([], 1) by rw [HR.out, hs]; rfl)
    clear hs
    go_wp2
    go_ret2
    rw [HQ.out]
    exact ⟨rfl, HB1.out⟩
  | true =>
    have HQ := Aside0.mk (show pr = (writeD 8 x, 0) by rw [HR.out, hs]; rfl)
    have HSS := Aside0.mk hs
    clear hs
    have y0 := cellA x0
    have y1 := cellA x1
    have y2 := cellA x2
    have y3 := cellA x3
    have y4 := cellA x4
    have hba2 := (Below.refl w1.heap.size w1).alloc (Nat.le_refl _) (.cells #[.pointer none, .slice none 0 0] 65)
    have HB2 := Aside0.mk hba2
    have H := Aside0.mk (write_calls 8 x A3 c3 A4 c4 w (w1.alloc (.cells #[.pointer none, .slice none 0 0] 65)) (w1.heap.size + 1) w1.heap.size (.slice none 0 0) [] ⟨HSS.out, HO.out.2, HO.out.1⟩ l3 HG.out.1 l4 HG.out.2 (HB1.out.trans (hba2.mono HB1.out.size)) HB1.out.size (BAt.new w1) (by simp) (by have := HL.out; simpa using this) HW.out)
    unfold vArg at H
    clear hba2
    go_wp2_with fail
    refine H.out.mono ?_
    rintro e w3 ⟨rfl, v3, h3, b3, k3⟩
    have HB3 := Aside0.mk (HB1.out.trans ((HB2.out.mono HB1.out.size).trans (b3.mono HB1.out.size)))
    have H3 := Aside0.mk h3
    clear h3 b3 k3 x0 x1 x2 x3 x4 y0 y1 y2 y3 y4 H
    go_wp2_with fail
    refine (Tryz.Builder_String_any w1.heap.size w1.heap.size _ _ H3.out.is (by have := H3.out.blt; omega)).mono ?_
    rintro e w4 ⟨rfl, hb4⟩
    have HB4 := Aside0.mk (HB3.out.trans (hb4.mono HB1.out.size))
    clear hb4
    go_wp2
    go_ret2
    rw [HQ.out]
    exact ⟨rfl, HB4.out⟩
end Go.Proofs.YtegppkngdkkdcaaGreatDoor.Tr
end
section
set_option linter.unusedVariables false
set_option linter.unusedSimpArgs false
namespace Go.Proofs.YtegppkngdkkdcaaGreatDoor.Tr
open Go.RowKit Go.Proofs.YtegppkngdkkdcaaGreatDoorW.PrintWords Go.Proofs.YtegppkngdkkdcaaGreatDoorW.PrintLast Go.Proofs.YtegppkngdkkdcaaGreatDoorW.PrintMore
open Go.Proofs.YtegppkngdkkdcaaGreatDoor.Lx Go.Proofs.YtegppkngdkkdcaaGreatDoor.PS
def TellE (xs ys : List V) (pr : V → V → Bool) (fid : FuncId) (caps : Array Value) (w : World) : Prop :=
  ∀ x ∈ xs, ∀ y ∈ ys, ∀ (A3 : Option Addr) (c3 : Nat) (A4 : Option Addr) (c4 : Nat) (B3 : Option Addr) (e3 : Nat) (B4 : Option Addr) (e4 : Nat) (w1 : World), Below w.heap.size w w1 →
    x.f3.length ≤ c3 → k26.C w1 A3 x.f3.length x.f3 → x.f4.length ≤ c4 → Kd.string.C w1 A4 x.f4.length x.f4 → y.f3.length ≤ e3 → k26.C w1 B3 y.f3.length y.f3 → y.f4.length ≤ e4 → Kd.string.C w1 B4 y.f4.length y.f4 →
    Calls Tryz.prog fid (#[vArg x A3 c3 A4 c4, vArg y B3 e3 B4 e4] ++ caps) w1 fun e w' => e = .returned (.bool (pr x y)) ∧ Below w1.heap.size w1 w'
def eqRows (pr : V → V → Bool) : List V → List V → Bool
  | [], [] => true
  | x :: xs, y :: ys => pr x y && eqRows pr xs ys
  | _, _ => false
theorem eqRows_len (pr : V → V → Bool) : ∀ (xs ys : List V), xs.length ≠ ys.length → eqRows pr xs ys = false
  | [], [], h => absurd rfl h
  | [], _ :: _, _ => rfl
  | _ :: _, [], _ => rfl
  | x :: xs, y :: ys, h => by
    rw [eqRows, eqRows_len pr xs ys (fun e => h (by simp [e])), Bool.and_false]
theorem eqRows_take (pr : V → V → Bool) : ∀ (xs ys : List V) (k : Nat) (hx : k < xs.length) (hy : k < ys.length), (∀ i (h1 : i < xs.length) (h2 : i < ys.length), i < k → pr xs[i] ys[i] = true) → pr xs[k] ys[k] = false → eqRows pr xs ys = false
  | [], _, k, hx, _, _, _ => by simp at hx
  | _ :: _, [], k, _, hy, _, _ => by simp at hy
  | x :: xs, y :: ys, 0, _, _, _, h => by
    rw [eqRows, show pr x y = false from h, Bool.false_and]
  | x :: xs, y :: ys, k + 1, hx, hy, h, h' => by
    rw [eqRows, eqRows_take pr xs ys k (by simpa using hx) (by simpa using hy) (fun i h1 h2 h3 => h (i + 1) (by simpa using h1) (by simpa using h2) (by omega)) h', Bool.and_false]
theorem eqRows_all (pr : V → V → Bool) : ∀ (xs ys : List V), xs.length = ys.length → (∀ i (h1 : i < xs.length) (h2 : i < ys.length), pr xs[i] ys[i] = true) → eqRows pr xs ys = true
  | [], [], _, _ => rfl
  | [], _ :: _, h, _ => by simp at h
  | _ :: _, [], h, _ => by simp at h
  | x :: xs, y :: ys, h, h' => by
    rw [eqRows, eqRows_all pr xs ys (by simpa using h) (fun i h1 h2 => h' (i + 1) (by simpa using h1) (by simpa using h2)), Bool.and_true]
    exact h' 0 (by simp) (by simp)
set_option maxRecDepth 100000 in
set_option maxHeartbeats 1000000 in
theorem EqualFunc_calls (xs ys : List V) (pr : V → V → Bool) (fid : FuncId) (caps : Array Value) (A : Option Addr) (cc : Nat) (B : Option Addr) (ce : Nat) (w : World) (hl : xs.length ≤ 1000000000000) (hl2 : ys.length ≤ 1000000000000) (hen : ∀ (args : Array Value) (w : World), (callFunc fid args).run Tryz.prog w = .ok (.enter fid args) w)
    (hC : k26.C w A xs.length xs) (hC2 : k26.C w B ys.length ys) (hT : TellE xs ys pr fid caps w) :
    Calls Tryz.prog 62 #[.slice A xs.length cc, .slice B ys.length ce, .func (.func fid) #[] caps] w fun e w' => e = .returned (.bool (eqRows pr xs ys)) ∧ Below w.heap.size w w' := by
  obtain ⟨bb, hbb⟩ : ∃ bb, bb = eqRows pr xs ys := ⟨_, rfl⟩
  rw [← hbb]
  have HBB := Aside0.mk hbb
  have HC := Aside0.mk hC
  have HC2 := Aside0.mk hC2
  have HT := Aside0.mk hT
  have HE := Aside0.mk hen
  clear hC hC2 hT hen hbb
  by_cases hll : xs.length = ys.length
  · have hq : (((xs.length : Nat) : Int) != ((ys.length : Nat) : Int)) = false := by simp [hll]
    have HL := Aside0.mk hll
    clear hll
    go_enter Tryz.func62, Tryz.ntmps62
    go_wp2
    go_loopg [7, 8, 9, 17] xs.length (fun kq v7 v8 v9 v17 w' => ∃ (k : Nat), k + kq = xs.length ∧ v17 = .int .i64 k ∧ Aside0 (∀ i (h1 : i < xs.length) (h2 : i < ys.length), i < k → pr xs[i] ys[i] = true) ∧ Aside0 (Below w.heap.size w w'))
    case atStart => exact ⟨0, by simp, rfl, Aside0.mk (fun i _ _ h => by omega), Aside0.mk (Below.refl _ _)⟩
    case round =>
      obtain ⟨k, hk, rfl, HI, HB⟩ := hrel
      cases gk with
      | zero =>
        have hge : ¬ ((k : Int) < (xs.length : Int)) := by omega
        have HF := Aside0.mk (show bb = true by rw [HBB.out]; exact eqRows_all pr xs ys HL.out (fun i h1 h2 => HI.out i h1 h2 (by omega)))
        go_wp2
        go_ret
        exact ⟨by rw [HF.out]; rfl, HB.out⟩
      | succ k1 =>
        have hlt : (k : Int) < (xs.length : Int) := by omega
        have hlt' : k < xs.length := by omega
        have hly' : k < ys.length := by have := HL.out; omega
        have hly : (k : Int) < (ys.length : Int) := by omega
        obtain ⟨ad, A3, c3, A4, c4, e, x0, x1, x2, x3, x4, l3, g3, l4, g4⟩ := at_T26 (Kd.C_below HC.out HB.out) k (by omega) hlt
        cases e
        obtain ⟨bd, B3, e3, B4, e4, e, y0, y1, y2, y3, y4, m3, k3, m4, k4⟩ := at_T26 (Kd.C_below HC2.out HB.out) k (by omega) hly
        cases e
        have hrd : rd_T26 xs k = xs[k] := by simp [rd_T26, List.getD, List.getElem?_eq_getElem hlt']
        have hrd2 : rd_T26 ys k = ys[k] := by simp [rd_T26, List.getD, List.getElem?_eq_getElem hly']
        rw [hrd] at x0 x1 x2 x3 x4 l3 g3 l4 g4
        rw [hrd2] at y0 y1 y2 y3 y4 m3 k3 m4 k4
        rw [Int.toNat_natCast] at x0 x1 x2 x3 x4 y0 y1 y2 y3 y4
        have y0 := cellA y0
        have y1 := cellA y1
        have y2 := cellA y2
        have y3 := cellA y3
        have y4 := cellA y4
        have HG := Aside0.mk (And.intro g3 (And.intro g4 (And.intro k3 k4)))
        have HK := Aside0.mk hk
        have HX := Aside0.mk (List.getElem_mem hlt')
        have HY := Aside0.mk (List.getElem_mem hly')
        have hx' : ∃ x, x = xs[k] := ⟨_, rfl⟩
        have hy' : ∃ y, y = ys[k] := ⟨_, rfl⟩
        obtain ⟨x, hx'⟩ := hx'
        obtain ⟨y, hy'⟩ := hy'
        rw [← hx'] at x0 x1 x2 x3 x4 l3 l4 HG HX
        rw [← hy'] at y0 y1 y2 y3 y4 m3 m4 HG HY
        have HEX := Aside0.mk hx'
        have HEY := Aside0.mk hy'
        have hb2 := ((Below.refl wr.heap.size wr).alloc (Nat.le_refl _) (.cells #[.int .i64 x.f0, .int .i64 x.f1, .string x.f2, .slice A3 x.f3.length c3, .slice A4 x.f4.length c4] 26 (0, 0))).alloc (by simp) (.cells #[.int .i64 y.f0, .int .i64 y.f1, .string y.f2, .slice B3 y.f3.length e3, .slice B4 y.f4.length e4] 26 (0, 0))
        have HCL := Aside0.mk (HT.out x HX.out y HY.out A3 c3 A4 c4 B3 e3 B4 e4 _ (HB.out.trans (hb2.mono HB.out.size)) l3 (Kd.C_below HG.out.1 hb2) l4 (Kd.C_below HG.out.2.1 hb2) m3 (Kd.C_below HG.out.2.2.1 hb2) m4 (Kd.C_below HG.out.2.2.2 hb2))
        have HB2 := Aside0.mk (HB.out.trans (hb2.mono HB.out.size))
        clear hk hrd hrd2 g3 g4 k3 k4 hx' hy' hb2
        unfold vArg at HCL
        have he := HE.out
        go_wp2_with fail
        refine HCL.out.mono ?_
        clear he
        rintro e w3 ⟨rfl, hb3⟩
        have HB3 := Aside0.mk (HB2.out.trans (hb3.mono HB2.out.size))
        clear hb3
        cases hpx : pr x y with
        | true =>
          have HI2 := Aside0.mk (show ∀ i (h1 : i < xs.length) (h2 : i < ys.length), i < k + 1 → pr xs[i] ys[i] = true by
            intro i h1 h2 h3
            rcases Nat.lt_or_ge i k with h4 | h4
            · exact HI.out i h1 h2 h4
            · obtain rfl : i = k := by omega
              rw [← HEX.out, ← HEY.out]
              exact hpx)
          clear hpx
          go_wp2
          go_roundg k1
          case measure => omega
          case rel => exact ⟨k + 1, by have := HK.out; omega, by go_num, HI2, HB3⟩
        | false =>
          have HF := Aside0.mk (show bb = false by
            rw [HBB.out]
            exact eqRows_take pr xs ys k hlt' hly' HI.out (by rw [← HEX.out, ← HEY.out]; exact hpx))
          clear hpx
          go_wp2
          go_ret
          exact ⟨by rw [HF.out]; rfl, HB3.out⟩
  · have hq : (((xs.length : Nat) : Int) != ((ys.length : Nat) : Int)) = true := by simp; omega
    have HF := Aside0.mk (show bb = false by rw [HBB.out]; exact eqRows_len pr xs ys hll)
    clear hll
    go_enter Tryz.func62, Tryz.ntmps62
    go_wp2
    go_ret
    exact ⟨by rw [HF.out]; rfl, Below.refl _ _⟩
end Go.Proofs.YtegppkngdkkdcaaGreatDoor.Tr
end
section
namespace Go.Proofs.YtegppkngdkkdcaaGreatDoor.PQ
open Go.RowKit Go.Proofs.YtegppkngdkkdcaaGreatDoorW.PrintWords Go.Proofs.YtegppkngdkkdcaaGreatDoorW.PrintLast Go.Proofs.YtegppkngdkkdcaaGreatDoorW.PrintMore
attribute [local go_sem] max2_int min2_int max_two min_two max_three min_three max_four min_four   -- for this text's walks alone
set_option linter.unusedVariables false
set_option linter.unusedSimpArgs false
def errW : Option Int → Value
  | none => .nilIface
  | some c => .iface 0 (.int .i64 c)
theorem errW_none : errW none = .nilIface := rfl
theorem errW_some (c : Int) : errW (some c) = .iface 0 (.int .i64 c) := rfl
end Go.Proofs.YtegppkngdkkdcaaGreatDoor.PQ
end
