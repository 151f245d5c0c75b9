/- WireAlone: each event has a line of its own, which is read alone, and the arguments stay as they were: for every input of bulk at most 1048576. -/
import Derived.Test.YtamcicojockhpabGreatDoorAL4
import Derived.Test.YtamcicojockhpabGreatDoorRows
import Derived.Test.YtamcicojockhpabGreatDoorCards
import Derived.Test.YtamcicojockhpabGreatDoorTie
set_option linter.unusedVariables false
set_option linter.unusedSimpArgs false
section
set_option linter.unusedVariables false
set_option linter.unusedSimpArgs false
namespace Go.Proofs.YtamcicojockhpabGreatDoor.Wi
open Go.RowKit Go.Proofs.YtamcicojockhpabGreatDoorW.PrintWords Go.Proofs.YtamcicojockhpabGreatDoorW.PrintLast Go.Proofs.YtamcicojockhpabGreatDoorW.PrintMore
open Go.Proofs.YtamcicojockhpabGreatDoor.Lx Go.Proofs.YtamcicojockhpabGreatDoor.PS Go.Proofs.YtamcicojockhpabGreatDoor.Tr
def KeepsL (D bs : Nat) (W W' : World) : Prop := W.heap.size ≤ W'.heap.size ∧ W'.heap[D]? = W.heap[D]? ∧ W'.heap[D + 1]? = W.heap[D + 1]? ∧ W'.heap[bs]? = W.heap[bs]?
def spPost (D bs : Nat) (I Ix : List (List UInt8) → World → Prop) (xs : List (List UInt8)) (W : World) : Exit → Act → World → Prop
  | .normal, _, W' => KeepsL D bs W W' ∧ I xs W'
  | .ret, _, W' => KeepsL D bs W W' ∧ Ix xs W'
  | _, _, _ => False
set_option maxRecDepth 100000 in
set_option maxHeartbeats 4000000 in
theorem range_split {ps : Array Tmp} {assign body : Code} {Q : Exit → Act → World → Prop} {a : Act} {w : World} {g : Operand} (bs bp bv : Nat) (hg : a.eval g = .func (.func 53) #[] #[.pointer (some ⟨bp, 0, none⟩), .pointer (some ⟨bs, 0, none⟩), .pointer (some ⟨bv, 0, none⟩)])
    (hps : ps.size = 1) (m : Int) (s : ByteArray) (hs : s.size ≤ 1000000000) (hbs : w.heap[bs]? = some (.cells #[.string s] 9 (0, 0))) (I Ix : List (List UInt8) → World → Prop)
    (hm : ∀ pre W, I pre W → W.cell? ⟨2, 0, none⟩ = some (.int .i64 m))
    (hp : ∀ pre W, I pre W → W.heap[bp]? = some (.cells #[.string ⟨#[10]⟩] 9 (0, 0)))
    (hv : ∀ pre W, I pre W → W.heap[bv]? = some (.cells #[.int .i64 0] 3 (0, 0)))
    (hIput : ∀ pre W k o, w.heap.size ≤ k → k ≤ w.heap.size + 1 → I pre W → I pre (W.putObj k o))
    (hXput : ∀ pre W k o, w.heap.size ≤ k → k ≤ w.heap.size + 1 → Ix pre W → Ix pre (W.putObj k o))
    (hset : ∀ pre W (v : ByteArray), I pre W → I pre (W.setCell ⟨bs, 0, none⟩ (.string v)))
    (h0 : ∀ W1, Below w.heap.size w W1 → w.heap.size + 2 ≤ W1.heap.size → I [] W1) (a₁ : List UInt8 → Act)
    (hassign : ∀ (l : Nat) (x : List UInt8) (W : World) (K : Act → World → Prop), K (a₁ x) W →
      assign.wpIn (Fence.wide.inRound l) 1 Tryz.prog (Exit.then K (fun _ _ _ => False)) { tmps := (ps.zip #[.string ⟨x.toArray⟩]).foldl (fun t (p, v) => t.setIfInBounds p v) a.tmps, defers := [] } W)
    (hbody : ∀ (pre : List (List UInt8)) (x : List UInt8) (rest : List (List UInt8)) (W : World), splitL s.data.toList = pre ++ x :: rest → I pre W → w.heap.size + 2 ≤ W.heap.size →
      body.wpIn (Fence.wide.inRound (w.heap.size + 1)) 1 Tryz.prog (spPost w.heap.size bs I Ix (pre ++ [x]) W) (a₁ x) W)
    (hdone : ∀ W, I (splitL s.data.toList) W → W.heap[w.heap.size]? = some (.deferred (some [])) → Q .normal { a with defers := { target := .collected w.heap.size, args := #[] } :: a.defers } W)
    (hstop : ∀ pre W, pre <+: splitL s.data.toList → Ix pre W → W.heap[w.heap.size]? = some (.deferred (some [])) → Code.ret.wpIn Fence.wide 3 Tryz.prog Q { a with defers := { target := .collected w.heap.size, args := #[] } :: a.defers } W) :
    (Code.rangeFunc g ps assign body).wpIn Fence.wide 3 Tryz.prog Q a w := by
  have hlt : bs < w.heap.size := (Array.getElem?_eq_some_iff.1 hbs).1
  refine wpIn_rangeFunc ?_
  intro fn hfn
  obtain ⟨rec, hrec⟩ : ∃ rec : LoopState → Option Code → Loop, rec = fun st pe => { state := st, pending := pe, fn, tmps := a.tmps, params := ps, assign, body, defers := w.heap.size } := ⟨_, rfl⟩
  obtain ⟨W1, hW1⟩ : ∃ W1, (w.alloc (.deferred (some []))).alloc (.loop (rec .ready none)) = W1 := ⟨_, rfl⟩
  have hL1 : W1.heap[w.heap.size + 1]? = some (.loop (rec .ready none)) := by
    rw [← hW1]; have := World.alloc_heap_new (w.alloc (.deferred (some []))) (.loop (rec .ready none)); rwa [World.size_alloc] at this
  have hK1 : W1.heap[w.heap.size]? = some (.deferred (some [])) := by
    rw [← hW1]; exact (Below.heap_alloc _ _ _ (by simp)).trans (World.alloc_heap_new w _)
  have hb1 : Below w.heap.size w W1 := by
    rw [← hW1]; exact ((Below.refl _ w).alloc (Nat.le_refl _) _).alloc (by simp) _
  have hs1 : w.heap.size + 2 ≤ W1.heap.size := by rw [← hW1]; simp
  refine ⟨w.heap.size + 1, [{ target := .collected w.heap.size, args := #[] }], W1, { target := .fn (.func 53) #[.pointer (some ⟨bp, 0, none⟩), .pointer (some ⟨bs, 0, none⟩), .pointer (some ⟨bv, 0, none⟩)], args := #[.func (.yield (w.heap.size + 1)) #[] #[]] }, W1, 53,
    #[.func (.yield (w.heap.size + 1)) #[] #[]] ++ #[.pointer (some ⟨bp, 0, none⟩), .pointer (some ⟨bs, 0, none⟩), .pointer (some ⟨bv, 0, none⟩)], W1, ?_, ?_, ?_, ?_, fun _ => by omega, ?_⟩
  · rw [← hW1, hrec]; exact run_enterLoop_outer _ _ _ _ _
  · simp only [resolve, hg]
    simp [go_sem]
  · intro f' hf'; trivial
  · have eg := enters_of Tryz.func53 (by kernel_rfl) rfl
    simp [invoke, go_sem, eg]
  · refine (seq1_in 2 (by omega) (w.heap.size + 1) bs bp bv m s hs
      (fun pre W => I pre W ∧ W.heap[w.heap.size + 1]? = some (.loop (rec .ready none)) ∧ W.heap[w.heap.size]? = some (.deferred (some [])))
      (fun pre W => Ix pre W ∧ W.heap[w.heap.size + 1]? = some (.loop (rec .done (some .ret))) ∧ W.heap[w.heap.size]? = some (.deferred (some [])))
      (fun pre W h => hm pre W h.1) (fun pre W h => hp pre W h.1) (fun pre W h => hv pre W h.1)
      (fun pre W u v h _ => ⟨hset pre W v h.1, (Below.heap_setCell W ⟨bs, 0, none⟩ _ _ (by show w.heap.size + 1 ≠ bs; omega)).trans h.2.1, (Below.heap_setCell W ⟨bs, 0, none⟩ _ _ (by show w.heap.size ≠ bs; omega)).trans h.2.2⟩)
      ?_ W1 ((hb1.block _ hlt).trans hbs) ⟨h0 W1 hb1 hs1, hL1, hK1⟩).mono ?_
    · rintro pre x rest W hsp ⟨hi, hl, hk⟩
      have hltl : w.heap.size + 1 < W.heap.size := (Array.getElem?_eq_some_iff.1 hl).1
      have hy := run_yield (P := Tryz.prog) (args := #[.string ⟨x.toArray⟩]) hl (by rw [hrec]; simp [hps])
      rw [hrec] at hy
      refine ⟨fn, _, assign, body, hy, roundIn_of_wpIn hfn (hassign _ x W _ ⟨_, run_beginRound hl (by rw [hrec]), ?_⟩)⟩
      have hl2 : (W.putObj (w.heap.size + 1) (.loop { rec .ready none with state := .busy })).heap[w.heap.size + 1]? = some (.loop { rec .ready none with state := .busy }) := World.putObj_heap_same hltl
      have hk2 : (W.putObj (w.heap.size + 1) (.loop { rec .ready none with state := .busy })).heap[w.heap.size]? = some (.deferred (some [])) := (World.putObj_heap_other (by omega)).trans hk
      have hb2 : (W.putObj (w.heap.size + 1) (.loop { rec .ready none with state := .busy })).heap[bs]? = W.heap[bs]? := World.putObj_heap_other (by omega)
      refine wpIn_mono (hbody pre x rest _ hsp (hIput _ _ _ _ (by omega) (by omega) hi) (by simp; omega)) ?_
      rintro e a3 W3 hpp
      cases e with
      | normal =>
        obtain ⟨⟨hsz, hkd, hkl, hkb⟩, hi3⟩ := hpp
        have hl3 := hkl.trans hl2
        have hk3 := hkd.trans hk2
        have hr := run_endRound (P := Tryz.prog) none hl3
        rw [hrec] at hr
        refine ⟨_, _, hr, .inl ⟨rfl, ⟨hIput _ _ _ _ (by omega) (by omega) hi3, ?_, (World.putObj_heap_other (by omega)).trans hk3⟩, (World.putObj_heap_other (by omega)).trans (hkb.trans hb2)⟩⟩
        rw [hrec]
        exact World.putObj_heap_same (Array.getElem?_eq_some_iff.1 hl3).1
      | ret =>
        obtain ⟨⟨hsz, hkd, hkl, hkb⟩, hi3⟩ := hpp
        have hl3 := hkl.trans hl2
        have hk3 := hkd.trans hk2
        have hr := run_endRound (P := Tryz.prog) (some .ret) hl3
        rw [hrec] at hr
        refine ⟨_, _, hr, .inr ⟨rfl, hXput _ _ _ _ (by omega) (by omega) hi3, ?_, (World.putObj_heap_other (by omega)).trans hk3⟩⟩
        rw [hrec]
        exact World.putObj_heap_same (Array.getElem?_eq_some_iff.1 hl3).1
      | exit id => exact hpp.elim
      | goto t => exact hpp.elim
      | panic ch => exact hpp.elim
      | outgrown => exact hpp.elim
    · rintro e W2 ⟨⟨v, rfl⟩, (⟨hi, hl, hk⟩ | ⟨pre, hpre, hi, hl, hk⟩)⟩
      · exact ⟨none, _, by have := run_endLoop (P := Tryz.prog) hl (by rw [hrec]; simp); rw [hrec] at this; exact this, hdone _ (hIput _ _ _ _ (by omega) (by omega) hi) ((World.putObj_heap_other (by omega)).trans hk)⟩
      · exact ⟨some .ret, _, by have := run_endLoop (P := Tryz.prog) hl (by rw [hrec]; simp); rw [hrec] at this; exact this, hstop pre _ hpre (hXput _ _ _ _ (by omega) (by omega) hi) ((World.putObj_heap_other (by omega)).trans hk)⟩
end Go.Proofs.YtamcicojockhpabGreatDoor.Wi
end
section
set_option linter.unusedVariables false
set_option linter.unusedSimpArgs false
namespace Go.Proofs.YtamcicojockhpabGreatDoor.Wi
open Go.RowKit Go.Proofs.YtamcicojockhpabGreatDoorW.PrintWords Go.Proofs.YtamcicojockhpabGreatDoorW.PrintLast Go.Proofs.YtamcicojockhpabGreatDoorW.PrintMore
open Go.Proofs.YtamcicojockhpabGreatDoor.Lx Go.Proofs.YtamcicojockhpabGreatDoor.PS Go.Proofs.YtamcicojockhpabGreatDoor.Tr
section
variable {F : Fence} {n : Nat} {P : Program} {ops : Array Oper} {rest : List Oper} {o : Oper} {a : Act} {Q : Exit → Act → World → Prop} {α : Type}
theorem wpListIn_append_at (w : World) (hg : o.guard = none) (s x : Operand) (t : TypeId) (hop : o.op = Op.call { callee := Callee.builtin Builtin.append, args := #[s, x], argTypes := #[t, t] })
    (base : Nat) (e : TypeId) (i : TypeInfo) (z : Value) (size bytes : Nat) (h1 : P.underlying t = some (.slice e)) (h2 : P.info? e = some i) (h3 : i.zero = some z) (h4 : i.size = size) (h5 : i.bytes = bytes) (h6 : z.cells.size = size) (h7 : 0 < size)
    (v : Value) (k : Nat) (xs : List Value) (hs : a.eval s = v) (hown : w.ownsRow base e size v k xs) (ad : Addr) (m c : Nat) (news : List Value) (hx : a.eval x = .slice (some ad) m c) (hn : news.length = m * size)
    (hc : ∀ j u, news[j]? = some u → w.cell? (ad.add j) = some u) (h1c : ∀ u ∈ news, u.oneCell' = true) (b1 : k + m ≤ maxLen) (b2 : (k + m) * bytes ≤ 140737488355328) (b3 : base ≤ w.heap.size)
    (hK : ∀ v' w', w'.ownsRow base e size v' (k + m) (xs ++ news) → w.grownBy w' v.ownBlock → (v'.ownBlock = v.ownBlock ∨ v'.ownBlock = some w.heap.size) → wpListIn F n P ops Q rest (a.put o.dst v') w') :
    wpListIn F n P ops Q (o :: rest) a w := by
  refine wpListIn_plain hg fun K hK' => ?_
  obtain ⟨v', w', hrun, r1, r2, _, r3⟩ := run_append_own_at (P := P) w base t o.type e i z size bytes h1 h2 h3 h4 h5 h6 h7 v k xs hown ad m c news hn hc h1c b1 b2 b3
  unfold Oper.wpIn
  refine ⟨?_, ?_⟩
  · simp [Oper.about, hop, resolve, Target.leads, Sem.run_pure]
  · rw [Oper.semAt_plain F _ _ (by rw [hop]; intro c hc'; cases hc')]
    simp [execOp, hop, resolve, invoke, builtin, hs, hx, hrun, Result.andThen]
    exact hK' _ _ (hK v' w' r1 r2 r3)
theorem R_appendIn (d : Kd α) {w0 W : World} (base : Nat) (hgd : o.guard = none) (s x : Operand) (t e : TypeId) (z : Value) (bytes : Nat)
    (ho : o.op = .call { callee := .builtin .append, args := #[s, x], argTypes := #[t, t] })
    (ht : P.underlying t = some (.slice e)) (hinfo : (P.info? e).map (fun i => (i.zero, i.size, i.bytes)) = some (some z, d.sz, bytes)) (hz : z.cells.size = d.sz) (hs0 : 0 < d.sz) (hb0 : 0 < bytes)
    (v : Value) (xs : List α) (p : α) (cs : List Value) (ok okp : Nat → Prop) (hs : a.eval s = v) (hx : a.eval x = .slice (some ⟨W.heap.size, 0, none⟩) 1 1) (hp : d.M W base okp p cs) (hokp : ∀ k, okp k → ok k ∧ some k ≠ v.ownBlock) (hfresh : ∀ k, W.heap.size ≤ k → ok k)
    (HO : d.R e W base ok v xs) (HB : Below base w0 W) (hbase : base ≤ W.heap.size) (hl : (xs.length + 1) * bytes ≤ 140737488355328)
    (h : ∀ v1 w1, d.R e w1 base ok v1 (xs ++ [p]) → Below base w0 w1 → W.grownBy w1 v.ownBlock → (v1.ownBlock = v.ownBlock ∨ ∃ b, v1.ownBlock = some b ∧ W.heap.size ≤ b) → wpListIn F n P ops Q rest (a.put o.dst v1) w1) :
    wpListIn F n P ops Q (o :: rest) a (W.alloc (.cells cs.toArray e)) := by
  obtain ⟨h0, inner, hown, hr⟩ := HO
  obtain ⟨i0, hi, hzz⟩ := Option.map_eq_some_iff.1 hinfo
  simp only [Prod.mk.injEq] at hzz
  obtain ⟨hz0, hz1, hz2⟩ := hzz
  have hys := d.K_len (d.K_of_M hp)
  have h1 := d.K_one (d.K_of_M hp)
  have hlen : xs.length + 1 ≤ 140737488355328 := Nat.le_trans (Nat.le_mul_of_pos_right _ hb0) hl
  refine wpListIn_append_at (W.alloc (.cells cs.toArray e)) hgd s x t ho base e i0 z d.sz bytes ht hi hz0 hz1 hz2 hz hs0 v xs.length inner hs (hown.alloc _) ⟨W.heap.size, 0, none⟩ 1 1 cs hx (by rw [hys]; simp)
    (by simpa using World.news_of_block (cs := cs.toArray) (t := e) (fr := (0, 0)) (heap_alloc_new W (.cells cs.toArray e))) h1 (by simp only [maxLen]; omega) hl (by simp; omega) ?_
  intro v1 w1 hown1 hg hat
  have hat' : v1.ownBlock = v.ownBlock ∨ ∃ b, v1.ownBlock = some b ∧ W.heap.size ≤ b := by
    rcases hat with hat | hat
    · exact .inl hat
    · exact .inr ⟨_, hat, by simp⟩
  have hg1 : W.grownBy w1 v.ownBlock := World.grownBy.trans (World.grownBy_alloc W _ _) hg
  exact h v1 w1 (Kd.R_appended h0 hr hp hokp hfresh hown1 hg1 hat') ((HB.alloc hbase _).grown hg (by simp; omega) (own_base hown)) hg1 hat'
end
section
variable {l n : Nat} {P : Program} {ops : Array Oper} {Q : Exit → Act → World → Prop} {S : World → Prop} {ds : List Nat} {md : Region.Mode}
theorem wpIn_of_wp {o : Oper} {a : Act} {w : World} {K : Act → World → Prop} (hd : ∀ c, o.op ≠ .defer c) (h : o.wp P a w K Q) : o.wpIn (Fence.wide.inRound l) n P a w K Q := by
  unfold Oper.wpIn
  refine ⟨fun _ _ => trivial, ?_⟩
  rw [Oper.semAt_plain _ _ _ hd]
  unfold Oper.wp at h
  generalize (execOp a.eval o).run P w = r at *
  cases r with
  | ok x w' =>
    cases x <;> simp only [Oper.upon, Oper.uponIn] at h ⊢ <;>
      first
        | exact h
        | exact ⟨fun e => by simp [Fence.wide] at e, CallsIn.inRound l (callsIn_wide.2 h)⟩
        | exact ⟨fun e => by simp [Fence.wide] at e, fun c cs _ => (h c cs).imp fun v h1 => h1.imp fun w2 h2 => ⟨h2.1, stepsIn_wide.2 h2.2⟩⟩
        | exact h.elim
  | halt x w' => cases x <;> simp only [Oper.upon, Oper.uponIn] at h ⊢ <;> exact h
def noDefer (ops : Array Oper) : Bool := ops.all fun o => match o.op with
  | .defer _ => false
  | _ => true
theorem wpOpIn_of {i : Nat} {a : Act} {w : World} {K K' : Act → World → Prop} (hn : noDefer ops = true) (hlo : ∀ a w, ¬ Q .outgrown a w) (hK : ∀ a w, K a w → K' a w) (h : wpOp P ops Q i K a w) : wpOpIn (Fence.wide.inRound l) n P ops Q i K' a w := by
  unfold wpOp at h
  unfold wpOpIn
  cases ho : ops[i]? with
  | none =>
    simp only [ho] at h ⊢
    exact hK _ _ h
  | some o =>
    simp only [ho] at h ⊢
    have hd : ∀ c, o.op ≠ .defer c := by
      intro c hc
      have h1 := Array.all_eq_true_iff_forall_mem.1 hn o (Array.mem_of_getElem? ho)
      rw [hc] at h1
      cases h1
    split
    · rename_i hw
      rw [if_pos hw] at h
      rcases h with h | ⟨_, a1, w1, h⟩
      · exact Oper.wpIn_mono hK (wpIn_of_wp hd h)
      · exact absurd h (hlo a1 w1)
    · rename_i hw
      rw [if_neg hw] at h
      exact ⟨fun _ _ => trivial, hK _ _ h⟩
theorem wpAnyIn_of (hn : noDefer ops = true) (hlo : ∀ a w, ¬ Q .outgrown a w) : ∀ (fuel : Nat) (listed : Array Bool) (a : Act) (w : World), wpAny P md ops Q fuel listed a w → wpAnyIn (Fence.wide.inRound l) n P md ops Q fuel listed a w
  | 0, _, _, _, h => h
  | fuel + 1, listed, a, w, h => ⟨h.1, fun i hi => wpOpIn_of hn hlo (fun a w => wpAnyIn_of hn hlo fuel _ a w) (h.2 i hi)⟩
theorem startIn_ {id k : Nat} {a : Act} {w : World} (b : Array Bool) (hm : P.follows .mixedOrders = true) (hk : ops.size = k) (hb : Array.replicate k false = b) (hn : noDefer ops = true) (hlo : ∀ a w, ¬ Q .outgrown a w) (hS : S w.drew)
    (h : S w.drew → wpAnyLast P .any ops Q S ds k b a w.drew) : (Code.region id ops true).wpIn (Fence.wide.inRound l) n P Q a w := by
  subst hk
  subst hb
  exact wpIn_region_any hm (wpAnyIn_of hn hlo _ _ _ _ (wpAny_of_last _ _ _ _ (h hS)))
end
end Go.Proofs.YtamcicojockhpabGreatDoor.Wi
end
section
set_option linter.unusedVariables false
set_option linter.unusedSimpArgs false
namespace Go.Proofs.YtamcicojockhpabGreatDoor.Wi
open Go.RowKit Go.Proofs.YtamcicojockhpabGreatDoorW.PrintWords Go.Proofs.YtamcicojockhpabGreatDoorW.PrintLast Go.Proofs.YtamcicojockhpabGreatDoorW.PrintMore
open Go.Proofs.YtamcicojockhpabGreatDoor.Lx Go.Proofs.YtamcicojockhpabGreatDoor.PS Go.Proofs.YtamcicojockhpabGreatDoor.Tr
def blankL (l : List UInt8) : Bool := l.all fun c => ([32, 9, 13] : List UInt8).contains c
theorem trimS_blank (l : List UInt8) : Lib.trimS l [32, 9, 13] = [] ↔ blankL l = true := by
  have hd : ∀ (p : UInt8 → Bool) (x : List UInt8), x.dropWhile p = [] ↔ x.all p = true := by
    intro p x
    induction x with
    | nil => simp
    | cons c x ih =>
      rw [List.dropWhile_cons, List.all_cons]
      split
      · rename_i h
        rw [ih, h, Bool.true_and]
      · rename_i h
        simp [h]
  unfold Lib.trimS Lib.trimLeftS Lib.trimRightS blankL
  rw [hd]
  constructor
  · intro h
    have h2 : l.reverse.dropWhile (([32, 9, 13] : List UInt8).contains ·) = [] := by
      cases e : l.reverse.dropWhile (([32, 9, 13] : List UInt8).contains ·) with
      | nil => rfl
      | cons c t =>
        have h3 := List.head?_dropWhile_not (([32, 9, 13] : List UInt8).contains ·) l.reverse
        rw [e] at h3 h
        rw [List.all_reverse, List.all_cons] at h
        simp only [List.head?_cons, Bool.and_eq_true] at h3 h
        rw [h.1] at h3
        cases h3
    rw [hd, List.all_reverse] at h2
    exact h2
  · intro h
    have h2 : l.reverse.dropWhile (([32, 9, 13] : List UInt8).contains ·) = [] := by
      rw [hd, List.all_reverse]
      exact h
    rw [h2]
    rfl
inductive St where
  | go (fr : Nat) (acc : List Ev)
  | stop (c a : Nat)
def stepE : St → List UInt8 → St
  | .stop c a, _ => .stop c a
  | .go fr acc, p =>
    if blankL p = true then .go (fr + p.length + 1) acc
    else if (parseR p).2.1 ≠ 0 then .stop (parseR p).2.1 (fr + (parseR p).2.2)
    else match eventR (parseR p).1 with
      | none => .stop 20 fr
      | some e => if acc.length = 256 then .stop 2 fr else .go (fr + p.length + 1) (acc ++ [e])
def runE (ps : List (List UInt8)) : St := ps.foldl stepE (.go 0 [])
theorem runE_snoc (ps : List (List UInt8)) (p : List UInt8) : runE (ps ++ [p]) = stepE (runE ps) p := by simp [runE]
def outE : St → List Ev × Nat × Nat
  | .go _ acc => (acc, 0, 0)
  | .stop c a => ([], c, a)
def eventsR (s : List UInt8) : List Ev × Nat × Nat := if s.length > 65536 then ([], 2, 0) else outE (runE (splitL s))
theorem stop_foldl (ps : List (List UInt8)) (c a : Nat) : ps.foldl stepE (.stop c a) = .stop c a := by
  induction ps with
  | nil => rfl
  | cons p ps ih => exact ih
theorem runE_stop {ps qs : List (List UInt8)} {c a : Nat} (h : runE ps = .stop c a) (hp : ps <+: qs) : runE qs = .stop c a := by
  obtain ⟨t, rfl⟩ := hp
  unfold runE at *
  rw [List.foldl_append, h]
  exact stop_foldl t c a
def frOf (ps : List (List UInt8)) : Nat := (ps.map (fun p => p.length + 1)).sum
theorem fr_split : ∀ s : List UInt8, frOf (splitL s) = s.length + 1
  | [] => rfl
  | c :: r => by
    have ih := fr_split r
    unfold splitL
    split
    · simp only [frOf, List.map_cons, List.sum_cons, List.length_nil] at *
      rw [ih]
      simp
      omega
    · split
      · rename_i h
        exact absurd h (splitL_ne r)
      · rename_i p ps h
        rw [h] at ih
        simp only [frOf, List.map_cons, List.sum_cons, List.length_cons] at *
        omega
theorem frOf_snoc (ps : List (List UInt8)) (p : List UInt8) : frOf (ps ++ [p]) = frOf ps + p.length + 1 := by
  simp [frOf]
  omega
def EvsQ (r : List Ev × Nat × Nat) (w : World) (e : Ending) (w' : World) : Prop :=
  Below w.heap.size w w' ∧ ∃ v2, e = .returned (.tuple #[v2, .agg #[.int .i64 r.2.1, .int .i64 r.2.2]]) ∧ k35.R 35 w' w.heap.size (fun _ => True) v2 r.1
structure EvI (w : World) (n0 : Nat) (pre : List (List UInt8)) (W : World) (acc : List Ev) (vl : Value) : Prop where
  run : runE pre = .go (frOf pre) acc
  len : acc.length ≤ 256
  c2 : W.heap[w.heap.size]? = some (.cells #[.slice none 0 0] 22 (0, 0))
  c3 : W.heap[w.heap.size + 1]? = some (.cells #[.int .i64 0, .int .i64 0] 28 (0, 0))
  c4 : W.heap[w.heap.size + 1 + 1]? = some (.cells #[vl] 22 (0, 0))
  c5 : W.heap[w.heap.size + 1 + 1 + 1]? = some (.cells #[.int .i64 (frOf pre)] 3 (0, 0))
  cp : W.heap[w.heap.size + 1 + 1 + 1 + 1 + 1]? = some (.cells #[.string ⟨#[10]⟩] 9 (0, 0))
  cv : W.heap[w.heap.size + 1 + 1 + 1 + 1 + 1 + 1]? = some (.cells #[.int .i64 0] 3 (0, 0))
  row : k35.R 35 W (n0 + 2) (fun _ => True) vl acc
  bel : Below w.heap.size w W
  size : n0 + 2 ≤ W.heap.size
structure EvX (w : World) (pre : List (List UInt8)) (W : World) (c a : Nat) : Prop where
  run : runE pre = .stop c a
  c2 : W.heap[w.heap.size]? = some (.cells #[.slice none 0 0] 22 (0, 0))
  c3 : W.heap[w.heap.size + 1]? = some (.cells #[.int .i64 c, .int .i64 a] 28 (0, 0))
  bel : Below w.heap.size w W
theorem EvI.move {w : World} {n0 : Nat} {pre : List (List UInt8)} {W W' : World} {acc : List Ev} {vl : Value} (h : EvI w n0 pre W acc vl) (hn : n0 = w.heap.size + 7) (hb : Below w.heap.size W W')
    (hm : ∀ k, k < W.heap.size → k ≠ w.heap.size + 1 + 1 + 1 + 1 → k ≠ n0 → k ≠ n0 + 1 → W'.heap[k]? = W.heap[k]?) : EvI w n0 pre W' acc vl :=
  ⟨h.run, h.len, (hm _ (blk_lt h.c2) (by omega) (by omega) (by omega)).trans h.c2, (hm _ (blk_lt h.c3) (by omega) (by omega) (by omega)).trans h.c3, (hm _ (blk_lt h.c4) (by omega) (by omega) (by omega)).trans h.c4, (hm _ (blk_lt h.c5) (by omega) (by omega) (by omega)).trans h.c5,
    (hm _ (blk_lt h.cp) (by omega) (by omega) (by omega)).trans h.cp, (hm _ (blk_lt h.cv) (by omega) (by omega) (by omega)).trans h.cv,
    Kd.R_mono (Kd.R_move (Kd.R_bound h.row) (fun k hk => hm k hk.2.2.1 (by have := hk.2.1; omega) (by have := hk.2.1; omega) (by have := hk.2.1; omega))) (fun _ _ => trivial), h.bel.trans hb, Nat.le_trans h.size hb.size⟩
theorem blk_lt_any {W : World} {k : Nat} {o : Obj} (h : W.heap[k]? = some o) : k < W.heap.size := (Array.getElem?_eq_some_iff.1 h).1
theorem below_put {W : World} {B k : Nat} {o : Obj} (hk : B ≤ k) : Below B W (W.putObj k o) := ⟨rfl, rfl, rfl, by simp, fun j hj => World.putObj_heap_other (by omega)⟩
theorem EvX.put {w : World} {pre : List (List UInt8)} {W : World} {c a k : Nat} {o : Obj} (h : EvX w pre W c a) (hk : w.heap.size + 7 ≤ k) : EvX w pre (W.putObj k o) c a :=
  ⟨h.run, (World.putObj_heap_other (by omega)).trans h.c2, (World.putObj_heap_other (by omega)).trans h.c3, h.bel.trans (below_put (by omega))⟩
theorem EvI.line {w : World} {n0 : Nat} {pre : List (List UInt8)} {x : List UInt8} {W W' : World} {acc : List Ev} {vl : Value} (h : EvI w n0 pre W acc vl) (hn : n0 = w.heap.size + 7) (hr : runE (pre ++ [x]) = .go (frOf (pre ++ [x])) acc) (hb : Below w.heap.size W W')
    (hm : ∀ k, k < W.heap.size → k ≠ w.heap.size + 1 + 1 + 1 → W'.heap[k]? = W.heap[k]?) (c5 : W'.heap[w.heap.size + 1 + 1 + 1]? = some (.cells #[.int .i64 (frOf (pre ++ [x]))] 3 (0, 0))) : EvI w n0 (pre ++ [x]) W' acc vl :=
  ⟨hr, h.len, (hm _ (blk_lt h.c2) (by omega)).trans h.c2, (hm _ (blk_lt h.c3) (by omega)).trans h.c3, (hm _ (blk_lt h.c4) (by omega)).trans h.c4, c5,
    (hm _ (blk_lt h.cp) (by omega)).trans h.cp, (hm _ (blk_lt h.cv) (by omega)).trans h.cv,
    Kd.R_mono (Kd.R_move (Kd.R_bound h.row) (fun k hk => hm k hk.2.2.1 (by have := hk.2.1; omega))) (fun _ _ => trivial), h.bel.trans hb, Nat.le_trans h.size hb.size⟩
def faultW (w X : World) (c a : Int) : World := ((X.setCell ⟨w.heap.size, 0, none⟩ (.slice none 0 0)).setCell ⟨w.heap.size + 1, 0, none⟩ (.int .i64 c)).setCell ⟨w.heap.size + 1, 1, none⟩ (.int .i64 a)
theorem fault_fin {w : World} {n0 : Nat} {pre : List (List UInt8)} {x : List UInt8} {W X : World} {acc : List Ev} {vl : Value} {c a : Nat} {ci ai : Int} (h : EvI w n0 pre W acc vl) (hn : n0 = w.heap.size + 7) (hX : Below w.heap.size W X) (hm : ∀ k, k < W.heap.size → k ≠ w.heap.size + 1 + 1 + 1 → X.heap[k]? = W.heap[k]?)
    (hr : runE (pre ++ [x]) = .stop c a) (hc : ci = c) (ha : ai = a) : KeepsL n0 (w.heap.size + 1 + 1 + 1 + 1) W (faultW w X ci ai) ∧ ∃ c a, EvX w (pre ++ [x]) (faultW w X ci ai) c a := by
  subst hc
  subst ha
  have hs := h.size
  have far : ∀ k, k ≠ w.heap.size → k ≠ w.heap.size + 1 → (faultW w X c a).heap[k]? = X.heap[k]? := fun k h1 h2 => by
    unfold faultW
    rw [Below.heap_setCell _ ⟨w.heap.size + 1, 1, none⟩ _ k h2, Below.heap_setCell _ ⟨w.heap.size + 1, 0, none⟩ _ k h2, Below.heap_setCell _ ⟨w.heap.size, 0, none⟩ _ k h1]
  have n2 := (hm _ (blk_lt h.c2) (by omega)).trans h.c2
  have n3 := (hm _ (blk_lt h.c3) (by omega)).trans h.c3
  refine ⟨⟨?_, ?_, ?_, ?_⟩, c, a, hr, ?_, ?_, ?_⟩
  · have h1 := hX.size
    have h2 : (faultW w X c a).heap.size = X.heap.size := by simp [faultW]
    omega
  · rw [far _ (by omega) (by omega)]; exact hm _ (by omega) (by omega)
  · rw [far _ (by omega) (by omega)]; exact hm _ (by omega) (by omega)
  · rw [far _ (by omega) (by omega)]; exact hm _ (by omega) (by omega)
  · unfold faultW
    rw [Below.heap_setCell _ ⟨w.heap.size + 1, 1, none⟩ _ _ (by show w.heap.size ≠ w.heap.size + 1; omega), Below.heap_setCell _ ⟨w.heap.size + 1, 0, none⟩ _ _ (by show w.heap.size ≠ w.heap.size + 1; omega)]
    exact Tr.blk_set n2 0 _
  · exact Tr.blk_set (Tr.blk_set ((Below.heap_setCell X ⟨w.heap.size, 0, none⟩ _ _ (by show w.heap.size + 1 ≠ w.heap.size; omega)).trans n3) 0 _) 1 _
  · exact h.bel.trans (((hX.setCell (p := ⟨w.heap.size, 0, none⟩) (by show w.heap.size ≤ w.heap.size; omega) _).setCell (p := ⟨w.heap.size + 1, 0, none⟩) (by show w.heap.size ≤ w.heap.size + 1; omega) _).setCell (p := ⟨w.heap.size + 1, 1, none⟩) (by show w.heap.size ≤ w.heap.size + 1; omega) _)
section
variable {F : Fence} {n : Nat} {P : Program} {ops : Array Oper} {rest : List Oper} {o : Oper} {a : Act} {W : World} {Q : Exit → Act → World → Prop}
theorem gi_dst {N : Tmp} (_hN : o.dst = some N) (h : wpListIn F n P ops Q (o :: rest) a W) : wpListIn F n P ops Q (o :: rest) a W := h
end
theorem res_Events (tmps : Array Value) (w : World) (p q : Nat) (v y z : Value) (h2 : tmps.getD 2 undef = .pointer (some ⟨p, 0, none⟩)) (h3 : tmps.getD 3 undef = .pointer (some ⟨q, 0, none⟩)) (hp : w.heap[p]? = some (.cells #[v] 22 (0, 0))) (hq : w.heap[q]? = some (.cells #[y, z] 28 (0, 0))) :
    (results Tryz.f6 tmps).run Tryz.prog w = .ok (.tuple #[v, .agg #[y, z]]) w := by
  have c0 := blk_cell hp 0
  have d0 := blk_cell hq 0
  have d1 := blk_cell hq 1
  rw [Array.getD_eq_getD_getElem?] at h2 h3
  simp at c0 d0 d1
  simp [results, Tryz.results6, go_sem, h2, h3, c0, d0, d1]
theorem frOf_app (ps qs : List (List UInt8)) : frOf (ps ++ qs) = frOf ps + frOf qs := by simp [frOf]
attribute [local go_sem] Oper.semAt_some
set_option maxRecDepth 100000 in
set_option maxHeartbeats 16000000 in
theorem Events_calls (s : ByteArray) (m : Int) (w : World) (hs : s.size ≤ 1000000000) (hm : w.cell? ⟨2, 0, none⟩ = some (.int .i64 m)) (hlw : ∀ w1, Below w.heap.size w w1 → TE w1) :
    Calls Tryz.prog 6 #[.string s] w (EvsQ (eventsR s.data.toList) w) := by
  have hk23 := Tryz.underlying22
  have HMX := Aside0.mk hm
  have HLW := Aside0.mk hlw
  have HS := Aside0.mk hs
  have hsI : (s.size : Int) ≤ 1000000000 := by omega
  have HSZ := Aside0.mk (show s.data.toList.length = s.size from Array.length_toList)
  clear hm hlw hs
  refine (callsIn_wide (n := 3)).1 ?_
  refine callsIn_of_wp_marks Tryz.func6 rfl trivial ?_ rfl
  simp only [Tryz.ntmps6, List.size_toArray, List.length_cons, List.length_nil, Nat.reduceAdd, Nat.reduceSub, Array.replicate_succ, Array.replicate_zero, List.push_toArray, List.append_toArray, List.nil_append, List.cons_append]
  have hb2 : Below w.heap.size w ((w.alloc (.cells #[.slice none 0 0] 22 (0, 0))).alloc (.cells #[.int .i64 0, .int .i64 0] 28 (0, 0))) := ((Below.refl _ _).alloc (Nat.le_refl _) _).alloc (by simp) _
  by_cases hl : s.size > 65536
  · have q1 : decide ((s.size : Int) > 65536) = true := decide_eq_true (by omega)
    have q1' : decide ((65536 : Int) < (s.size : Int)) = true := decide_eq_true (by omega)
    have HE := Aside0.mk (show eventsR s.data.toList = ([], 2, 0) by unfold eventsR; rw [if_pos (by have := HSZ.out; omega)])
    have HB := Aside0.mk (show Below w.heap.size w ((w.alloc (.cells #[.slice none 0 0] 22 (0, 0))).alloc (.cells #[.int .i64 2, .int .i64 0] 28 (0, 0))) from ((Below.refl _ _).alloc (Nat.le_refl _) _).alloc (by simp) _)
    clear hb2 hl
    gi_wp2
    rw [HE.out]
    have hq3 := blk_new (w.alloc (.cells #[.slice none 0 0] 22 (0, 0))) (.cells #[.int .i64 2, .int .i64 0] 28 (0, 0))
    rw [World.size_alloc] at hq3
    exact ⟨_, res_Events _ _ (w.heap.size) (w.heap.size + 1) _ _ _ rfl rfl (blkA (blk_new w (.cells #[.slice none 0 0] 22 (0, 0))) _) hq3, HB.out, _, rfl, Kd.R_nil _ _ _ _ _⟩
  · have q1 : decide ((s.size : Int) > 65536) = false := decide_eq_false (by omega)
    have q1' : decide ((65536 : Int) < (s.size : Int)) = false := decide_eq_false (by omega)
    have HE := Aside0.mk (show eventsR s.data.toList = outE (runE (splitL s.data.toList)) by unfold eventsR; rw [if_neg (by have := HSZ.out; omega)])
    have HL := Aside0.mk hl
    clear hb2 hl
    gi_wp2_with (refine ⟨trivial, ?_⟩; gi_at_call 17; refine (callsIn_wide.2 (SplitSeq_calls s ⟨#[10]⟩ _)).mono ?_; rintro e w' ⟨rfl, hw⟩; rw [hw]; clear hw; unfold seqW seqV)
    have hs7 : (((((((w.alloc (.cells #[.slice none 0 0] 22 (0, 0))).alloc (.cells #[.int .i64 0, .int .i64 0] 28 (0, 0))).alloc (.cells #[.slice none 0 0] 22 (0, 0))).alloc (.cells #[.int .i64 0] 3 (0, 0))).alloc (.cells #[.string s] 9 (0, 0))).alloc (.cells #[.string ⟨#[10]⟩] 9 (0, 0))).alloc (.cells #[.int .i64 0] 3 (0, 0))).heap.size = w.heap.size + 7 := by simp
    have hb7 : Below w.heap.size w (((((((w.alloc (.cells #[.slice none 0 0] 22 (0, 0))).alloc (.cells #[.int .i64 0, .int .i64 0] 28 (0, 0))).alloc (.cells #[.slice none 0 0] 22 (0, 0))).alloc (.cells #[.int .i64 0] 3 (0, 0))).alloc (.cells #[.string s] 9 (0, 0))).alloc (.cells #[.string ⟨#[10]⟩] 9 (0, 0))).alloc (.cells #[.int .i64 0] 3 (0, 0))) := ((((((((Below.refl w.heap.size w).alloc (Nat.le_refl _) (.cells #[.slice none 0 0] 22 (0, 0))).alloc (by simp) (.cells #[.int .i64 0, .int .i64 0] 28 (0, 0))).alloc (by simp; omega) (.cells #[.slice none 0 0] 22 (0, 0))).alloc (by simp; omega) (.cells #[.int .i64 0] 3 (0, 0))).alloc (by simp; omega) (.cells #[.string s] 9 (0, 0))).alloc (by simp; omega) (.cells #[.string ⟨#[10]⟩] 9 (0, 0))).alloc (by simp; omega) (.cells #[.int .i64 0] 3 (0, 0)))
    have k2 := blkA (blkA (blkA (blkA (blkA (blkA (blk_new w (.cells #[.slice none 0 0] 22 (0, 0))) (.cells #[.int .i64 0, .int .i64 0] 28 (0, 0))) (.cells #[.slice none 0 0] 22 (0, 0))) (.cells #[.int .i64 0] 3 (0, 0))) (.cells #[.string s] 9 (0, 0))) (.cells #[.string ⟨#[10]⟩] 9 (0, 0))) (.cells #[.int .i64 0] 3 (0, 0))
    have k3 := blkA (blkA (blkA (blkA (blkA (blk_new (w.alloc (.cells #[.slice none 0 0] 22 (0, 0))) (.cells #[.int .i64 0, .int .i64 0] 28 (0, 0))) (.cells #[.slice none 0 0] 22 (0, 0))) (.cells #[.int .i64 0] 3 (0, 0))) (.cells #[.string s] 9 (0, 0))) (.cells #[.string ⟨#[10]⟩] 9 (0, 0))) (.cells #[.int .i64 0] 3 (0, 0))
    have k4 := blkA (blkA (blkA (blkA (blk_new ((w.alloc (.cells #[.slice none 0 0] 22 (0, 0))).alloc (.cells #[.int .i64 0, .int .i64 0] 28 (0, 0))) (.cells #[.slice none 0 0] 22 (0, 0))) (.cells #[.int .i64 0] 3 (0, 0))) (.cells #[.string s] 9 (0, 0))) (.cells #[.string ⟨#[10]⟩] 9 (0, 0))) (.cells #[.int .i64 0] 3 (0, 0))
    have k5 := blkA (blkA (blkA (blk_new (((w.alloc (.cells #[.slice none 0 0] 22 (0, 0))).alloc (.cells #[.int .i64 0, .int .i64 0] 28 (0, 0))).alloc (.cells #[.slice none 0 0] 22 (0, 0))) (.cells #[.int .i64 0] 3 (0, 0))) (.cells #[.string s] 9 (0, 0))) (.cells #[.string ⟨#[10]⟩] 9 (0, 0))) (.cells #[.int .i64 0] 3 (0, 0))
    have ks := blkA (blkA (blk_new ((((w.alloc (.cells #[.slice none 0 0] 22 (0, 0))).alloc (.cells #[.int .i64 0, .int .i64 0] 28 (0, 0))).alloc (.cells #[.slice none 0 0] 22 (0, 0))).alloc (.cells #[.int .i64 0] 3 (0, 0))) (.cells #[.string s] 9 (0, 0))) (.cells #[.string ⟨#[10]⟩] 9 (0, 0))) (.cells #[.int .i64 0] 3 (0, 0))
    have kp := blkA (blk_new (((((w.alloc (.cells #[.slice none 0 0] 22 (0, 0))).alloc (.cells #[.int .i64 0, .int .i64 0] 28 (0, 0))).alloc (.cells #[.slice none 0 0] 22 (0, 0))).alloc (.cells #[.int .i64 0] 3 (0, 0))).alloc (.cells #[.string s] 9 (0, 0))) (.cells #[.string ⟨#[10]⟩] 9 (0, 0))) (.cells #[.int .i64 0] 3 (0, 0))
    have kv := blk_new ((((((w.alloc (.cells #[.slice none 0 0] 22 (0, 0))).alloc (.cells #[.int .i64 0, .int .i64 0] 28 (0, 0))).alloc (.cells #[.slice none 0 0] 22 (0, 0))).alloc (.cells #[.int .i64 0] 3 (0, 0))).alloc (.cells #[.string s] 9 (0, 0))).alloc (.cells #[.string ⟨#[10]⟩] 9 (0, 0))) (.cells #[.int .i64 0] 3 (0, 0))
    simp only [World.size_alloc] at k3 k4 k5 ks kp kv
    have K2 := Aside0.mk k2
    have K3 := Aside0.mk k3
    have K4 := Aside0.mk k4
    have K5 := Aside0.mk k5
    have KS := Aside0.mk ks
    have KP := Aside0.mk kp
    have KV := Aside0.mk kv
    have HB7 := Aside0.mk hb7
    have HS7 := Aside0.mk hs7
    clear k2 k3 k4 k5 ks kp kv hb7 hs7
    generalize (((((((w.alloc (.cells #[.slice none 0 0] 22 (0, 0))).alloc (.cells #[.int .i64 0, .int .i64 0] 28 (0, 0))).alloc (.cells #[.slice none 0 0] 22 (0, 0))).alloc (.cells #[.int .i64 0] 3 (0, 0))).alloc (.cells #[.string s] 9 (0, 0))).alloc (.cells #[.string ⟨#[10]⟩] 9 (0, 0))).alloc (.cells #[.int .i64 0] 3 (0, 0))) = X0 at *
    refine range_split (w.heap.size + 1 + 1 + 1 + 1) (w.heap.size + 1 + 1 + 1 + 1 + 1) (w.heap.size + 1 + 1 + 1 + 1 + 1 + 1) rfl rfl m s HS.out KS.out (fun pre W => ∃ acc vl, EvI w X0.heap.size pre W acc vl) (fun pre W => ∃ c a, EvX w pre W c a) ?gm ?gp ?gv ?gi ?gx ?gs ?g0 (fun (x : List UInt8) => { tmps := #[.string s, undef, .pointer (some ⟨w.heap.size, 0, none⟩), .pointer (some ⟨w.heap.size + 1, 0, none⟩), .pointer (some ⟨w.heap.size + 1 + 1, 0, none⟩), .pointer (some ⟨w.heap.size + 1 + 1 + 1, 0, none⟩), .string ⟨x.toArray⟩, undef, undef, undef, undef, undef, .string s, .int .i64 s.size, .bool false, undef, .string s, .func (.func 53) #[] #[.pointer (some ⟨w.heap.size + 1 + 1 + 1 + 1 + 1, 0, none⟩), .pointer (some ⟨w.heap.size + 1 + 1 + 1 + 1, 0, none⟩), .pointer (some ⟨w.heap.size + 1 + 1 + 1 + 1 + 1 + 1, 0, none⟩)], .string ⟨x.toArray⟩, undef, undef, undef, undef, undef, undef, undef, undef, undef, undef, undef, undef, undef, undef, undef, undef, undef, undef, undef, undef, undef, undef, undef, undef, undef, undef, undef, undef, undef, undef, undef, undef, undef, undef, undef, undef, undef, undef, undef, undef, undef, undef, undef, undef], defers := [] }) ?ga ?gb ?gd ?ge
    case gm => rintro pre W ⟨acc, vl, h⟩; exact cell_below' h.bel HMX.out
    case gp => rintro pre W ⟨acc, vl, h⟩; exact h.cp
    case gv => rintro pre W ⟨acc, vl, h⟩; exact h.cv
    case gi => rintro pre W k o h1 h2 ⟨acc, vl, h⟩; exact ⟨acc, vl, h.move HS7.out (below_put (by have := HS7.out; omega)) (fun j hj _ hj0 hj1 => World.putObj_heap_other (by omega))⟩
    case gx => rintro pre W k o h1 h2 ⟨c, a, h⟩; exact ⟨c, a, h.put (by have := HS7.out; omega)⟩
    case gs => rintro pre W v ⟨acc, vl, h⟩; exact ⟨acc, vl, h.move HS7.out ((Below.refl _ _).setCell (p := ⟨w.heap.size + 1 + 1 + 1 + 1, 0, none⟩) (by show w.heap.size ≤ w.heap.size + 1 + 1 + 1 + 1; omega) _) (fun j hj hb _ _ => Below.heap_setCell W ⟨w.heap.size + 1 + 1 + 1 + 1, 0, none⟩ _ j hb)⟩
    case g0 => 
      intro W1 hW hsz
      have hmv : ∀ k o, X0.heap[k]? = some o → W1.heap[k]? = some o := fun k o h => (hW.block k (blk_lt_any h)).trans h
      exact ⟨[], .slice none 0 0, ⟨rfl, by simp, hmv _ _ K2.out, hmv _ _ K3.out, hmv _ _ K4.out, hmv _ _ K5.out, hmv _ _ KP.out, hmv _ _ KV.out, Kd.R_nil _ _ _ _ _, HB7.out.trans (hW.mono HB7.out.size), hsz⟩⟩
    case ga =>
      intro l x W K hK
      gi_wp2
      exact hK
    case gb =>
      rintro pre x rest W hsp ⟨acc, vl, hE⟩ hsz
      obtain ⟨LA, lc, rfl⟩ := Kd.R_slice hE.row
      have hfr := fr_split s.data.toList
      rw [hsp, frOf_app] at hfr
      have hx : frOf pre + x.length ≤ 65536 := by
        have h1 : frOf (x :: rest) = x.length + 1 + frOf rest := rfl
        have h2 := HL.out
        have h3 := HSZ.out
        omega
      clear hfr hsp hsz
      have HX := Aside0.mk hx
      have HEI := Aside0.mk hE
      have e5 := blk_cell hE.c5 0
      have f5 := blk_frozen hE.c5
      have hxs : (ByteArray.mk x.toArray).size = x.length := by simp [ByteArray.size]
      have w1' : wrap64 ((x.length : Int) + 1) = (x.length : Int) + 1 := w64 _ (by omega) (by omega)
      have w2' : wrap64 ((frOf pre : Int) + ((x.length : Int) + 1)) = (frOf pre : Int) + ((x.length : Int) + 1) := w64 _ (by omega) (by omega)
      have hrx := runE_snoc pre x
      rw [hE.run] at hrx
      have HRX := Aside0.mk hrx
      have HNX := Aside0.mk (frOf_snoc pre x)
      have S5 := Aside0.mk (show (W.setCell ⟨w.heap.size + 1 + 1 + 1, 0, none⟩ (.int .i64 ((frOf pre : Int) + ((x.length : Int) + 1)))).heap[w.heap.size + 1 + 1 + 1]? = some (.cells #[.int .i64 ((frOf pre : Int) + ((x.length : Int) + 1))] 3 (0, 0)) from Tr.blk_set hE.c5 0 _)
      have SM := Aside0.mk (fun k (hk : k ≠ w.heap.size + 1 + 1 + 1) => Below.heap_setCell W ⟨w.heap.size + 1 + 1 + 1, 0, none⟩ (.int .i64 ((frOf pre : Int) + ((x.length : Int) + 1))) k hk)
      have SB := Aside0.mk ((Below.refl w.heap.size W).setCell (p := ⟨w.heap.size + 1 + 1 + 1, 0, none⟩) (by show w.heap.size ≤ w.heap.size + 1 + 1 + 1; omega) (.int .i64 ((frOf pre : Int) + ((x.length : Int) + 1))))
      have SZ := Aside0.mk (show (W.setCell ⟨w.heap.size + 1 + 1 + 1, 0, none⟩ (.int .i64 ((frOf pre : Int) + ((x.length : Int) + 1)))).heap.size = W.heap.size by simp)
      clear hE hx hrx
      generalize hfr : frOf pre = fr at *
      have HFR := Aside0.mk hfr
      clear hfr
      have hn := HS7.out
      have HN := Aside0.mk hn
      have hWs := HEI.out.size
      have HWS := Aside0.mk (show w.heap.size + 9 ≤ W.heap.size by omega)
      clear hn hWs
      by_cases hbl : blankL x = true
      · have qb : (Lib.trimS x [32, 9, 13]).isEmpty = true := by rw [List.isEmpty_iff]; exact (trimS_blank x).2 hbl
        gi_wp2_with (refine ⟨trivial, ?_⟩; gi_at_call 18; generalize W.setCell ⟨w.heap.size + 1 + 1 + 1, 0, none⟩ (.int .i64 ((fr : Int) + ((x.length : Int) + 1))) = W2 at *; refine (CallsIn.inRound _ (callsIn_wide.2 (trim_calls ⟨x.toArray⟩ _ (by rw [hxs]; have := HX.out; omega)))).mono ?_; rintro e wt ⟨rfl, hbt⟩)
        have hT : ∀ k, k < W.heap.size → k ≠ w.heap.size + 1 + 1 + 1 → wt.heap[k]? = W.heap[k]? := fun k h1 h2 => (hbt.block k (by rw [SZ.out]; exact h1)).trans (SM.out k h2)
        have t5 := (hbt.block _ (blk_lt S5.out)).trans S5.out
        have hTB := SB.out.trans (hbt.mono (by have h1 := SZ.out; have h2 := HWS.out; omega))
        have hws := HWS.out
        have hn := HN.out
        refine ⟨⟨Nat.le_trans (Nat.le_of_eq SZ.out.symm) hbt.size, hT _ (by omega) (by omega), hT _ (by omega) (by omega), hT _ (by omega) (by omega)⟩, acc, _, HEI.out.line HN.out (by rw [HRX.out, stepE, if_pos hbl, HNX.out]) hTB hT ?_⟩
        rw [HNX.out]
        exact t5.trans (by push_cast; rw [Int.add_assoc])
      · have qb : (Lib.trimS x [32, 9, 13]).isEmpty = false := by
          cases hq : Lib.trimS x [32, 9, 13] with
          | nil => exact absurd ((trimS_blank x).1 hq) hbl
          | cons _ _ => rfl
        gi_wp2_with (refine ⟨trivial, ?_⟩; gi_at_call 18; generalize W.setCell ⟨w.heap.size + 1 + 1 + 1, 0, none⟩ (.int .i64 ((fr : Int) + ((x.length : Int) + 1))) = W2 at *; refine (CallsIn.inRound _ (callsIn_wide.2 (trim_calls ⟨x.toArray⟩ _ (by rw [hxs]; have := HX.out; omega)))).mono ?_; rintro e wt ⟨rfl, hbt⟩)
        have hT : ∀ k, k < W.heap.size → k ≠ w.heap.size + 1 + 1 + 1 → wt.heap[k]? = W.heap[k]? := fun k h1 h2 => (hbt.block k (by rw [SZ.out]; exact h1)).trans (SM.out k h2)
        have HT := Aside0.mk hT
        have T5 := Aside0.mk ((hbt.block _ (blk_lt S5.out)).trans S5.out)
        have HTB := Aside0.mk (SB.out.trans (hbt.mono (by have h1 := SZ.out; have h2 := HWS.out; omega)))
        have HTS := Aside0.mk (show W.heap.size ≤ wt.heap.size from Nat.le_trans (Nat.le_of_eq SZ.out.symm) hbt.size)
        clear hT hbt e5 f5
        refine ⟨trivial, ?_⟩
        have hPC := Parse_calls x wt (fun w1 h1 => HLW.out w1 ((HEI.out.bel.trans HTB.out).trans (h1.mono (by have h2 := HTS.out; have h3 := HWS.out; omega))))
        obtain ⟨v, c, a, hpr⟩ : ∃ v c a, parseR x = (v, c, a) := ⟨_, _, _, rfl⟩
        have HPA := Aside0.mk (parse_cases x v c a hpr)
        have HPR := Aside0.mk hpr
        rw [hpr] at hPC
        unfold ParQ at hPC
        dsimp only at hPC
        clear hpr
        refine (CallsIn.inRound _ (callsIn_wide.2 hPC)).mono ?_
        clear hPC
        rintro e wp ⟨hbp, pv3, pv4, rfl, hp3, hp4⟩
        obtain ⟨P3, q3, rfl⟩ := Kd.R_slice hp3
        obtain ⟨P4, q4, rfl⟩ := Kd.R_slice hp4
        have NV := Aside0.mk (blkA (blk_new wp (.cells #[.int .i64 v.f0, .int .i64 v.f1, .string v.f2, .slice P3 v.f3.length q3, .slice P4 v.f4.length q4] 47 (0, 0))) (.cells #[.int .i64 c, .int .i64 a] 28 (0, 0)))
        have NF := Aside0.mk (show ((wp.alloc (.cells #[.int .i64 v.f0, .int .i64 v.f1, .string v.f2, .slice P3 v.f3.length q3, .slice P4 v.f4.length q4] 47 (0, 0))).alloc (.cells #[.int .i64 c, .int .i64 a] 28 (0, 0))).heap[wp.heap.size + 1]? = some (.cells #[.int .i64 c, .int .i64 a] 28 (0, 0)) by have h := blk_new (wp.alloc (.cells #[.int .i64 v.f0, .int .i64 v.f1, .string v.f2, .slice P3 v.f3.length q3, .slice P4 v.f4.length q4] 47 (0, 0))) (.cells #[.int .i64 c, .int .i64 a] 28 (0, 0)); rwa [World.size_alloc] at h)
        have hX1 : Below wp.heap.size wp ((wp.alloc (.cells #[.int .i64 v.f0, .int .i64 v.f1, .string v.f2, .slice P3 v.f3.length q3, .slice P4 v.f4.length q4] 47 (0, 0))).alloc (.cells #[.int .i64 c, .int .i64 a] 28 (0, 0))) := ((Below.refl _ _).alloc (Nat.le_refl _) _).alloc (by simp) _
        have RP3 := Aside0.mk (Kd.R_below hp3 hX1)
        have RP4 := Aside0.mk (Kd.R_below hp4 hX1)
        have HX1 := Aside0.mk (hbp.trans (hX1.mono hbp.size))
        have hwt : w.heap.size + 9 ≤ wt.heap.size := by have h2 := HTS.out; have h3 := HWS.out; omega
        have hws := HWS.out
        have NR2 := Aside0.mk ((HX1.out.block _ (by omega)).trans ((HT.out _ (by omega) (by omega)).trans HEI.out.c2))
        have NR3 := Aside0.mk ((HX1.out.block _ (by omega)).trans ((HT.out _ (by omega) (by omega)).trans HEI.out.c3))
        have NR4 := Aside0.mk ((HX1.out.block _ (by omega)).trans ((HT.out _ (by omega) (by omega)).trans HEI.out.c4))
        have HWT := Aside0.mk hwt
        have HWP := Aside0.mk hbp.size
        clear hbp hp3 hp4 hX1 hwt hws
        have HM1 : True := trivial
        by_cases hc : c = 0
        · have qc : ((c : Int) != 0) = false := by rw [bne_eq_false_iff_eq]; omega
          have HC0 := Aside0.mk hc
          have HOK := Aside0.mk (show Ok 8 v by
            rcases HPA.out with h | h
            · exact h.2.2
            · exact absurd hc h.1)
          obtain ⟨A3', q3', e3, l3, g3⟩ := Kd.R_reads RP3.out
          cases e3
          obtain ⟨A4', q4', e4, l4, g4⟩ := Kd.R_reads RP4.out
          cases e4
          have HXW := Aside0.mk (show Below w.heap.size W ((wp.alloc (.cells #[.int .i64 v.f0, .int .i64 v.f1, .string v.f2, .slice P3 v.f3.length q3, .slice P4 v.f4.length q4] 47 (0, 0))).alloc (.cells #[.int .i64 c, .int .i64 a] 28 (0, 0))) from HTB.out.trans (HX1.out.mono (by have := HWT.out; omega)))
          have HEV := Aside0.mk (event_calls v P3 q3 P4 q4 m _ HOK.out.f l3 g3 l4 g4 (cell_below' (HEI.out.bel.trans HXW.out) HMX.out))
          unfold vArg at HEV
          clear hc l3 g3 l4 g4
          have HVS : True := trivial
          gi_wp2_with (first | ((with_reducible refine gi_dst (N := 33) rfl ?_); clear HM1; generalize (wp.alloc (.cells #[.int .i64 v.f0, .int .i64 v.f1, .string v.f2, .slice P3 v.f3.length q3, .slice P4 v.f4.length q4] 47 (0, 0))).alloc (.cells #[.int .i64 c, .int .i64 a] 28 (0, 0)) = X1 at *; have g0 := blk_cell NF.out 0; have z0 := blk_cell NV.out 0; have z1 := blk_cell NV.out 1; have z2 := blk_cell NV.out 2; have z3 := blk_cell NV.out 3; have z4 := blk_cell NV.out 4) | fail)
          clear g0 z0 z1 z2 z3 z4
          refine ⟨trivial, ?_⟩
          refine (CallsIn.inRound _ (callsIn_wide.2 HEV.out)).mono ?_
          clear HEV
          rintro e2 we ⟨hbe, xe, ve, rfl, hre, hxe⟩
          obtain ⟨E2, k2, rfl⟩ := Kd.R_slice hre
          have hX2 : Below we.heap.size we (we.alloc (.cells #[.int .i64 xe.f0, .int .i64 xe.f1, .slice E2 xe.f2.length k2] 35 (0, 0))) := (Below.refl _ _).alloc (Nat.le_refl _) _
          have HX2 := Aside0.mk (HX1.out.trans ((hbe.trans (hX2.mono hbe.size)).mono HX1.out.size))
          have HXW2 := Aside0.mk (HXW.out.trans ((hbe.trans (hX2.mono hbe.size)).mono (by have := HX1.out.size; have := HWT.out; omega)))
          have NE := Aside0.mk (blk_new we (.cells #[.int .i64 xe.f0, .int .i64 xe.f1, .slice E2 xe.f2.length k2] 35 (0, 0)))
          have RE := Aside0.mk (Kd.R_below hre hX2)
          have NR2e := Aside0.mk (((hbe.trans (hX2.mono hbe.size)).block _ (blk_lt NR2.out)).trans NR2.out)
          have NR3e := Aside0.mk (((hbe.trans (hX2.mono hbe.size)).block _ (blk_lt NR3.out)).trans NR3.out)
          have NR4e := Aside0.mk (((hbe.trans (hX2.mono hbe.size)).block _ (blk_lt NR4.out)).trans NR4.out)
          have HXE := Aside0.mk (show X1.heap.size ≤ we.heap.size from hbe.size)
          have HXM := Aside0.mk (show ∀ k, k < W.heap.size → k ≠ w.heap.size + 1 + 1 + 1 → (we.alloc (.cells #[.int .i64 xe.f0, .int .i64 xe.f1, .slice E2 xe.f2.length k2] 35 (0, 0))).heap[k]? = W.heap[k]? from fun k h1 h2 => (HX2.out.block k (by have := HTS.out; omega)).trans (HT.out k h1 h2))
          have HM2 : True := trivial
          clear hbe hre hX2
          cases hev : eventR v with
          | none =>
            have HRS := Aside0.mk (show runE (pre ++ [x]) = .stop 20 fr by rw [HRX.out, stepE, if_neg hbl, HPR.out, if_neg (by rw [HC0.out]; exact fun h => h rfl), hev])
            clear hxe hev
            gi_wp2_with (first | ((with_reducible refine gi_dst (N := 49) rfl ?_); clear HM2; generalize we.alloc (.cells #[.int .i64 xe.f0, .int .i64 xe.f1, .slice E2 xe.f2.length k2] 35 (0, 0)) = X2 at *; have r2 := blk_cell NR2e.out 0; have rf2 := blk_frozen NR2e.out; have r3 := blk_cell NR3e.out 0; have r3b := blk_cell NR3e.out 1; have rf3 := blk_frozen NR3e.out) | fail)
            exact fault_fin HEI.out HN.out HXW2.out HXM.out HRS.out rfl rfl
          | some e =>
            have he := hxe e hev
            subst he
            have HEVS := Aside0.mk hev
            clear hxe hev
            by_cases hlen : acc.length = 256
            · have ql : ((acc.length : Int) == 256) = true := by rw [beq_iff_eq]; omega
              have HRS := Aside0.mk (show runE (pre ++ [x]) = .stop 2 fr by rw [HRX.out, stepE, if_neg hbl, HPR.out, if_neg (by rw [HC0.out]; exact fun h => h rfl), HEVS.out]; simp only []; rw [if_pos hlen])
              clear hlen
              gi_wp2_with (first | ((with_reducible refine gi_dst (N := 49) rfl ?_); clear HM2; generalize we.alloc (.cells #[.int .i64 e.f0, .int .i64 e.f1, .slice E2 e.f2.length k2] 35 (0, 0)) = X2 at *; have l4 := blk_cell NR4e.out 0; have r2 := blk_cell NR2e.out 0; have rf2 := blk_frozen NR2e.out; have r3 := blk_cell NR3e.out 0; have r3b := blk_cell NR3e.out 1; have rf3 := blk_frozen NR3e.out) | fail)
              exact fault_fin HEI.out HN.out HXW2.out HXM.out HRS.out rfl rfl
            · have ql : ((acc.length : Int) == 256) = false := by rw [beq_eq_false_iff_ne]; omega
              have HRS := Aside0.mk (show runE (pre ++ [x]) = .go (frOf (pre ++ [x])) (acc ++ [e]) by rw [HRX.out, stepE, if_neg hbl, HPR.out, if_neg (by rw [HC0.out]; exact fun h => h rfl), HEVS.out, HNX.out]; simp only []; rw [if_neg hlen])
              have hla : acc.length < 256 := by have := HEI.out.len; omega
              have HLA := Aside0.mk hla
              clear hlen hla
              have hRt := Kd.R_move (Kd.R_bound HEI.out.row) (fun k hk => HT.out k hk.2.2.1 (by have h1 := hk.2.1; have h2 := HN.out; omega))
              have HOB := Aside0.mk (fun k (hk : (Value.slice LA acc.length lc).ownBlock = some k) => ((Kd.R_bound HEI.out.row).1 k hk).2.2.1)
              have R8 := Aside0.mk (Kd.R_mono (Kd.R_below hRt HX2.out) (fun _ _ => (trivial : True)))
              have HB5x := Aside0.mk ((HX2.out.block _ (blk_lt T5.out)).trans T5.out)
              clear hRt
              have hx0 : X0.heap.size + 2 ≤ we.heap.size := by have := HXE.out; have := HX1.out.size; have := HTS.out; have := HEI.out.size; omega
              have HX0 := Aside0.mk hx0
              clear hx0
              gi_wp2_with (first | ((with_reducible refine gi_dst (N := 49) rfl ?_); clear HM2; generalize we.alloc (.cells #[.int .i64 e.f0, .int .i64 e.f1, .slice E2 e.f2.length k2] 35 (0, 0)) = X2 at *; have l4 := blk_cell NR4e.out 0; have y0 := blk_cell NE.out 0; have y1 := blk_cell NE.out 1; have y2 := blk_cell NE.out 2) | (gi_at_builtin; refine R_appendIn k35 (w0 := X2) (X0.heap.size + 2) rfl (.tmp 57) (.tmp 59) 22 35 (.agg #[.int .i64 0, .int .i64 0, .slice none 0 0]) 40 rfl Tryz.underlying22 info35 rfl (by decide) (by decide) (.slice LA acc.length lc) acc e [.int .i64 e.f0, .int .i64 e.f1, .slice E2 e.f2.length k2] (fun _ => True) (fun k => X1.heap.size ≤ k) rfl (by first | (go_simp; done) | (go_simp; rfl)) ?aP ?aK (fun _ _ => trivial) ?aO ?aB ?aS ?aL ?_; (case aP => exact k35_mkM _ _ _ e (Kd.R_lower (Kd.R_mono (Kd.R_bound RE.out) (fun k hk => hk.2.1)) (by have := HX1.out.size; have := HTS.out; have := HEI.out.size; omega))); (case aK => exact fun k hk => ⟨trivial, fun e => by have h1 := HOB.out k e.symm; have h2 := HX1.out.size; have h3 := HTS.out; omega⟩); (case aO => exact R8.out); (case aB => exact Below.refl _ _); (case aS => have h1 := HX0.out; have h2 := blk_lt NE.out; omega); (case aL => have := HLA.out; omega); intro v1 w1x ho hb1 hg hat; obtain ⟨A1, k1x, hv1⟩ := Kd.R_slice ho; rw [List.length_append, List.length_singleton] at hv1; subst hv1; have HO1 := Aside0.mk ho; have HB1 := Aside0.mk hb1; have N4 := Aside0.mk ((hb1.block _ (by have := HN.out; omega)).trans NR4e.out); clear ho hb1 hg hat l4 y0 y1 y2; have l4 := blk_cell N4.out 0; have lf := blk_frozen N4.out) | fail)
              have hn := HN.out
              have hws := HWS.out
              have hsi := HEI.out.size
              have hZ : ∀ k, k < X0.heap.size + 2 → k ≠ w.heap.size + 1 + 1 → (w1x.setCell ⟨w.heap.size + 1 + 1, 0, none⟩ (.slice A1 (acc.length + 1) k1x)).heap[k]? = X2.heap[k]? := fun k h1 h2 => (Below.heap_setCell w1x ⟨w.heap.size + 1 + 1, 0, none⟩ _ k h2).trans (HB1.out.block k h1)
              have hsz1 := HB1.out.size
              have hsz2 := HX2.out.size
              have hsz3 := HTS.out
              have hszZ : (w1x.setCell ⟨w.heap.size + 1 + 1, 0, none⟩ (.slice A1 (acc.length + 1) k1x)).heap.size = w1x.heap.size := by simp
              refine ⟨⟨by omega, (hZ _ (by omega) (by omega)).trans (HXM.out _ (by omega) (by omega)), (hZ _ (by omega) (by omega)).trans (HXM.out _ (by omega) (by omega)), (hZ _ (by omega) (by omega)).trans (HXM.out _ (by omega) (by omega))⟩, acc ++ [e], _,
                ⟨HRS.out, by rw [List.length_append, List.length_singleton]; have := HLA.out; omega, (hZ _ (by omega) (by omega)).trans NR2e.out, (hZ _ (by omega) (by omega)).trans NR3e.out, Tr.blk_set N4.out 0 _, ?_, (hZ _ (by omega) (by omega)).trans ((HXM.out _ (by omega) (by omega)).trans HEI.out.cp), (hZ _ (by omega) (by omega)).trans ((HXM.out _ (by omega) (by omega)).trans HEI.out.cv),
                  Kd.R_mono (Kd.R_move (Kd.R_bound HO1.out) (fun k hk => Below.heap_setCell w1x ⟨w.heap.size + 1 + 1, 0, none⟩ _ k (by have h1 := hk.2.1; intro e9; have e9' : k = w.heap.size + 1 + 1 := e9; omega))) (fun _ _ => trivial),
                  (HEI.out.bel.trans (HXW2.out.trans (HB1.out.mono (by omega)))).setCell (p := ⟨w.heap.size + 1 + 1, 0, none⟩) (by show w.heap.size ≤ w.heap.size + 1 + 1; omega) _, by omega⟩⟩
              rw [HNX.out]
              exact (hZ _ (by omega) (by omega)).trans (HB5x.out.trans (by push_cast; rw [Int.add_assoc]))
        · have qc : ((c : Int) != 0) = true := bne_iff_ne.2 (by omega)
          have ha : (a : Int) ≤ 1000000 := by
            rcases HPA.out with h | h
            · exact absurd h.1 hc
            · have := h.2.2; have h3 := HX.out; omega
          have w3' : wrap64 ((fr : Int) + (a : Int)) = (fr : Int) + (a : Int) := w64 _ (by omega) (by have := HX.out; omega)
          gi_wp2_with (first | ((with_reducible refine gi_dst (N := 33) rfl ?_); clear HM1; generalize (wp.alloc (.cells #[.int .i64 v.f0, .int .i64 v.f1, .string v.f2, .slice P3 v.f3.length q3, .slice P4 v.f4.length q4] 47 (0, 0))).alloc (.cells #[.int .i64 c, .int .i64 a] 28 (0, 0)) = X1 at *; have g0 := blk_cell NF.out 0; have g1 := blk_cell NF.out 1; have r2 := blk_cell NR2.out 0; have rf2 := blk_frozen NR2.out; have r3 := blk_cell NR3.out 0; have r3b := blk_cell NR3.out 1; have rf3 := blk_frozen NR3.out) | fail)
          have HXM := Aside0.mk (show ∀ k, k < W.heap.size → k ≠ w.heap.size + 1 + 1 + 1 → X1.drew.heap[k]? = W.heap[k]? from fun k h1 h2 => (HX1.out.block k (by have := HTS.out; omega)).trans (HT.out k h1 h2))
          have HXB := Aside0.mk (show Below w.heap.size W X1.drew from HTB.out.trans ((HX1.out.trans (⟨rfl, rfl, rfl, Nat.le_refl _, fun _ _ => rfl⟩ : Below wt.heap.size X1 X1.drew)).mono (by have := HWT.out; omega)))
          have HRS := Aside0.mk (show runE (pre ++ [x]) = .stop c (fr + a) by rw [HRX.out, stepE, if_neg hbl, HPR.out, if_pos hc])
          refine startIn_ (k := 9) (S := (fun w' => w'.cell? ⟨wp.heap.size + 1, 0, none⟩ = some (.int .i64 c) ∧ w'.cell? ⟨wp.heap.size + 1, 1, none⟩ = some (.int .i64 a))) (ds := [8]) #[fF, fF, fF, fF, fF, fF, fF, fF, fF] (by kernel_rfl) rfl rfl (by kernel_rfl) (fun _ _ h => h) ⟨g0, g1⟩ (fun hHeld => ?_)
          refine pure_ (i := 0) (N := some 36) (v := ?_) (a' := ?_) #[tT, fF, fF, fF, fF, fF, fF, fF, fF] rfl rfl (by kernel_rfl) (fun _ _ _ h => h) (Or.inl ⟨by rfl, ?_⟩) ?_ ?_
          rotate_left
          · intro w'
            go_simp
            with_reducible rfl
          rotate_left
          · simp only [Act.put, sA, sZ, sS, i64_w, i32_w]
            rfl
          refine take_ (i := 1) (N := some 37) (v := ?_) (a' := ?_) #[tT, tT, fF, fF, fF, fF, fF, fF, fF] rfl rfl (by kernel_rfl) (fun _ _ _ h => h) (Or.inl ⟨by rfl, ?_⟩) hHeld ?_ ?_
          rotate_left
          · rintro w' ⟨s0, s1⟩
            go_simp
            with_reducible rfl
          rotate_left
          · simp only [Act.put, sA, sZ, sS, i64_w, i32_w]
            rfl
          refine pure_ (i := 2) (N := some 38) (v := ?_) (a' := ?_) #[tT, tT, tT, fF, fF, fF, fF, fF, fF] rfl rfl (by kernel_rfl) (fun _ _ _ h => h) (Or.inl ⟨by rfl, ?_⟩) ?_ ?_
          rotate_left
          · intro w'
            go_simp
            with_reducible rfl
          rotate_left
          · simp only [Act.put, sA, sZ, sS, i64_w, i32_w]
            rfl
          refine pure_ (i := 3) (N := some 39) (v := ?_) (a' := ?_) #[tT, tT, tT, tT, fF, fF, fF, fF, fF] rfl rfl (by kernel_rfl) (fun _ _ _ h => h) (Or.inl ⟨by rfl, ?_⟩) ?_ ?_
          rotate_left
          · intro w'
            go_simp
            with_reducible rfl
          rotate_left
          · simp only [Act.put, sA, sZ, sS, i64_w, i32_w]
            rfl
          refine take_ (i := 4) (N := some 40) (v := ?_) (a' := ?_) #[tT, tT, tT, tT, tT, fF, fF, fF, fF] rfl rfl (by kernel_rfl) (fun _ _ _ h => h) (Or.inl ⟨by rfl, ?_⟩) hHeld ?_ ?_
          rotate_left
          · rintro w' ⟨s0, s1⟩
            go_simp
            with_reducible rfl
          rotate_left
          · simp only [Act.put, sA, sZ, sS, i64_w, i32_w]
            rfl
          refine pure_ (i := 5) (N := some 41) (v := ?_) (a' := ?_) #[tT, tT, tT, tT, tT, tT, fF, fF, fF] rfl rfl (by kernel_rfl) (fun _ _ _ h => h) (Or.inl ⟨by rfl, ?_⟩) ?_ ?_
          rotate_left
          · intro w'
            go_simp
            with_reducible rfl
          rotate_left
          · simp only [Act.put, sA, sZ, sS, i64_w, i32_w]
            rfl
          refine pure_ (i := 6) (N := some 42) (v := ?_) (a' := ?_) #[tT, tT, tT, tT, tT, tT, tT, fF, fF] rfl rfl (by kernel_rfl) (fun _ _ _ h => h) (Or.inl ⟨by rfl, ?_⟩) ?_ ?_
          rotate_left
          · intro w'
            go_simp
            with_reducible rfl
          rotate_left
          · simp only [Act.put, sA, sZ, sS, i64_w, i32_w]
            rfl
          have v2 : X1.drew.cell? ⟨w.heap.size, 0, none⟩ = some (.slice none 0 0) := r2
          have vf2 : ∀ j, X1.drew.frozen? ⟨w.heap.size, j, none⟩ = false := rf2
          have NF' := Aside0.mk (show X1.drew.heap[wp.heap.size + 1]? = some (.cells #[.int .i64 c, .int .i64 a] 28 (0, 0)) from NF.out)
          have NR3' := Aside0.mk (show X1.drew.heap[w.heap.size + 1]? = some (.cells #[.int .i64 0, .int .i64 0] 28 (0, 0)) from NR3.out)
          have hwp : w.heap.size + 9 ≤ wp.heap.size := by have := HWT.out; have := HWP.out; omega
          have HWP2 := Aside0.mk hwp
          clear hwp hHeld
          generalize X1.drew = Xd at *
          refine one_ (i := 7) (N := none) #[tT, tT, tT, tT, tT, tT, tT, tT, fF] rfl rfl (by kernel_rfl) (by decide) (fun K hK => ?_)
          rw [if_pos (by rfl)]
          unfold Oper.wp
          go_simp
          have NF2 := Aside0.mk ((Below.heap_setCell Xd ⟨w.heap.size, 0, none⟩ (.slice none 0 0) (wp.heap.size + 1) (by have := HWP2.out; show wp.heap.size + 1 ≠ w.heap.size; omega)).trans NF'.out)
          have NR5 := Aside0.mk ((Below.heap_setCell Xd ⟨w.heap.size, 0, none⟩ (.slice none 0 0) (w.heap.size + 1) (by show w.heap.size + 1 ≠ w.heap.size; omega)).trans NR3'.out)
          refine hK.out _ _ ⟨blk_cell NF2.out 0, blk_cell NF2.out 1⟩ fun hHeld => ?_
          clear hK K hHeld v2 vf2
          have HFW := Aside0.mk (show ∀ c a : Int, faultW w Xd c a = ((Xd.setCell ⟨w.heap.size, 0, none⟩ (.slice none 0 0)).setCell ⟨w.heap.size + 1, 0, none⟩ (.int .i64 c)).setCell ⟨w.heap.size + 1, 1, none⟩ (.int .i64 a) from fun _ _ => rfl)
          generalize Xd.setCell ⟨w.heap.size, 0, none⟩ (.slice none 0 0) = Xe at *
          have v3 := blk_cell NR5.out 0
          have v3b := blk_cell NR5.out 1
          have vf3 := blk_frozen NR5.out
          refine last_ (i := 8) (N := none) #[tT, tT, tT, tT, tT, tT, tT, tT, tT] rfl rfl (by kernel_rfl) (by decide) (fun K hK => ?_)
          rw [if_pos (by rfl)]
          unfold Oper.wp
          go_simp
          refine hK.out _ _ ?_
          clear hK K v3 v3b vf3
          refine done_ (by kernel_rfl) ?_
          rw [← HFW.out]
          gi_wp2
          exact fault_fin HEI.out HN.out HXB.out HXM.out HRS.out rfl (by push_cast; rfl)
    case gd =>
      rintro W ⟨acc, vl, hE⟩ hD
      obtain ⟨LA, lc, rfl⟩ := Kd.R_slice hE.row
      have HOU := Aside0.mk (show eventsR s.data.toList = (acc, 0, 0) by rw [HE.out, hE.run]; rfl)
      have HEI := Aside0.mk hE
      have HD := Aside0.mk hD
      have l4 := blk_cell hE.c4 0
      have r2 := blk_cell hE.c2 0
      have rf2 := blk_frozen hE.c2
      have r3 := blk_cell hE.c3 0
      have r3b := blk_cell hE.c3 1
      have rf3 := blk_frozen hE.c3
      clear hE hD
      gi_wp2
      have hn := HS7.out
      have HZ := Aside0.mk (show ∀ k, k ≠ w.heap.size → k ≠ w.heap.size + 1 → ((((W.setCell ⟨w.heap.size, 0, none⟩ (.slice LA acc.length lc)).setCell ⟨w.heap.size + 1, 0, none⟩ (.int .i64 0)).setCell ⟨w.heap.size + 1, 1, none⟩ (.int .i64 0)).heap[k]? = W.heap[k]?) from fun k h1 h2 => by
        rw [Below.heap_setCell _ ⟨w.heap.size + 1, 1, none⟩ _ k h2, Below.heap_setCell _ ⟨w.heap.size + 1, 0, none⟩ _ k h2, Below.heap_setCell _ ⟨w.heap.size, 0, none⟩ _ k h1])
      have N2 := Aside0.mk (show (((W.setCell ⟨w.heap.size, 0, none⟩ (.slice LA acc.length lc)).setCell ⟨w.heap.size + 1, 0, none⟩ (.int .i64 0)).setCell ⟨w.heap.size + 1, 1, none⟩ (.int .i64 0)).heap[w.heap.size]? = some (.cells #[.slice LA acc.length lc] 22 (0, 0)) by
        rw [Below.heap_setCell _ ⟨w.heap.size + 1, 1, none⟩ _ _ (by show w.heap.size ≠ w.heap.size + 1; omega), Below.heap_setCell _ ⟨w.heap.size + 1, 0, none⟩ _ _ (by show w.heap.size ≠ w.heap.size + 1; omega)]
        exact Tr.blk_set HEI.out.c2 0 _)
      have N3 := Aside0.mk (show (((W.setCell ⟨w.heap.size, 0, none⟩ (.slice LA acc.length lc)).setCell ⟨w.heap.size + 1, 0, none⟩ (.int .i64 0)).setCell ⟨w.heap.size + 1, 1, none⟩ (.int .i64 0)).heap[w.heap.size + 1]? = some (.cells #[.int .i64 0, .int .i64 0] 28 (0, 0)) from Tr.blk_set (Tr.blk_set ((Below.heap_setCell W ⟨w.heap.size, 0, none⟩ _ _ (by show w.heap.size + 1 ≠ w.heap.size; omega)).trans HEI.out.c3) 0 _) 1 _)
      have NB := Aside0.mk (((HEI.out.bel.setCell (p := ⟨w.heap.size, 0, none⟩) (by show w.heap.size ≤ w.heap.size; omega) (.slice LA acc.length lc)).setCell (p := ⟨w.heap.size + 1, 0, none⟩) (by show w.heap.size ≤ w.heap.size + 1; omega) (.int .i64 0)).setCell (p := ⟨w.heap.size + 1, 1, none⟩) (by show w.heap.size ≤ w.heap.size + 1; omega) (.int .i64 0))
      generalize ((W.setCell ⟨w.heap.size, 0, none⟩ (.slice LA acc.length lc)).setCell ⟨w.heap.size + 1, 0, none⟩ (.int .i64 0)).setCell ⟨w.heap.size + 1, 1, none⟩ (.int .i64 0) = Z at *
      refine ⟨by simp, .inl ⟨_, _, rfl, run_takeDeferred ((HZ.out _ (by omega) (by omega)).trans HD.out), ?_⟩⟩
      rw [HOU.out]
      exact ⟨_, res_Events _ _ (w.heap.size) (w.heap.size + 1) _ _ _ rfl rfl ((World.putObj_heap_other (by omega)).trans N2.out) ((World.putObj_heap_other (by omega)).trans N3.out), NB.out.trans (below_put (by omega)), _, rfl,
        Kd.R_mono (Kd.R_lower (Kd.R_move (Kd.R_bound HEI.out.row) (fun k hk => (World.putObj_heap_other (by have h1 := hk.2.1; omega)).trans (HZ.out k (by have h1 := hk.2.1; omega) (by have h1 := hk.2.1; omega)))) (by omega)) (fun _ _ => trivial)⟩
    case ge =>
      rintro pre W hpre ⟨c, a, hX⟩ hD
      have HOU := Aside0.mk (show eventsR s.data.toList = ([], c, a) by rw [HE.out, runE_stop hX.run hpre]; rfl)
      have HEX := Aside0.mk hX
      have HD := Aside0.mk hD
      clear hX hD
      gi_wp2
      have hn := HS7.out
      refine ⟨by simp, .inl ⟨_, _, rfl, run_takeDeferred HD.out, ?_⟩⟩
      rw [HOU.out]
      exact ⟨_, res_Events _ _ (w.heap.size) (w.heap.size + 1) _ _ _ rfl rfl ((World.putObj_heap_other (by omega)).trans HEX.out.c2) ((World.putObj_heap_other (by omega)).trans HEX.out.c3), HEX.out.bel.trans (below_put (by omega)), _, rfl, Kd.R_nil _ _ _ _ _⟩
end Go.Proofs.YtamcicojockhpabGreatDoor.Wi
end
section
set_option linter.unusedVariables false
set_option linter.unusedSimpArgs false
namespace Go.Proofs.YtamcicojockhpabGreatDoor.Wi
open Go.RowKit Go.Proofs.YtamcicojockhpabGreatDoorW.PrintWords Go.Proofs.YtamcicojockhpabGreatDoorW.PrintLast Go.Proofs.YtamcicojockhpabGreatDoorW.PrintMore
open Go.Proofs.YtamcicojockhpabGreatDoor.Lx Go.Proofs.YtamcicojockhpabGreatDoor.PS Go.Proofs.YtamcicojockhpabGreatDoor.Tr
set_option maxRecDepth 100000 in
set_option maxHeartbeats 2000000 in
theorem SameVals_eq (l : List Int) (A B : Option Addr) (c d : Nat) (w : World) (hl : l.length ≤ 1000000000000) (ga : (Kd.int .i64).C w A l.length l) (gb : (Kd.int .i64).C w B l.length l) :
    Calls Tryz.prog 42 #[.slice A l.length c, .slice B l.length d] w fun e w' => e = .returned (.bool true) ∧ Below w.heap.size w w' := by
  have HA := Aside0.mk ga
  have HB := Aside0.mk gb
  have HL := Aside0.mk hl
  have hlI : (l.length : Int) ≤ 1000000000000 := by omega
  clear ga gb hl
  go_enter Tryz.func42, Tryz.ntmps42
  go_wp2
  go_loopg [5] l.length (fun kq v5 w2 => ∃ k : Nat, k + kq = l.length ∧ v5 = .int .i64 k ∧ Aside0 (Below w.heap.size w w2))
  case atStart => exact ⟨0, by omega, rfl, Aside0.mk (Below.refl _ _)⟩
  case round =>
    obtain ⟨k, hk, rfl, HBW⟩ := hrel
    cases gk with
    | zero =>
      have hge : ¬ ((k : Nat) : Int) < (l.length : Int) := by omega
      go_wp2
      go_ret
      exact ⟨rfl, HBW.out⟩
    | succ k1 =>
      have hlt : ((k : Nat) : Int) < (l.length : Int) := by omega
      have hlt' : k < l.length := by omega
      obtain ⟨ad, e, r0⟩ := Kd.at_int (Kd.C_below HA.out HBW.out) (k : Int) (by omega) (by omega)
      cases e
      obtain ⟨bd, e, t0⟩ := Kd.at_int (Kd.C_below HB.out HBW.out) (k : Int) (by omega) (by omega)
      cases e
      have hrd : rd l (k : Int) = l[k] := by simp [rd, List.getD, List.getElem?_eq_getElem hlt']
      rw [hrd, Int.toNat_natCast] at r0 t0
      clear hrd
      generalize l[k] = x at *
      have hk9 : (k : Int) ≤ 1000000000000 := by omega
      go_wp2
      go_quiet (fail)
      go_wp2
      go_roundg k1
      case measure => omega
      case rel => exact ⟨k + 1, by omega, by go_num, Aside0.mk (pw_below_drewN HBW.out _)⟩
set_option maxRecDepth 100000 in
set_option maxHeartbeats 8000000 in
theorem SameCalls_eq (l : List Cl) (A B : Option Addr) (c d : Nat) (w : World) (hl : l.length ≤ 1000000000000) (hf : ∀ x ∈ l, x.f4.length ≤ 1000000000000) (ga : k38.C w A l.length l) (gb : k38.C w B l.length l) :
    Calls Tryz.prog 21 #[.slice A l.length c, .slice B l.length d] w fun e w' => e = .returned (.bool true) ∧ Below w.heap.size w w' := by
  have HA := Aside0.mk ga
  have HB := Aside0.mk gb
  have HL := Aside0.mk hl
  have HF := Aside0.mk hf
  have hlI : (l.length : Int) ≤ 1000000000000 := by omega
  clear ga gb hl hf
  go_enter Tryz.func21, Tryz.ntmps21
  go_wp2
  go_loopg [5] l.length (fun kq v5 w2 => ∃ k : Nat, k + kq = l.length ∧ v5 = .int .i64 k ∧ Aside0 (Below w.heap.size w w2))
  case atStart => exact ⟨0, by omega, rfl, Aside0.mk (Below.refl _ _)⟩
  case round =>
    obtain ⟨k, hk, rfl, HBW⟩ := hrel
    cases gk with
    | zero =>
      have hge : ¬ ((k : Nat) : Int) < (l.length : Int) := by omega
      go_wp2
      go_ret
      exact ⟨rfl, HBW.out⟩
    | succ k1 =>
      have hlt : ((k : Nat) : Int) < (l.length : Int) := by omega
      have hlt' : k < l.length := by omega
      have HFX := Aside0.mk (HF.out _ (List.getElem_mem hlt'))
      obtain ⟨ad, A4, c4, e, r0, r1, r2, r3, r4, l4, g4⟩ := at_T38 (Kd.C_below HA.out HBW.out) k (by omega) hlt
      cases e
      obtain ⟨bd, B4, d4, e, t0, t1, t2, t3, t4, m4, q4⟩ := at_T38 (Kd.C_below HB.out HBW.out) k (by omega) hlt
      cases e
      have hrd : rd_T38 l k = l[k] := by simp [rd_T38, List.getD, List.getElem?_eq_getElem hlt']
      rw [hrd] at r0 r1 r2 r3 r4 g4 t0 t1 t2 t3 t4 q4
      rw [Int.toNat_natCast] at r0 r1 r2 r3 r4 t0 t1 t2 t3 t4
      have HG4 := Aside0.mk (And.intro g4 q4)
      clear hrd l4 m4 g4 q4
      generalize l[k] = x at *
      have hk9 : (k : Int) ≤ 1000000000000 := by omega
      go_wp2
      have hdr : Below wr.heap.size wr wr.drew := ⟨rfl, rfl, rfl, Nat.le_refl _, fun _ _ => rfl⟩
      have HDR := Aside0.mk hdr
      have HSS := fun w' (hb : Below wr.drew.heap.size wr.drew w') => (show (fun w' => w'.cell? (ad.add (k * 5)) = some (.int .i64 x.f0) ∧ w'.cell? (⟨(ad.add (k * 5)).block, (ad.add (k * 5)).off + 1, none⟩) = some (.string x.f1) ∧ w'.cell? (⟨(ad.add (k * 5)).block, (ad.add (k * 5)).off + 2, none⟩) = some (.int .i64 x.f2) ∧ w'.cell? (⟨(ad.add (k * 5)).block, (ad.add (k * 5)).off + 3, none⟩) = some (.bool x.f3) ∧ w'.cell? (⟨(ad.add (k * 5)).block, (ad.add (k * 5)).off + 4, none⟩) = some (.slice A4 x.f4.length c4) ∧ w'.cell? (bd.add (k * 5)) = some (.int .i64 x.f0) ∧ w'.cell? (⟨(bd.add (k * 5)).block, (bd.add (k * 5)).off + 1, none⟩) = some (.string x.f1) ∧ w'.cell? (⟨(bd.add (k * 5)).block, (bd.add (k * 5)).off + 2, none⟩) = some (.int .i64 x.f2) ∧ w'.cell? (⟨(bd.add (k * 5)).block, (bd.add (k * 5)).off + 3, none⟩) = some (.bool x.f3) ∧ w'.cell? (⟨(bd.add (k * 5)).block, (bd.add (k * 5)).off + 4, none⟩) = some (.slice B4 x.f4.length d4) ∧ Below wr.drew.heap.size wr.drew w') w' from ⟨cell_below' hb (cell_below' hdr r0), cell_below' hb (cell_below' hdr r1), cell_below' hb (cell_below' hdr r2), cell_below' hb (cell_below' hdr r3), cell_below' hb (cell_below' hdr r4), cell_below' hb (cell_below' hdr t0), cell_below' hb (cell_below' hdr t1), cell_below' hb (cell_below' hdr t2), cell_below' hb (cell_below' hdr t3), cell_below' hb (cell_below' hdr t4), hb⟩)
      refine start_ (n := 64) (S := (fun w' => w'.cell? (ad.add (k * 5)) = some (.int .i64 x.f0) ∧ w'.cell? (⟨(ad.add (k * 5)).block, (ad.add (k * 5)).off + 1, none⟩) = some (.string x.f1) ∧ w'.cell? (⟨(ad.add (k * 5)).block, (ad.add (k * 5)).off + 2, none⟩) = some (.int .i64 x.f2) ∧ w'.cell? (⟨(ad.add (k * 5)).block, (ad.add (k * 5)).off + 3, none⟩) = some (.bool x.f3) ∧ w'.cell? (⟨(ad.add (k * 5)).block, (ad.add (k * 5)).off + 4, none⟩) = some (.slice A4 x.f4.length c4) ∧ w'.cell? (bd.add (k * 5)) = some (.int .i64 x.f0) ∧ w'.cell? (⟨(bd.add (k * 5)).block, (bd.add (k * 5)).off + 1, none⟩) = some (.string x.f1) ∧ w'.cell? (⟨(bd.add (k * 5)).block, (bd.add (k * 5)).off + 2, none⟩) = some (.int .i64 x.f2) ∧ w'.cell? (⟨(bd.add (k * 5)).block, (bd.add (k * 5)).off + 3, none⟩) = some (.bool x.f3) ∧ w'.cell? (⟨(bd.add (k * 5)).block, (bd.add (k * 5)).off + 4, none⟩) = some (.slice B4 x.f4.length d4) ∧ Below wr.drew.heap.size wr.drew w')) (ds := []) #[fF, fF, fF, fF, fF, fF, fF, fF, fF, fF, fF, fF, fF, fF, fF, fF, fF, fF, fF, fF, fF, fF, fF, fF, fF, fF, fF, fF, fF, fF, fF, fF, fF, fF, fF, fF, fF, fF, fF, fF, fF, fF, fF, fF, fF, fF, fF, fF, fF, fF, fF, fF, fF, fF, fF, fF, fF, fF, fF, fF, fF, fF, fF, fF] (by kernel_rfl) rfl rfl ⟨r0, r1, r2, r3, r4, t0, t1, t2, t3, t4, Below.refl _ _⟩ (fun hHeld => ?_)
      refine pure_ (i := 0) (N := some 17) (v := ?_) (a' := ?_) #[tT, fF, fF, fF, fF, fF, fF, fF, fF, fF, fF, fF, fF, fF, fF, fF, fF, fF, fF, fF, fF, fF, fF, fF, fF, fF, fF, fF, fF, fF, fF, fF, fF, fF, fF, fF, fF, fF, fF, fF, fF, fF, fF, fF, fF, fF, fF, fF, fF, fF, fF, fF, fF, fF, fF, fF, fF, fF, fF, fF, fF, fF, fF, fF] rfl rfl (by kernel_rfl) (fun _ _ _ h => h) (Or.inl ⟨by rfl, ?_⟩) ?_ ?_
      rotate_left
      · intro w'
        go_simp
        with_reducible rfl
      rotate_left
      · simp only [Act.put, sA, sZ, sS, i64_w, i32_w]
        rfl
      refine pure_ (i := 1) (N := some 18) (v := ?_) (a' := ?_) #[tT, tT, fF, fF, fF, fF, fF, fF, fF, fF, fF, fF, fF, fF, fF, fF, fF, fF, fF, fF, fF, fF, fF, fF, fF, fF, fF, fF, fF, fF, fF, fF, fF, fF, fF, fF, fF, fF, fF, fF, fF, fF, fF, fF, fF, fF, fF, fF, fF, fF, fF, fF, fF, fF, fF, fF, fF, fF, fF, fF, fF, fF, fF, fF] rfl rfl (by kernel_rfl) (fun _ _ _ h => h) (Or.inl ⟨by rfl, ?_⟩) ?_ ?_
      rotate_left
      · intro w'
        go_simp
        with_reducible rfl
      rotate_left
      · simp only [Act.put, sA, sZ, sS, i64_w, i32_w]
        rfl
      refine pure_ (i := 2) (N := some 19) (v := ?_) (a' := ?_) #[tT, tT, tT, fF, fF, fF, fF, fF, fF, fF, fF, fF, fF, fF, fF, fF, fF, fF, fF, fF, fF, fF, fF, fF, fF, fF, fF, fF, fF, fF, fF, fF, fF, fF, fF, fF, fF, fF, fF, fF, fF, fF, fF, fF, fF, fF, fF, fF, fF, fF, fF, fF, fF, fF, fF, fF, fF, fF, fF, fF, fF, fF, fF, fF] rfl rfl (by kernel_rfl) (fun _ _ _ h => h) (Or.inl ⟨by rfl, ?_⟩) ?_ ?_
      rotate_left
      · intro w'
        go_simp
        with_reducible rfl
      rotate_left
      · simp only [Act.put, sA, sZ, sS, i64_w, i32_w]
        rfl
      refine pure_ (i := 3) (N := some 20) (v := ?_) (a' := ?_) #[tT, tT, tT, tT, fF, fF, fF, fF, fF, fF, fF, fF, fF, fF, fF, fF, fF, fF, fF, fF, fF, fF, fF, fF, fF, fF, fF, fF, fF, fF, fF, fF, fF, fF, fF, fF, fF, fF, fF, fF, fF, fF, fF, fF, fF, fF, fF, fF, fF, fF, fF, fF, fF, fF, fF, fF, fF, fF, fF, fF, fF, fF, fF, fF] rfl rfl (by kernel_rfl) (fun _ _ _ h => h) (Or.inl ⟨by rfl, ?_⟩) ?_ ?_
      rotate_left
      · intro w'
        go_simp
        with_reducible rfl
      rotate_left
      · simp only [Act.put, sA, sZ, sS, i64_w, i32_w]
        rfl
      refine take_ (i := 4) (N := some 21) (v := ?_) (a' := ?_) #[tT, tT, tT, tT, tT, fF, fF, fF, fF, fF, fF, fF, fF, fF, fF, fF, fF, fF, fF, fF, fF, fF, fF, fF, fF, fF, fF, fF, fF, fF, fF, fF, fF, fF, fF, fF, fF, fF, fF, fF, fF, fF, fF, fF, fF, fF, fF, fF, fF, fF, fF, fF, fF, fF, fF, fF, fF, fF, fF, fF, fF, fF, fF, fF] rfl rfl (by kernel_rfl) (fun _ _ _ h => h) (Or.inl ⟨by rfl, ?_⟩) hHeld ?_ ?_
      rotate_left
      · rintro w' ⟨s0, s1, s2, s3, s4, s5, s6, s7, s8, s9, _⟩
        go_simp
        with_reducible rfl
      rotate_left
      · simp only [Act.put, sA, sZ, sS, i64_w, i32_w]
        rfl
      refine pure_ (i := 5) (N := some 22) (v := ?_) (a' := ?_) #[tT, tT, tT, tT, tT, tT, fF, fF, fF, fF, fF, fF, fF, fF, fF, fF, fF, fF, fF, fF, fF, fF, fF, fF, fF, fF, fF, fF, fF, fF, fF, fF, fF, fF, fF, fF, fF, fF, fF, fF, fF, fF, fF, fF, fF, fF, fF, fF, fF, fF, fF, fF, fF, fF, fF, fF, fF, fF, fF, fF, fF, fF, fF, fF] rfl rfl (by kernel_rfl) (fun _ _ _ h => h) (Or.inl ⟨by rfl, ?_⟩) ?_ ?_
      rotate_left
      · intro w'
        go_simp
        with_reducible rfl
      rotate_left
      · simp only [Act.put, sA, sZ, sS, i64_w, i32_w]
        rfl
      refine pure_ (i := 6) (N := some 23) (v := ?_) (a' := ?_) #[tT, tT, tT, tT, tT, tT, tT, fF, fF, fF, fF, fF, fF, fF, fF, fF, fF, fF, fF, fF, fF, fF, fF, fF, fF, fF, fF, fF, fF, fF, fF, fF, fF, fF, fF, fF, fF, fF, fF, fF, fF, fF, fF, fF, fF, fF, fF, fF, fF, fF, fF, fF, fF, fF, fF, fF, fF, fF, fF, fF, fF, fF, fF, fF] rfl rfl (by kernel_rfl) (fun _ _ _ h => h) (Or.inl ⟨by rfl, ?_⟩) ?_ ?_
      rotate_left
      · intro w'
        go_simp
        with_reducible rfl
      rotate_left
      · simp only [Act.put, sA, sZ, sS, i64_w, i32_w]
        rfl
      refine pure_ (i := 7) (N := some 24) (v := ?_) (a' := ?_) #[tT, tT, tT, tT, tT, tT, tT, tT, fF, fF, fF, fF, fF, fF, fF, fF, fF, fF, fF, fF, fF, fF, fF, fF, fF, fF, fF, fF, fF, fF, fF, fF, fF, fF, fF, fF, fF, fF, fF, fF, fF, fF, fF, fF, fF, fF, fF, fF, fF, fF, fF, fF, fF, fF, fF, fF, fF, fF, fF, fF, fF, fF, fF, fF] rfl rfl (by kernel_rfl) (fun _ _ _ h => h) (Or.inl ⟨by rfl, ?_⟩) ?_ ?_
      rotate_left
      · intro w'
        go_simp
        with_reducible rfl
      rotate_left
      · simp only [Act.put, sA, sZ, sS, i64_w, i32_w]
        rfl
      refine pure_ (i := 8) (N := some 25) (v := ?_) (a' := ?_) #[tT, tT, tT, tT, tT, tT, tT, tT, tT, fF, fF, fF, fF, fF, fF, fF, fF, fF, fF, fF, fF, fF, fF, fF, fF, fF, fF, fF, fF, fF, fF, fF, fF, fF, fF, fF, fF, fF, fF, fF, fF, fF, fF, fF, fF, fF, fF, fF, fF, fF, fF, fF, fF, fF, fF, fF, fF, fF, fF, fF, fF, fF, fF, fF] rfl rfl (by kernel_rfl) (fun _ _ _ h => h) (Or.inl ⟨by rfl, ?_⟩) ?_ ?_
      rotate_left
      · intro w'
        go_simp
        with_reducible rfl
      rotate_left
      · simp only [Act.put, sA, sZ, sS, i64_w, i32_w]
        rfl
      refine take_ (i := 9) (N := some 26) (v := ?_) (a' := ?_) #[tT, tT, tT, tT, tT, tT, tT, tT, tT, tT, fF, fF, fF, fF, fF, fF, fF, fF, fF, fF, fF, fF, fF, fF, fF, fF, fF, fF, fF, fF, fF, fF, fF, fF, fF, fF, fF, fF, fF, fF, fF, fF, fF, fF, fF, fF, fF, fF, fF, fF, fF, fF, fF, fF, fF, fF, fF, fF, fF, fF, fF, fF, fF, fF] rfl rfl (by kernel_rfl) (fun _ _ _ h => h) (Or.inl ⟨by rfl, ?_⟩) hHeld ?_ ?_
      rotate_left
      · rintro w' ⟨s0, s1, s2, s3, s4, s5, s6, s7, s8, s9, _⟩
        go_simp
        with_reducible rfl
      rotate_left
      · simp only [Act.put, sA, sZ, sS, i64_w, i32_w]
        rfl
      refine pure_ (i := 10) (N := some 27) (v := ?_) (a' := ?_) #[tT, tT, tT, tT, tT, tT, tT, tT, tT, tT, tT, fF, fF, fF, fF, fF, fF, fF, fF, fF, fF, fF, fF, fF, fF, fF, fF, fF, fF, fF, fF, fF, fF, fF, fF, fF, fF, fF, fF, fF, fF, fF, fF, fF, fF, fF, fF, fF, fF, fF, fF, fF, fF, fF, fF, fF, fF, fF, fF, fF, fF, fF, fF, fF] rfl rfl (by kernel_rfl) (fun _ _ _ h => h) (Or.inl ⟨by rfl, ?_⟩) ?_ ?_
      rotate_left
      · intro w'
        go_simp
        with_reducible rfl
      rotate_left
      · simp only [Act.put, sA, sZ, sS, i64_w, i32_w]
        rfl
      refine pure_ (i := 11) (N := some 28) (v := ?_) (a' := ?_) #[tT, tT, tT, tT, tT, tT, tT, tT, tT, tT, tT, tT, fF, fF, fF, fF, fF, fF, fF, fF, fF, fF, fF, fF, fF, fF, fF, fF, fF, fF, fF, fF, fF, fF, fF, fF, fF, fF, fF, fF, fF, fF, fF, fF, fF, fF, fF, fF, fF, fF, fF, fF, fF, fF, fF, fF, fF, fF, fF, fF, fF, fF, fF, fF] rfl rfl (by kernel_rfl) (fun _ _ _ h => h) (Or.inl ⟨by rfl, ?_⟩) ?_ ?_
      rotate_left
      · intro w'
        go_simp
        with_reducible rfl
      rotate_left
      · simp only [Act.put, sA, sZ, sS, i64_w, i32_w]
        rfl
      refine pure_ (i := 12) (N := some 29) (v := ?_) (a' := ?_) #[tT, tT, tT, tT, tT, tT, tT, tT, tT, tT, tT, tT, tT, fF, fF, fF, fF, fF, fF, fF, fF, fF, fF, fF, fF, fF, fF, fF, fF, fF, fF, fF, fF, fF, fF, fF, fF, fF, fF, fF, fF, fF, fF, fF, fF, fF, fF, fF, fF, fF, fF, fF, fF, fF, fF, fF, fF, fF, fF, fF, fF, fF, fF, fF] rfl rfl (by kernel_rfl) (fun _ _ _ h => h) (Or.inl ⟨by rfl, ?_⟩) ?_ ?_
      rotate_left
      · intro w'
        go_simp
        with_reducible rfl
      rotate_left
      · simp only [Act.put, sA, sZ, sS, i64_w, i32_w]
        rfl
      refine pure_ (i := 13) (N := some 30) (v := ?_) (a' := ?_) #[tT, tT, tT, tT, tT, tT, tT, tT, tT, tT, tT, tT, tT, tT, fF, fF, fF, fF, fF, fF, fF, fF, fF, fF, fF, fF, fF, fF, fF, fF, fF, fF, fF, fF, fF, fF, fF, fF, fF, fF, fF, fF, fF, fF, fF, fF, fF, fF, fF, fF, fF, fF, fF, fF, fF, fF, fF, fF, fF, fF, fF, fF, fF, fF] rfl rfl (by kernel_rfl) (fun _ _ _ h => h) (Or.inl ⟨by rfl, ?_⟩) ?_ ?_
      rotate_left
      · intro w'
        go_simp
        with_reducible rfl
      rotate_left
      · simp only [Act.put, sA, sZ, sS, i64_w, i32_w]
        rfl
      refine pure_ (i := 14) (N := some 31) (v := ?_) (a' := ?_) #[tT, tT, tT, tT, tT, tT, tT, tT, tT, tT, tT, tT, tT, tT, tT, fF, fF, fF, fF, fF, fF, fF, fF, fF, fF, fF, fF, fF, fF, fF, fF, fF, fF, fF, fF, fF, fF, fF, fF, fF, fF, fF, fF, fF, fF, fF, fF, fF, fF, fF, fF, fF, fF, fF, fF, fF, fF, fF, fF, fF, fF, fF, fF, fF] rfl rfl (by kernel_rfl) (fun _ _ _ h => h) (Or.inl ⟨by rfl, ?_⟩) ?_ ?_
      rotate_left
      · intro w'
        go_simp
        with_reducible rfl
      rotate_left
      · simp only [Act.put, sA, sZ, sS, i64_w, i32_w]
        rfl
      refine pure_ (i := 15) (N := some 32) (v := ?_) (a' := ?_) #[tT, tT, tT, tT, tT, tT, tT, tT, tT, tT, tT, tT, tT, tT, tT, tT, fF, fF, fF, fF, fF, fF, fF, fF, fF, fF, fF, fF, fF, fF, fF, fF, fF, fF, fF, fF, fF, fF, fF, fF, fF, fF, fF, fF, fF, fF, fF, fF, fF, fF, fF, fF, fF, fF, fF, fF, fF, fF, fF, fF, fF, fF, fF, fF] rfl rfl (by kernel_rfl) (fun _ _ _ h => h) (Or.inl ⟨by rfl, ?_⟩) ?_ ?_
      rotate_left
      · intro w'
        go_simp
        with_reducible rfl
      rotate_left
      · simp only [Act.put, sA, sZ, sS, i64_w, i32_w]
        rfl
      refine take_ (i := 16) (N := some 33) (v := ?_) (a' := ?_) #[tT, tT, tT, tT, tT, tT, tT, tT, tT, tT, tT, tT, tT, tT, tT, tT, tT, fF, fF, fF, fF, fF, fF, fF, fF, fF, fF, fF, fF, fF, fF, fF, fF, fF, fF, fF, fF, fF, fF, fF, fF, fF, fF, fF, fF, fF, fF, fF, fF, fF, fF, fF, fF, fF, fF, fF, fF, fF, fF, fF, fF, fF, fF, fF] rfl rfl (by kernel_rfl) (fun _ _ _ h => h) (Or.inl ⟨by rfl, ?_⟩) hHeld ?_ ?_
      rotate_left
      · rintro w' ⟨s0, s1, s2, s3, s4, s5, s6, s7, s8, s9, _⟩
        go_simp
        with_reducible rfl
      rotate_left
      · simp only [Act.put, sA, sZ, sS, i64_w, i32_w]
        rfl
      refine pure_ (i := 17) (N := some 34) (v := ?_) (a' := ?_) #[tT, tT, tT, tT, tT, tT, tT, tT, tT, tT, tT, tT, tT, tT, tT, tT, tT, tT, fF, fF, fF, fF, fF, fF, fF, fF, fF, fF, fF, fF, fF, fF, fF, fF, fF, fF, fF, fF, fF, fF, fF, fF, fF, fF, fF, fF, fF, fF, fF, fF, fF, fF, fF, fF, fF, fF, fF, fF, fF, fF, fF, fF, fF, fF] rfl rfl (by kernel_rfl) (fun _ _ _ h => h) (Or.inl ⟨by rfl, ?_⟩) ?_ ?_
      rotate_left
      · intro w'
        go_simp
        with_reducible rfl
      rotate_left
      · simp only [Act.put, sA, sZ, sS, i64_w, i32_w]
        rfl
      refine pure_ (i := 18) (N := some 35) (v := ?_) (a' := ?_) #[tT, tT, tT, tT, tT, tT, tT, tT, tT, tT, tT, tT, tT, tT, tT, tT, tT, tT, tT, fF, fF, fF, fF, fF, fF, fF, fF, fF, fF, fF, fF, fF, fF, fF, fF, fF, fF, fF, fF, fF, fF, fF, fF, fF, fF, fF, fF, fF, fF, fF, fF, fF, fF, fF, fF, fF, fF, fF, fF, fF, fF, fF, fF, fF] rfl rfl (by kernel_rfl) (fun _ _ _ h => h) (Or.inl ⟨by rfl, ?_⟩) ?_ ?_
      rotate_left
      · intro w'
        go_simp
        with_reducible rfl
      rotate_left
      · simp only [Act.put, sA, sZ, sS, i64_w, i32_w]
        rfl
      refine pure_ (i := 19) (N := some 36) (v := ?_) (a' := ?_) #[tT, tT, tT, tT, tT, tT, tT, tT, tT, tT, tT, tT, tT, tT, tT, tT, tT, tT, tT, tT, fF, fF, fF, fF, fF, fF, fF, fF, fF, fF, fF, fF, fF, fF, fF, fF, fF, fF, fF, fF, fF, fF, fF, fF, fF, fF, fF, fF, fF, fF, fF, fF, fF, fF, fF, fF, fF, fF, fF, fF, fF, fF, fF, fF] rfl rfl (by kernel_rfl) (fun _ _ _ h => h) (Or.inl ⟨by rfl, ?_⟩) ?_ ?_
      rotate_left
      · intro w'
        go_simp
        with_reducible rfl
      rotate_left
      · simp only [Act.put, sA, sZ, sS, i64_w, i32_w]
        rfl
      refine pure_ (i := 20) (N := some 37) (v := ?_) (a' := ?_) #[tT, tT, tT, tT, tT, tT, tT, tT, tT, tT, tT, tT, tT, tT, tT, tT, tT, tT, tT, tT, tT, fF, fF, fF, fF, fF, fF, fF, fF, fF, fF, fF, fF, fF, fF, fF, fF, fF, fF, fF, fF, fF, fF, fF, fF, fF, fF, fF, fF, fF, fF, fF, fF, fF, fF, fF, fF, fF, fF, fF, fF, fF, fF, fF] rfl rfl (by kernel_rfl) (fun _ _ _ h => h) (Or.inl ⟨by rfl, ?_⟩) ?_ ?_
      rotate_left
      · intro w'
        go_simp
        with_reducible rfl
      rotate_left
      · simp only [Act.put, sA, sZ, sS, i64_w, i32_w]
        rfl
      refine take_ (i := 21) (N := some 38) (v := ?_) (a' := ?_) #[tT, tT, tT, tT, tT, tT, tT, tT, tT, tT, tT, tT, tT, tT, tT, tT, tT, tT, tT, tT, tT, tT, fF, fF, fF, fF, fF, fF, fF, fF, fF, fF, fF, fF, fF, fF, fF, fF, fF, fF, fF, fF, fF, fF, fF, fF, fF, fF, fF, fF, fF, fF, fF, fF, fF, fF, fF, fF, fF, fF, fF, fF, fF, fF] rfl rfl (by kernel_rfl) (fun _ _ _ h => h) (Or.inl ⟨by rfl, ?_⟩) hHeld ?_ ?_
      rotate_left
      · rintro w' ⟨s0, s1, s2, s3, s4, s5, s6, s7, s8, s9, _⟩
        go_simp
        with_reducible rfl
      rotate_left
      · simp only [Act.put, sA, sZ, sS, i64_w, i32_w]
        rfl
      refine pure_ (i := 22) (N := some 39) (v := ?_) (a' := ?_) #[tT, tT, tT, tT, tT, tT, tT, tT, tT, tT, tT, tT, tT, tT, tT, tT, tT, tT, tT, tT, tT, tT, tT, fF, fF, fF, fF, fF, fF, fF, fF, fF, fF, fF, fF, fF, fF, fF, fF, fF, fF, fF, fF, fF, fF, fF, fF, fF, fF, fF, fF, fF, fF, fF, fF, fF, fF, fF, fF, fF, fF, fF, fF, fF] rfl rfl (by kernel_rfl) (fun _ _ _ h => h) (Or.inl ⟨by rfl, ?_⟩) ?_ ?_
      rotate_left
      · intro w'
        go_simp
        with_reducible rfl
      rotate_left
      · simp only [Act.put, sA, sZ, sS, i64_w, i32_w]
        rfl
      refine pure_ (i := 23) (N := some 40) (v := ?_) (a' := ?_) #[tT, tT, tT, tT, tT, tT, tT, tT, tT, tT, tT, tT, tT, tT, tT, tT, tT, tT, tT, tT, tT, tT, tT, tT, fF, fF, fF, fF, fF, fF, fF, fF, fF, fF, fF, fF, fF, fF, fF, fF, fF, fF, fF, fF, fF, fF, fF, fF, fF, fF, fF, fF, fF, fF, fF, fF, fF, fF, fF, fF, fF, fF, fF, fF] rfl rfl (by kernel_rfl) (fun _ _ _ h => h) (Or.inl ⟨by rfl, ?_⟩) ?_ ?_
      rotate_left
      · intro w'
        go_simp
        with_reducible rfl
      rotate_left
      · simp only [Act.put, sA, sZ, sS, i64_w, i32_w]
        rfl
      refine pure_ (i := 24) (N := some 41) (v := ?_) (a' := ?_) #[tT, tT, tT, tT, tT, tT, tT, tT, tT, tT, tT, tT, tT, tT, tT, tT, tT, tT, tT, tT, tT, tT, tT, tT, tT, fF, fF, fF, fF, fF, fF, fF, fF, fF, fF, fF, fF, fF, fF, fF, fF, fF, fF, fF, fF, fF, fF, fF, fF, fF, fF, fF, fF, fF, fF, fF, fF, fF, fF, fF, fF, fF, fF, fF] rfl rfl (by kernel_rfl) (fun _ _ _ h => h) (Or.inl ⟨by rfl, ?_⟩) ?_ ?_
      rotate_left
      · intro w'
        go_simp
        with_reducible rfl
      rotate_left
      · simp only [Act.put, sA, sZ, sS, i64_w, i32_w]
        rfl
      refine pure_ (i := 25) (N := some 42) (v := ?_) (a' := ?_) #[tT, tT, tT, tT, tT, tT, tT, tT, tT, tT, tT, tT, tT, tT, tT, tT, tT, tT, tT, tT, tT, tT, tT, tT, tT, tT, fF, fF, fF, fF, fF, fF, fF, fF, fF, fF, fF, fF, fF, fF, fF, fF, fF, fF, fF, fF, fF, fF, fF, fF, fF, fF, fF, fF, fF, fF, fF, fF, fF, fF, fF, fF, fF, fF] rfl rfl (by kernel_rfl) (fun _ _ _ h => h) (Or.inl ⟨by rfl, ?_⟩) ?_ ?_
      rotate_left
      · intro w'
        go_simp
        with_reducible rfl
      rotate_left
      · simp only [Act.put, sA, sZ, sS, i64_w, i32_w]
        rfl
      refine pure_ (i := 26) (N := some 43) (v := ?_) (a' := ?_) #[tT, tT, tT, tT, tT, tT, tT, tT, tT, tT, tT, tT, tT, tT, tT, tT, tT, tT, tT, tT, tT, tT, tT, tT, tT, tT, tT, fF, fF, fF, fF, fF, fF, fF, fF, fF, fF, fF, fF, fF, fF, fF, fF, fF, fF, fF, fF, fF, fF, fF, fF, fF, fF, fF, fF, fF, fF, fF, fF, fF, fF, fF, fF, fF] rfl rfl (by kernel_rfl) (fun _ _ _ h => h) (Or.inl ⟨by rfl, ?_⟩) ?_ ?_
      rotate_left
      · intro w'
        go_simp
        with_reducible rfl
      rotate_left
      · simp only [Act.put, sA, sZ, sS, i64_w, i32_w]
        rfl
      refine pure_ (i := 27) (N := some 44) (v := ?_) (a' := ?_) #[tT, tT, tT, tT, tT, tT, tT, tT, tT, tT, tT, tT, tT, tT, tT, tT, tT, tT, tT, tT, tT, tT, tT, tT, tT, tT, tT, tT, fF, fF, fF, fF, fF, fF, fF, fF, fF, fF, fF, fF, fF, fF, fF, fF, fF, fF, fF, fF, fF, fF, fF, fF, fF, fF, fF, fF, fF, fF, fF, fF, fF, fF, fF, fF] rfl rfl (by kernel_rfl) (fun _ _ _ h => h) (Or.inl ⟨by rfl, ?_⟩) ?_ ?_
      rotate_left
      · intro w'
        go_simp
        with_reducible rfl
      rotate_left
      · simp only [Act.put, sA, sZ, sS, i64_w, i32_w]
        rfl
      refine pure_ (i := 28) (N := some 45) (v := ?_) (a' := ?_) #[tT, tT, tT, tT, tT, tT, tT, tT, tT, tT, tT, tT, tT, tT, tT, tT, tT, tT, tT, tT, tT, tT, tT, tT, tT, tT, tT, tT, tT, fF, fF, fF, fF, fF, fF, fF, fF, fF, fF, fF, fF, fF, fF, fF, fF, fF, fF, fF, fF, fF, fF, fF, fF, fF, fF, fF, fF, fF, fF, fF, fF, fF, fF, fF] rfl rfl (by kernel_rfl) (fun _ _ _ h => h) (Or.inl ⟨by rfl, ?_⟩) ?_ ?_
      rotate_left
      · intro w'
        go_simp
        with_reducible rfl
      rotate_left
      · simp only [Act.put, sA, sZ, sS, i64_w, i32_w]
        rfl
      refine take_ (i := 29) (N := some 46) (v := ?_) (a' := ?_) #[tT, tT, tT, tT, tT, tT, tT, tT, tT, tT, tT, tT, tT, tT, tT, tT, tT, tT, tT, tT, tT, tT, tT, tT, tT, tT, tT, tT, tT, tT, fF, fF, fF, fF, fF, fF, fF, fF, fF, fF, fF, fF, fF, fF, fF, fF, fF, fF, fF, fF, fF, fF, fF, fF, fF, fF, fF, fF, fF, fF, fF, fF, fF, fF] rfl rfl (by kernel_rfl) (fun _ _ _ h => h) (Or.inl ⟨by rfl, ?_⟩) hHeld ?_ ?_
      rotate_left
      · rintro w' ⟨s0, s1, s2, s3, s4, s5, s6, s7, s8, s9, _⟩
        go_simp
        with_reducible rfl
      rotate_left
      · simp only [Act.put, sA, sZ, sS, i64_w, i32_w]
        rfl
      refine pure_ (i := 30) (N := some 47) (v := ?_) (a' := ?_) #[tT, tT, tT, tT, tT, tT, tT, tT, tT, tT, tT, tT, tT, tT, tT, tT, tT, tT, tT, tT, tT, tT, tT, tT, tT, tT, tT, tT, tT, tT, tT, fF, fF, fF, fF, fF, fF, fF, fF, fF, fF, fF, fF, fF, fF, fF, fF, fF, fF, fF, fF, fF, fF, fF, fF, fF, fF, fF, fF, fF, fF, fF, fF, fF] rfl rfl (by kernel_rfl) (fun _ _ _ h => h) (Or.inl ⟨by rfl, ?_⟩) ?_ ?_
      rotate_left
      · intro w'
        go_simp
        with_reducible rfl
      rotate_left
      · simp only [Act.put, sA, sZ, sS, i64_w, i32_w]
        rfl
      refine pure_ (i := 31) (N := some 48) (v := ?_) (a' := ?_) #[tT, tT, tT, tT, tT, tT, tT, tT, tT, tT, tT, tT, tT, tT, tT, tT, tT, tT, tT, tT, tT, tT, tT, tT, tT, tT, tT, tT, tT, tT, tT, tT, fF, fF, fF, fF, fF, fF, fF, fF, fF, fF, fF, fF, fF, fF, fF, fF, fF, fF, fF, fF, fF, fF, fF, fF, fF, fF, fF, fF, fF, fF, fF, fF] rfl rfl (by kernel_rfl) (fun _ _ _ h => h) (Or.inl ⟨by rfl, ?_⟩) ?_ ?_
      rotate_left
      · intro w'
        go_simp
        with_reducible rfl
      rotate_left
      · simp only [Act.put, sA, sZ, sS, i64_w, i32_w]
        rfl
      refine pure_ (i := 32) (N := some 49) (v := ?_) (a' := ?_) #[tT, tT, tT, tT, tT, tT, tT, tT, tT, tT, tT, tT, tT, tT, tT, tT, tT, tT, tT, tT, tT, tT, tT, tT, tT, tT, tT, tT, tT, tT, tT, tT, tT, fF, fF, fF, fF, fF, fF, fF, fF, fF, fF, fF, fF, fF, fF, fF, fF, fF, fF, fF, fF, fF, fF, fF, fF, fF, fF, fF, fF, fF, fF, fF] rfl rfl (by kernel_rfl) (fun _ _ _ h => h) (Or.inl ⟨by rfl, ?_⟩) ?_ ?_
      rotate_left
      · intro w'
        go_simp
        with_reducible rfl
      rotate_left
      · simp only [Act.put, sA, sZ, sS, i64_w, i32_w]
        rfl
      refine pure_ (i := 33) (N := some 50) (v := ?_) (a' := ?_) #[tT, tT, tT, tT, tT, tT, tT, tT, tT, tT, tT, tT, tT, tT, tT, tT, tT, tT, tT, tT, tT, tT, tT, tT, tT, tT, tT, tT, tT, tT, tT, tT, tT, tT, fF, fF, fF, fF, fF, fF, fF, fF, fF, fF, fF, fF, fF, fF, fF, fF, fF, fF, fF, fF, fF, fF, fF, fF, fF, fF, fF, fF, fF, fF] rfl rfl (by kernel_rfl) (fun _ _ _ h => h) (Or.inl ⟨by rfl, ?_⟩) ?_ ?_
      rotate_left
      · intro w'
        go_simp
        with_reducible rfl
      rotate_left
      · simp only [Act.put, sA, sZ, sS, i64_w, i32_w]
        rfl
      refine take_ (i := 34) (N := some 51) (v := ?_) (a' := ?_) #[tT, tT, tT, tT, tT, tT, tT, tT, tT, tT, tT, tT, tT, tT, tT, tT, tT, tT, tT, tT, tT, tT, tT, tT, tT, tT, tT, tT, tT, tT, tT, tT, tT, tT, tT, fF, fF, fF, fF, fF, fF, fF, fF, fF, fF, fF, fF, fF, fF, fF, fF, fF, fF, fF, fF, fF, fF, fF, fF, fF, fF, fF, fF, fF] rfl rfl (by kernel_rfl) (fun _ _ _ h => h) (Or.inl ⟨by rfl, ?_⟩) hHeld ?_ ?_
      rotate_left
      · rintro w' ⟨s0, s1, s2, s3, s4, s5, s6, s7, s8, s9, _⟩
        go_simp
        with_reducible rfl
      rotate_left
      · simp only [Act.put, sA, sZ, sS, i64_w, i32_w]
        rfl
      refine pure_ (i := 35) (N := some 52) (v := ?_) (a' := ?_) #[tT, tT, tT, tT, tT, tT, tT, tT, tT, tT, tT, tT, tT, tT, tT, tT, tT, tT, tT, tT, tT, tT, tT, tT, tT, tT, tT, tT, tT, tT, tT, tT, tT, tT, tT, tT, fF, fF, fF, fF, fF, fF, fF, fF, fF, fF, fF, fF, fF, fF, fF, fF, fF, fF, fF, fF, fF, fF, fF, fF, fF, fF, fF, fF] rfl rfl (by kernel_rfl) (fun _ _ _ h => h) (Or.inl ⟨by rfl, ?_⟩) ?_ ?_
      rotate_left
      · intro w'
        go_simp
        with_reducible rfl
      rotate_left
      · simp only [Act.put, sA, sZ, sS, i64_w, i32_w]
        rfl
      refine pure_ (i := 36) (N := some 53) (v := ?_) (a' := ?_) #[tT, tT, tT, tT, tT, tT, tT, tT, tT, tT, tT, tT, tT, tT, tT, tT, tT, tT, tT, tT, tT, tT, tT, tT, tT, tT, tT, tT, tT, tT, tT, tT, tT, tT, tT, tT, tT, fF, fF, fF, fF, fF, fF, fF, fF, fF, fF, fF, fF, fF, fF, fF, fF, fF, fF, fF, fF, fF, fF, fF, fF, fF, fF, fF] rfl rfl (by kernel_rfl) (fun _ _ _ h => h) (Or.inl ⟨by rfl, ?_⟩) ?_ ?_
      rotate_left
      · intro w'
        go_simp
        with_reducible rfl
      rotate_left
      · simp only [Act.put, sA, sZ, sS, i64_w, i32_w]
        rfl
      refine pure_ (i := 37) (N := some 54) (v := ?_) (a' := ?_) #[tT, tT, tT, tT, tT, tT, tT, tT, tT, tT, tT, tT, tT, tT, tT, tT, tT, tT, tT, tT, tT, tT, tT, tT, tT, tT, tT, tT, tT, tT, tT, tT, tT, tT, tT, tT, tT, tT, fF, fF, fF, fF, fF, fF, fF, fF, fF, fF, fF, fF, fF, fF, fF, fF, fF, fF, fF, fF, fF, fF, fF, fF, fF, fF] rfl rfl (by kernel_rfl) (fun _ _ _ h => h) (Or.inl ⟨by rfl, ?_⟩) ?_ ?_
      rotate_left
      · intro w'
        go_simp
        with_reducible rfl
      rotate_left
      · simp only [Act.put, sA, sZ, sS, i64_w, i32_w]
        rfl
      refine pure_ (i := 38) (N := some 55) (v := ?_) (a' := ?_) #[tT, tT, tT, tT, tT, tT, tT, tT, tT, tT, tT, tT, tT, tT, tT, tT, tT, tT, tT, tT, tT, tT, tT, tT, tT, tT, tT, tT, tT, tT, tT, tT, tT, tT, tT, tT, tT, tT, tT, fF, fF, fF, fF, fF, fF, fF, fF, fF, fF, fF, fF, fF, fF, fF, fF, fF, fF, fF, fF, fF, fF, fF, fF, fF] rfl rfl (by kernel_rfl) (fun _ _ _ h => h) (Or.inl ⟨by rfl, ?_⟩) ?_ ?_
      rotate_left
      · intro w'
        go_simp
        with_reducible rfl
      rotate_left
      · simp only [Act.put, sA, sZ, sS, i64_w, i32_w]
        rfl
      refine pure_ (i := 39) (N := some 56) (v := ?_) (a' := ?_) #[tT, tT, tT, tT, tT, tT, tT, tT, tT, tT, tT, tT, tT, tT, tT, tT, tT, tT, tT, tT, tT, tT, tT, tT, tT, tT, tT, tT, tT, tT, tT, tT, tT, tT, tT, tT, tT, tT, tT, tT, fF, fF, fF, fF, fF, fF, fF, fF, fF, fF, fF, fF, fF, fF, fF, fF, fF, fF, fF, fF, fF, fF, fF, fF] rfl rfl (by kernel_rfl) (fun _ _ _ h => h) (Or.inl ⟨by rfl, ?_⟩) ?_ ?_
      rotate_left
      · intro w'
        go_simp
        with_reducible rfl
      rotate_left
      · simp only [Act.put, sA, sZ, sS, i64_w, i32_w]
        rfl
      refine pure_ (i := 40) (N := some 57) (v := ?_) (a' := ?_) #[tT, tT, tT, tT, tT, tT, tT, tT, tT, tT, tT, tT, tT, tT, tT, tT, tT, tT, tT, tT, tT, tT, tT, tT, tT, tT, tT, tT, tT, tT, tT, tT, tT, tT, tT, tT, tT, tT, tT, tT, tT, fF, fF, fF, fF, fF, fF, fF, fF, fF, fF, fF, fF, fF, fF, fF, fF, fF, fF, fF, fF, fF, fF, fF] rfl rfl (by kernel_rfl) (fun _ _ _ h => h) (Or.inl ⟨by rfl, ?_⟩) ?_ ?_
      rotate_left
      · intro w'
        go_simp
        with_reducible rfl
      rotate_left
      · simp only [Act.put, sA, sZ, sS, i64_w, i32_w]
        rfl
      refine pure_ (i := 41) (N := some 58) (v := ?_) (a' := ?_) #[tT, tT, tT, tT, tT, tT, tT, tT, tT, tT, tT, tT, tT, tT, tT, tT, tT, tT, tT, tT, tT, tT, tT, tT, tT, tT, tT, tT, tT, tT, tT, tT, tT, tT, tT, tT, tT, tT, tT, tT, tT, tT, fF, fF, fF, fF, fF, fF, fF, fF, fF, fF, fF, fF, fF, fF, fF, fF, fF, fF, fF, fF, fF, fF] rfl rfl (by kernel_rfl) (fun _ _ _ h => h) (Or.inl ⟨by rfl, ?_⟩) ?_ ?_
      rotate_left
      · intro w'
        go_simp
        with_reducible rfl
      rotate_left
      · simp only [Act.put, sA, sZ, sS, i64_w, i32_w]
        rfl
      refine take_ (i := 42) (N := some 59) (v := ?_) (a' := ?_) #[tT, tT, tT, tT, tT, tT, tT, tT, tT, tT, tT, tT, tT, tT, tT, tT, tT, tT, tT, tT, tT, tT, tT, tT, tT, tT, tT, tT, tT, tT, tT, tT, tT, tT, tT, tT, tT, tT, tT, tT, tT, tT, tT, fF, fF, fF, fF, fF, fF, fF, fF, fF, fF, fF, fF, fF, fF, fF, fF, fF, fF, fF, fF, fF] rfl rfl (by kernel_rfl) (fun _ _ _ h => h) (Or.inl ⟨by rfl, ?_⟩) hHeld ?_ ?_
      rotate_left
      · rintro w' ⟨s0, s1, s2, s3, s4, s5, s6, s7, s8, s9, _⟩
        go_simp
        with_reducible rfl
      rotate_left
      · simp only [Act.put, sA, sZ, sS, i64_w, i32_w]
        rfl
      refine pure_ (i := 43) (N := some 60) (v := ?_) (a' := ?_) #[tT, tT, tT, tT, tT, tT, tT, tT, tT, tT, tT, tT, tT, tT, tT, tT, tT, tT, tT, tT, tT, tT, tT, tT, tT, tT, tT, tT, tT, tT, tT, tT, tT, tT, tT, tT, tT, tT, tT, tT, tT, tT, tT, tT, fF, fF, fF, fF, fF, fF, fF, fF, fF, fF, fF, fF, fF, fF, fF, fF, fF, fF, fF, fF] rfl rfl (by kernel_rfl) (fun _ _ _ h => h) (Or.inl ⟨by rfl, ?_⟩) ?_ ?_
      rotate_left
      · intro w'
        go_simp
        with_reducible rfl
      rotate_left
      · simp only [Act.put, sA, sZ, sS, i64_w, i32_w]
        rfl
      refine pure_ (i := 44) (N := some 61) (v := ?_) (a' := ?_) #[tT, tT, tT, tT, tT, tT, tT, tT, tT, tT, tT, tT, tT, tT, tT, tT, tT, tT, tT, tT, tT, tT, tT, tT, tT, tT, tT, tT, tT, tT, tT, tT, tT, tT, tT, tT, tT, tT, tT, tT, tT, tT, tT, tT, tT, fF, fF, fF, fF, fF, fF, fF, fF, fF, fF, fF, fF, fF, fF, fF, fF, fF, fF, fF] rfl rfl (by kernel_rfl) (fun _ _ _ h => h) (Or.inl ⟨by rfl, ?_⟩) ?_ ?_
      rotate_left
      · intro w'
        go_simp
        with_reducible rfl
      rotate_left
      · simp only [Act.put, sA, sZ, sS, i64_w, i32_w]
        rfl
      refine pure_ (i := 45) (N := some 62) (v := ?_) (a' := ?_) #[tT, tT, tT, tT, tT, tT, tT, tT, tT, tT, tT, tT, tT, tT, tT, tT, tT, tT, tT, tT, tT, tT, tT, tT, tT, tT, tT, tT, tT, tT, tT, tT, tT, tT, tT, tT, tT, tT, tT, tT, tT, tT, tT, tT, tT, tT, fF, fF, fF, fF, fF, fF, fF, fF, fF, fF, fF, fF, fF, fF, fF, fF, fF, fF] rfl rfl (by kernel_rfl) (fun _ _ _ h => h) (Or.inl ⟨by rfl, ?_⟩) ?_ ?_
      rotate_left
      · intro w'
        go_simp
        with_reducible rfl
      rotate_left
      · simp only [Act.put, sA, sZ, sS, i64_w, i32_w]
        rfl
      refine pure_ (i := 46) (N := some 63) (v := ?_) (a' := ?_) #[tT, tT, tT, tT, tT, tT, tT, tT, tT, tT, tT, tT, tT, tT, tT, tT, tT, tT, tT, tT, tT, tT, tT, tT, tT, tT, tT, tT, tT, tT, tT, tT, tT, tT, tT, tT, tT, tT, tT, tT, tT, tT, tT, tT, tT, tT, tT, fF, fF, fF, fF, fF, fF, fF, fF, fF, fF, fF, fF, fF, fF, fF, fF, fF] rfl rfl (by kernel_rfl) (fun _ _ _ h => h) (Or.inl ⟨by rfl, ?_⟩) ?_ ?_
      rotate_left
      · intro w'
        go_simp
        with_reducible rfl
      rotate_left
      · simp only [Act.put, sA, sZ, sS, i64_w, i32_w]
        rfl
      refine take_ (i := 47) (N := some 64) (v := ?_) (a' := ?_) #[tT, tT, tT, tT, tT, tT, tT, tT, tT, tT, tT, tT, tT, tT, tT, tT, tT, tT, tT, tT, tT, tT, tT, tT, tT, tT, tT, tT, tT, tT, tT, tT, tT, tT, tT, tT, tT, tT, tT, tT, tT, tT, tT, tT, tT, tT, tT, tT, fF, fF, fF, fF, fF, fF, fF, fF, fF, fF, fF, fF, fF, fF, fF, fF] rfl rfl (by kernel_rfl) (fun _ _ _ h => h) (Or.inl ⟨by rfl, ?_⟩) hHeld ?_ ?_
      rotate_left
      · rintro w' ⟨s0, s1, s2, s3, s4, s5, s6, s7, s8, s9, _⟩
        go_simp
        with_reducible rfl
      rotate_left
      · simp only [Act.put, sA, sZ, sS, i64_w, i32_w]
        rfl
      refine pure_ (i := 48) (N := some 65) (v := ?_) (a' := ?_) #[tT, tT, tT, tT, tT, tT, tT, tT, tT, tT, tT, tT, tT, tT, tT, tT, tT, tT, tT, tT, tT, tT, tT, tT, tT, tT, tT, tT, tT, tT, tT, tT, tT, tT, tT, tT, tT, tT, tT, tT, tT, tT, tT, tT, tT, tT, tT, tT, tT, fF, fF, fF, fF, fF, fF, fF, fF, fF, fF, fF, fF, fF, fF, fF] rfl rfl (by kernel_rfl) (fun _ _ _ h => h) (Or.inl ⟨by rfl, ?_⟩) ?_ ?_
      rotate_left
      · intro w'
        go_simp
        with_reducible rfl
      rotate_left
      · simp only [Act.put, sA, sZ, sS, i64_w, i32_w]
        rfl
      refine pure_ (i := 49) (N := some 66) (v := ?_) (a' := ?_) #[tT, tT, tT, tT, tT, tT, tT, tT, tT, tT, tT, tT, tT, tT, tT, tT, tT, tT, tT, tT, tT, tT, tT, tT, tT, tT, tT, tT, tT, tT, tT, tT, tT, tT, tT, tT, tT, tT, tT, tT, tT, tT, tT, tT, tT, tT, tT, tT, tT, tT, fF, fF, fF, fF, fF, fF, fF, fF, fF, fF, fF, fF, fF, fF] rfl rfl (by kernel_rfl) (fun _ _ _ h => h) (Or.inl ⟨by rfl, ?_⟩) ?_ ?_
      rotate_left
      · intro w'
        go_simp
        with_reducible rfl
      rotate_left
      · simp only [Act.put, sA, sZ, sS, i64_w, i32_w]
        rfl
      refine pure_ (i := 50) (N := some 67) (v := ?_) (a' := ?_) #[tT, tT, tT, tT, tT, tT, tT, tT, tT, tT, tT, tT, tT, tT, tT, tT, tT, tT, tT, tT, tT, tT, tT, tT, tT, tT, tT, tT, tT, tT, tT, tT, tT, tT, tT, tT, tT, tT, tT, tT, tT, tT, tT, tT, tT, tT, tT, tT, tT, tT, tT, fF, fF, fF, fF, fF, fF, fF, fF, fF, fF, fF, fF, fF] rfl rfl (by kernel_rfl) (fun _ _ _ h => h) (Or.inl ⟨by rfl, ?_⟩) ?_ ?_
      rotate_left
      · intro w'
        go_simp
        with_reducible rfl
      rotate_left
      · simp only [Act.put, sA, sZ, sS, i64_w, i32_w]
        rfl
      refine pure_ (i := 51) (N := some 68) (v := ?_) (a' := ?_) #[tT, tT, tT, tT, tT, tT, tT, tT, tT, tT, tT, tT, tT, tT, tT, tT, tT, tT, tT, tT, tT, tT, tT, tT, tT, tT, tT, tT, tT, tT, tT, tT, tT, tT, tT, tT, tT, tT, tT, tT, tT, tT, tT, tT, tT, tT, tT, tT, tT, tT, tT, tT, fF, fF, fF, fF, fF, fF, fF, fF, fF, fF, fF, fF] rfl rfl (by kernel_rfl) (fun _ _ _ h => h) (Or.inl ⟨by rfl, ?_⟩) ?_ ?_
      rotate_left
      · intro w'
        go_simp
        with_reducible rfl
      rotate_left
      · simp only [Act.put, sA, sZ, sS, i64_w, i32_w]
        rfl
      refine pure_ (i := 52) (N := some 69) (v := ?_) (a' := ?_) #[tT, tT, tT, tT, tT, tT, tT, tT, tT, tT, tT, tT, tT, tT, tT, tT, tT, tT, tT, tT, tT, tT, tT, tT, tT, tT, tT, tT, tT, tT, tT, tT, tT, tT, tT, tT, tT, tT, tT, tT, tT, tT, tT, tT, tT, tT, tT, tT, tT, tT, tT, tT, tT, fF, fF, fF, fF, fF, fF, fF, fF, fF, fF, fF] rfl rfl (by kernel_rfl) (fun _ _ _ h => h) (Or.inl ⟨by rfl, ?_⟩) ?_ ?_
      rotate_left
      · intro w'
        go_simp
        with_reducible rfl
      rotate_left
      · simp only [Act.put, sA, sZ, sS, i64_w, i32_w]
        rfl
      refine pure_ (i := 53) (N := some 70) (v := ?_) (a' := ?_) #[tT, tT, tT, tT, tT, tT, tT, tT, tT, tT, tT, tT, tT, tT, tT, tT, tT, tT, tT, tT, tT, tT, tT, tT, tT, tT, tT, tT, tT, tT, tT, tT, tT, tT, tT, tT, tT, tT, tT, tT, tT, tT, tT, tT, tT, tT, tT, tT, tT, tT, tT, tT, tT, tT, fF, fF, fF, fF, fF, fF, fF, fF, fF, fF] rfl rfl (by kernel_rfl) (fun _ _ _ h => h) (Or.inl ⟨by rfl, ?_⟩) ?_ ?_
      rotate_left
      · intro w'
        go_simp
        with_reducible rfl
      rotate_left
      · simp only [Act.put, sA, sZ, sS, i64_w, i32_w]
        rfl
      refine pure_ (i := 54) (N := some 71) (v := ?_) (a' := ?_) #[tT, tT, tT, tT, tT, tT, tT, tT, tT, tT, tT, tT, tT, tT, tT, tT, tT, tT, tT, tT, tT, tT, tT, tT, tT, tT, tT, tT, tT, tT, tT, tT, tT, tT, tT, tT, tT, tT, tT, tT, tT, tT, tT, tT, tT, tT, tT, tT, tT, tT, tT, tT, tT, tT, tT, fF, fF, fF, fF, fF, fF, fF, fF, fF] rfl rfl (by kernel_rfl) (fun _ _ _ h => h) (Or.inl ⟨by rfl, ?_⟩) ?_ ?_
      rotate_left
      · intro w'
        go_simp
        with_reducible rfl
      rotate_left
      · simp only [Act.put, sA, sZ, sS, i64_w, i32_w]
        rfl
      refine take_ (i := 55) (N := some 72) (v := ?_) (a' := ?_) #[tT, tT, tT, tT, tT, tT, tT, tT, tT, tT, tT, tT, tT, tT, tT, tT, tT, tT, tT, tT, tT, tT, tT, tT, tT, tT, tT, tT, tT, tT, tT, tT, tT, tT, tT, tT, tT, tT, tT, tT, tT, tT, tT, tT, tT, tT, tT, tT, tT, tT, tT, tT, tT, tT, tT, tT, fF, fF, fF, fF, fF, fF, fF, fF] rfl rfl (by kernel_rfl) (fun _ _ _ h => h) (Or.inl ⟨by rfl, ?_⟩) hHeld ?_ ?_
      rotate_left
      · rintro w' ⟨s0, s1, s2, s3, s4, s5, s6, s7, s8, s9, _⟩
        go_simp
        with_reducible rfl
      rotate_left
      · simp only [Act.put, sA, sZ, sS, i64_w, i32_w]
        rfl
      refine pure_ (i := 56) (N := some 73) (v := ?_) (a' := ?_) #[tT, tT, tT, tT, tT, tT, tT, tT, tT, tT, tT, tT, tT, tT, tT, tT, tT, tT, tT, tT, tT, tT, tT, tT, tT, tT, tT, tT, tT, tT, tT, tT, tT, tT, tT, tT, tT, tT, tT, tT, tT, tT, tT, tT, tT, tT, tT, tT, tT, tT, tT, tT, tT, tT, tT, tT, tT, fF, fF, fF, fF, fF, fF, fF] rfl rfl (by kernel_rfl) (fun _ _ _ h => h) (Or.inl ⟨by rfl, ?_⟩) ?_ ?_
      rotate_left
      · intro w'
        go_simp
        with_reducible rfl
      rotate_left
      · simp only [Act.put, sA, sZ, sS, i64_w, i32_w]
        rfl
      refine pure_ (i := 57) (N := some 74) (v := ?_) (a' := ?_) #[tT, tT, tT, tT, tT, tT, tT, tT, tT, tT, tT, tT, tT, tT, tT, tT, tT, tT, tT, tT, tT, tT, tT, tT, tT, tT, tT, tT, tT, tT, tT, tT, tT, tT, tT, tT, tT, tT, tT, tT, tT, tT, tT, tT, tT, tT, tT, tT, tT, tT, tT, tT, tT, tT, tT, tT, tT, tT, fF, fF, fF, fF, fF, fF] rfl rfl (by kernel_rfl) (fun _ _ _ h => h) (Or.inl ⟨by rfl, ?_⟩) ?_ ?_
      rotate_left
      · intro w'
        go_simp
        with_reducible rfl
      rotate_left
      · simp only [Act.put, sA, sZ, sS, i64_w, i32_w]
        rfl
      refine pure_ (i := 58) (N := some 75) (v := ?_) (a' := ?_) #[tT, tT, tT, tT, tT, tT, tT, tT, tT, tT, tT, tT, tT, tT, tT, tT, tT, tT, tT, tT, tT, tT, tT, tT, tT, tT, tT, tT, tT, tT, tT, tT, tT, tT, tT, tT, tT, tT, tT, tT, tT, tT, tT, tT, tT, tT, tT, tT, tT, tT, tT, tT, tT, tT, tT, tT, tT, tT, tT, fF, fF, fF, fF, fF] rfl rfl (by kernel_rfl) (fun _ _ _ h => h) (Or.inl ⟨by rfl, ?_⟩) ?_ ?_
      rotate_left
      · intro w'
        go_simp
        with_reducible rfl
      rotate_left
      · simp only [Act.put, sA, sZ, sS, i64_w, i32_w]
        rfl
      refine pure_ (i := 59) (N := some 76) (v := ?_) (a' := ?_) #[tT, tT, tT, tT, tT, tT, tT, tT, tT, tT, tT, tT, tT, tT, tT, tT, tT, tT, tT, tT, tT, tT, tT, tT, tT, tT, tT, tT, tT, tT, tT, tT, tT, tT, tT, tT, tT, tT, tT, tT, tT, tT, tT, tT, tT, tT, tT, tT, tT, tT, tT, tT, tT, tT, tT, tT, tT, tT, tT, tT, fF, fF, fF, fF] rfl rfl (by kernel_rfl) (fun _ _ _ h => h) (Or.inl ⟨by rfl, ?_⟩) ?_ ?_
      rotate_left
      · intro w'
        go_simp
        with_reducible rfl
      rotate_left
      · simp only [Act.put, sA, sZ, sS, i64_w, i32_w]
        rfl
      refine take_ (i := 60) (N := some 77) (v := ?_) (a' := ?_) #[tT, tT, tT, tT, tT, tT, tT, tT, tT, tT, tT, tT, tT, tT, tT, tT, tT, tT, tT, tT, tT, tT, tT, tT, tT, tT, tT, tT, tT, tT, tT, tT, tT, tT, tT, tT, tT, tT, tT, tT, tT, tT, tT, tT, tT, tT, tT, tT, tT, tT, tT, tT, tT, tT, tT, tT, tT, tT, tT, tT, tT, fF, fF, fF] rfl rfl (by kernel_rfl) (fun _ _ _ h => h) (Or.inl ⟨by rfl, ?_⟩) hHeld ?_ ?_
      rotate_left
      · rintro w' ⟨s0, s1, s2, s3, s4, s5, s6, s7, s8, s9, _⟩
        go_simp
        with_reducible rfl
      rotate_left
      · simp only [Act.put, sA, sZ, sS, i64_w, i32_w]
        rfl
      refine one_ (i := 61) (N := some 78) #[tT, tT, tT, tT, tT, tT, tT, tT, tT, tT, tT, tT, tT, tT, tT, tT, tT, tT, tT, tT, tT, tT, tT, tT, tT, tT, tT, tT, tT, tT, tT, tT, tT, tT, tT, tT, tT, tT, tT, tT, tT, tT, tT, tT, tT, tT, tT, tT, tT, tT, tT, tT, tT, tT, tT, tT, tT, tT, tT, tT, tT, tT, fF, fF] rfl rfl (by kernel_rfl) (by decide) (fun K hK => ?_)
      refine goes_ Tryz.func42 (by kernel_rfl) rfl #[.slice A4 x.f4.length c4, .slice B4 x.f4.length d4] (by rfl) rfl rfl (by simp only [List.map_toArray, List.map_cons, List.map_nil]; rfl) ?_
      refine (SameVals_eq x.f4 A4 B4 c4 d4 wr.drew HFX.out (Kd.C_below HG4.out.1 HDR.out) (Kd.C_below HG4.out.2 HDR.out)).mono ?_
      rintro e9 w9 ⟨rfl, hb9⟩
      refine ⟨_, rfl, ?_⟩
      refine hK.out _ _ (HSS w9 hb9) fun hHeld => ?_
      clear hK K
      refine norm_ (a' := ?_) ?_ ?_
      rotate_left
      · show Act.put _ (some 78) _ = _
        simp only [Act.put, sA, sZ, sS, i64_w, i32_w]
        rfl
      refine pure_ (i := 62) (N := some 79) (v := ?_) (a' := ?_) #[tT, tT, tT, tT, tT, tT, tT, tT, tT, tT, tT, tT, tT, tT, tT, tT, tT, tT, tT, tT, tT, tT, tT, tT, tT, tT, tT, tT, tT, tT, tT, tT, tT, tT, tT, tT, tT, tT, tT, tT, tT, tT, tT, tT, tT, tT, tT, tT, tT, tT, tT, tT, tT, tT, tT, tT, tT, tT, tT, tT, tT, tT, tT, fF] rfl rfl (by kernel_rfl) (fun _ _ _ h => h) (Or.inl ⟨by rfl, ?_⟩) ?_ ?_
      rotate_left
      · intro w'
        go_simp
        with_reducible rfl
      rotate_left
      · simp only [Act.put, sA, sZ, sS, i64_w, i32_w]
        rfl
      refine pure_ (i := 63) (N := some 80) (v := ?_) (a' := ?_) #[tT, tT, tT, tT, tT, tT, tT, tT, tT, tT, tT, tT, tT, tT, tT, tT, tT, tT, tT, tT, tT, tT, tT, tT, tT, tT, tT, tT, tT, tT, tT, tT, tT, tT, tT, tT, tT, tT, tT, tT, tT, tT, tT, tT, tT, tT, tT, tT, tT, tT, tT, tT, tT, tT, tT, tT, tT, tT, tT, tT, tT, tT, tT, tT] rfl rfl (by kernel_rfl) (fun _ _ _ h => h) (Or.inl ⟨by rfl, ?_⟩) ?_ ?_
      rotate_left
      · intro w'
        go_simp
        with_reducible rfl
      rotate_left
      · simp only [Act.put, sA, sZ, sS, i64_w, i32_w]
        rfl
      refine done_ (by kernel_rfl) ?_
      have HB9 := Aside0.mk (HBW.out.trans ((HDR.out.trans (hb9.mono HDR.out.size)).mono HBW.out.size))
      clear hb9 hHeld HSS hdr
      go_wp2
      go_roundg k1
      case measure => omega
      case rel => exact ⟨k + 1, by omega, by go_num, HB9⟩
set_option maxRecDepth 100000 in
set_option maxHeartbeats 8000000 in
theorem Same_eq (l : List Ev) (A B : Option Addr) (c d : Nat) (w : World) (hl : l.length ≤ 1000000000000) (hf : ∀ x ∈ l, fitsE x) (ga : k35.C w A l.length l) (gb : k35.C w B l.length l) :
    Calls Tryz.prog 7 #[.slice A l.length c, .slice B l.length d] w fun e w' => e = .returned (.bool true) ∧ Below w.heap.size w w' := by
  have HA := Aside0.mk ga
  have HB := Aside0.mk gb
  have HL := Aside0.mk hl
  have HF := Aside0.mk hf
  have hlI : (l.length : Int) ≤ 1000000000000 := by omega
  clear ga gb hl hf
  go_enter Tryz.func7, Tryz.ntmps7
  go_wp2
  go_loopg [5] l.length (fun kq v5 w2 => ∃ k : Nat, k + kq = l.length ∧ v5 = .int .i64 k ∧ Aside0 (Below w.heap.size w w2))
  case atStart => exact ⟨0, by omega, rfl, Aside0.mk (Below.refl _ _)⟩
  case round =>
    obtain ⟨k, hk, rfl, HBW⟩ := hrel
    cases gk with
    | zero =>
      have hge : ¬ ((k : Nat) : Int) < (l.length : Int) := by omega
      go_wp2
      go_ret
      exact ⟨rfl, HBW.out⟩
    | succ k1 =>
      have hlt : ((k : Nat) : Int) < (l.length : Int) := by omega
      have hlt' : k < l.length := by omega
      have HFX := Aside0.mk (HF.out _ (List.getElem_mem hlt'))
      obtain ⟨ad, A4, c4, e, r0, r1, r2, l4, g4⟩ := at_T35 (Kd.C_below HA.out HBW.out) k (by omega) hlt
      cases e
      obtain ⟨bd, B4, d4, e, t0, t1, t2, m4, q4⟩ := at_T35 (Kd.C_below HB.out HBW.out) k (by omega) hlt
      cases e
      have hrd : rd_T35 l k = l[k] := by simp [rd_T35, List.getD, List.getElem?_eq_getElem hlt']
      rw [hrd] at r0 r1 r2 g4 t0 t1 t2 q4
      rw [Int.toNat_natCast] at r0 r1 r2 t0 t1 t2
      have HG4 := Aside0.mk (And.intro g4 q4)
      clear hrd l4 m4 g4 q4
      generalize l[k] = x at *
      have hk9 : (k : Int) ≤ 1000000000000 := by omega
      go_wp2
      have hdr : Below wr.heap.size wr wr.drew := ⟨rfl, rfl, rfl, Nat.le_refl _, fun _ _ => rfl⟩
      have HDR := Aside0.mk hdr
      have HSS := fun w' (hb : Below wr.drew.heap.size wr.drew w') => (show (fun w' => w'.cell? (ad.add (k * 3)) = some (.int .i64 x.f0) ∧ w'.cell? (⟨(ad.add (k * 3)).block, (ad.add (k * 3)).off + 1, none⟩) = some (.int .i64 x.f1) ∧ w'.cell? (⟨(ad.add (k * 3)).block, (ad.add (k * 3)).off + 2, none⟩) = some (.slice A4 x.f2.length c4) ∧ w'.cell? (bd.add (k * 3)) = some (.int .i64 x.f0) ∧ w'.cell? (⟨(bd.add (k * 3)).block, (bd.add (k * 3)).off + 1, none⟩) = some (.int .i64 x.f1) ∧ w'.cell? (⟨(bd.add (k * 3)).block, (bd.add (k * 3)).off + 2, none⟩) = some (.slice B4 x.f2.length d4) ∧ Below wr.drew.heap.size wr.drew w') w' from ⟨cell_below' hb (cell_below' hdr r0), cell_below' hb (cell_below' hdr r1), cell_below' hb (cell_below' hdr r2), cell_below' hb (cell_below' hdr t0), cell_below' hb (cell_below' hdr t1), cell_below' hb (cell_below' hdr t2), hb⟩)
      refine start_ (n := 38) (S := (fun w' => w'.cell? (ad.add (k * 3)) = some (.int .i64 x.f0) ∧ w'.cell? (⟨(ad.add (k * 3)).block, (ad.add (k * 3)).off + 1, none⟩) = some (.int .i64 x.f1) ∧ w'.cell? (⟨(ad.add (k * 3)).block, (ad.add (k * 3)).off + 2, none⟩) = some (.slice A4 x.f2.length c4) ∧ w'.cell? (bd.add (k * 3)) = some (.int .i64 x.f0) ∧ w'.cell? (⟨(bd.add (k * 3)).block, (bd.add (k * 3)).off + 1, none⟩) = some (.int .i64 x.f1) ∧ w'.cell? (⟨(bd.add (k * 3)).block, (bd.add (k * 3)).off + 2, none⟩) = some (.slice B4 x.f2.length d4) ∧ Below wr.drew.heap.size wr.drew w')) (ds := []) #[fF, fF, fF, fF, fF, fF, fF, fF, fF, fF, fF, fF, fF, fF, fF, fF, fF, fF, fF, fF, fF, fF, fF, fF, fF, fF, fF, fF, fF, fF, fF, fF, fF, fF, fF, fF, fF, fF] (by kernel_rfl) rfl rfl ⟨r0, r1, r2, t0, t1, t2, Below.refl _ _⟩ (fun hHeld => ?_)
      refine pure_ (i := 0) (N := some 17) (v := ?_) (a' := ?_) #[tT, fF, fF, fF, fF, fF, fF, fF, fF, fF, fF, fF, fF, fF, fF, fF, fF, fF, fF, fF, fF, fF, fF, fF, fF, fF, fF, fF, fF, fF, fF, fF, fF, fF, fF, fF, fF, fF] rfl rfl (by kernel_rfl) (fun _ _ _ h => h) (Or.inl ⟨by rfl, ?_⟩) ?_ ?_
      rotate_left
      · intro w'
        go_simp
        with_reducible rfl
      rotate_left
      · simp only [Act.put, sA, sZ, sS, i64_w, i32_w]
        rfl
      refine pure_ (i := 1) (N := some 18) (v := ?_) (a' := ?_) #[tT, tT, fF, fF, fF, fF, fF, fF, fF, fF, fF, fF, fF, fF, fF, fF, fF, fF, fF, fF, fF, fF, fF, fF, fF, fF, fF, fF, fF, fF, fF, fF, fF, fF, fF, fF, fF, fF] rfl rfl (by kernel_rfl) (fun _ _ _ h => h) (Or.inl ⟨by rfl, ?_⟩) ?_ ?_
      rotate_left
      · intro w'
        go_simp
        with_reducible rfl
      rotate_left
      · simp only [Act.put, sA, sZ, sS, i64_w, i32_w]
        rfl
      refine pure_ (i := 2) (N := some 19) (v := ?_) (a' := ?_) #[tT, tT, tT, fF, fF, fF, fF, fF, fF, fF, fF, fF, fF, fF, fF, fF, fF, fF, fF, fF, fF, fF, fF, fF, fF, fF, fF, fF, fF, fF, fF, fF, fF, fF, fF, fF, fF, fF] rfl rfl (by kernel_rfl) (fun _ _ _ h => h) (Or.inl ⟨by rfl, ?_⟩) ?_ ?_
      rotate_left
      · intro w'
        go_simp
        with_reducible rfl
      rotate_left
      · simp only [Act.put, sA, sZ, sS, i64_w, i32_w]
        rfl
      refine pure_ (i := 3) (N := some 20) (v := ?_) (a' := ?_) #[tT, tT, tT, tT, fF, fF, fF, fF, fF, fF, fF, fF, fF, fF, fF, fF, fF, fF, fF, fF, fF, fF, fF, fF, fF, fF, fF, fF, fF, fF, fF, fF, fF, fF, fF, fF, fF, fF] rfl rfl (by kernel_rfl) (fun _ _ _ h => h) (Or.inl ⟨by rfl, ?_⟩) ?_ ?_
      rotate_left
      · intro w'
        go_simp
        with_reducible rfl
      rotate_left
      · simp only [Act.put, sA, sZ, sS, i64_w, i32_w]
        rfl
      refine take_ (i := 4) (N := some 21) (v := ?_) (a' := ?_) #[tT, tT, tT, tT, tT, fF, fF, fF, fF, fF, fF, fF, fF, fF, fF, fF, fF, fF, fF, fF, fF, fF, fF, fF, fF, fF, fF, fF, fF, fF, fF, fF, fF, fF, fF, fF, fF, fF] rfl rfl (by kernel_rfl) (fun _ _ _ h => h) (Or.inl ⟨by rfl, ?_⟩) hHeld ?_ ?_
      rotate_left
      · rintro w' ⟨s0, s1, s2, s3, s4, s5, _⟩
        go_simp
        with_reducible rfl
      rotate_left
      · simp only [Act.put, sA, sZ, sS, i64_w, i32_w]
        rfl
      refine pure_ (i := 5) (N := some 22) (v := ?_) (a' := ?_) #[tT, tT, tT, tT, tT, tT, fF, fF, fF, fF, fF, fF, fF, fF, fF, fF, fF, fF, fF, fF, fF, fF, fF, fF, fF, fF, fF, fF, fF, fF, fF, fF, fF, fF, fF, fF, fF, fF] rfl rfl (by kernel_rfl) (fun _ _ _ h => h) (Or.inl ⟨by rfl, ?_⟩) ?_ ?_
      rotate_left
      · intro w'
        go_simp
        with_reducible rfl
      rotate_left
      · simp only [Act.put, sA, sZ, sS, i64_w, i32_w]
        rfl
      refine pure_ (i := 6) (N := some 23) (v := ?_) (a' := ?_) #[tT, tT, tT, tT, tT, tT, tT, fF, fF, fF, fF, fF, fF, fF, fF, fF, fF, fF, fF, fF, fF, fF, fF, fF, fF, fF, fF, fF, fF, fF, fF, fF, fF, fF, fF, fF, fF, fF] rfl rfl (by kernel_rfl) (fun _ _ _ h => h) (Or.inl ⟨by rfl, ?_⟩) ?_ ?_
      rotate_left
      · intro w'
        go_simp
        with_reducible rfl
      rotate_left
      · simp only [Act.put, sA, sZ, sS, i64_w, i32_w]
        rfl
      refine pure_ (i := 7) (N := some 24) (v := ?_) (a' := ?_) #[tT, tT, tT, tT, tT, tT, tT, tT, fF, fF, fF, fF, fF, fF, fF, fF, fF, fF, fF, fF, fF, fF, fF, fF, fF, fF, fF, fF, fF, fF, fF, fF, fF, fF, fF, fF, fF, fF] rfl rfl (by kernel_rfl) (fun _ _ _ h => h) (Or.inl ⟨by rfl, ?_⟩) ?_ ?_
      rotate_left
      · intro w'
        go_simp
        with_reducible rfl
      rotate_left
      · simp only [Act.put, sA, sZ, sS, i64_w, i32_w]
        rfl
      refine pure_ (i := 8) (N := some 25) (v := ?_) (a' := ?_) #[tT, tT, tT, tT, tT, tT, tT, tT, tT, fF, fF, fF, fF, fF, fF, fF, fF, fF, fF, fF, fF, fF, fF, fF, fF, fF, fF, fF, fF, fF, fF, fF, fF, fF, fF, fF, fF, fF] rfl rfl (by kernel_rfl) (fun _ _ _ h => h) (Or.inl ⟨by rfl, ?_⟩) ?_ ?_
      rotate_left
      · intro w'
        go_simp
        with_reducible rfl
      rotate_left
      · simp only [Act.put, sA, sZ, sS, i64_w, i32_w]
        rfl
      refine take_ (i := 9) (N := some 26) (v := ?_) (a' := ?_) #[tT, tT, tT, tT, tT, tT, tT, tT, tT, tT, fF, fF, fF, fF, fF, fF, fF, fF, fF, fF, fF, fF, fF, fF, fF, fF, fF, fF, fF, fF, fF, fF, fF, fF, fF, fF, fF, fF] rfl rfl (by kernel_rfl) (fun _ _ _ h => h) (Or.inl ⟨by rfl, ?_⟩) hHeld ?_ ?_
      rotate_left
      · rintro w' ⟨s0, s1, s2, s3, s4, s5, _⟩
        go_simp
        with_reducible rfl
      rotate_left
      · simp only [Act.put, sA, sZ, sS, i64_w, i32_w]
        rfl
      refine pure_ (i := 10) (N := some 27) (v := ?_) (a' := ?_) #[tT, tT, tT, tT, tT, tT, tT, tT, tT, tT, tT, fF, fF, fF, fF, fF, fF, fF, fF, fF, fF, fF, fF, fF, fF, fF, fF, fF, fF, fF, fF, fF, fF, fF, fF, fF, fF, fF] rfl rfl (by kernel_rfl) (fun _ _ _ h => h) (Or.inl ⟨by rfl, ?_⟩) ?_ ?_
      rotate_left
      · intro w'
        go_simp
        with_reducible rfl
      rotate_left
      · simp only [Act.put, sA, sZ, sS, i64_w, i32_w]
        rfl
      refine pure_ (i := 11) (N := some 28) (v := ?_) (a' := ?_) #[tT, tT, tT, tT, tT, tT, tT, tT, tT, tT, tT, tT, fF, fF, fF, fF, fF, fF, fF, fF, fF, fF, fF, fF, fF, fF, fF, fF, fF, fF, fF, fF, fF, fF, fF, fF, fF, fF] rfl rfl (by kernel_rfl) (fun _ _ _ h => h) (Or.inl ⟨by rfl, ?_⟩) ?_ ?_
      rotate_left
      · intro w'
        go_simp
        with_reducible rfl
      rotate_left
      · simp only [Act.put, sA, sZ, sS, i64_w, i32_w]
        rfl
      refine pure_ (i := 12) (N := some 29) (v := ?_) (a' := ?_) #[tT, tT, tT, tT, tT, tT, tT, tT, tT, tT, tT, tT, tT, fF, fF, fF, fF, fF, fF, fF, fF, fF, fF, fF, fF, fF, fF, fF, fF, fF, fF, fF, fF, fF, fF, fF, fF, fF] rfl rfl (by kernel_rfl) (fun _ _ _ h => h) (Or.inl ⟨by rfl, ?_⟩) ?_ ?_
      rotate_left
      · intro w'
        go_simp
        with_reducible rfl
      rotate_left
      · simp only [Act.put, sA, sZ, sS, i64_w, i32_w]
        rfl
      refine pure_ (i := 13) (N := some 30) (v := ?_) (a' := ?_) #[tT, tT, tT, tT, tT, tT, tT, tT, tT, tT, tT, tT, tT, tT, fF, fF, fF, fF, fF, fF, fF, fF, fF, fF, fF, fF, fF, fF, fF, fF, fF, fF, fF, fF, fF, fF, fF, fF] rfl rfl (by kernel_rfl) (fun _ _ _ h => h) (Or.inl ⟨by rfl, ?_⟩) ?_ ?_
      rotate_left
      · intro w'
        go_simp
        with_reducible rfl
      rotate_left
      · simp only [Act.put, sA, sZ, sS, i64_w, i32_w]
        rfl
      refine pure_ (i := 14) (N := some 31) (v := ?_) (a' := ?_) #[tT, tT, tT, tT, tT, tT, tT, tT, tT, tT, tT, tT, tT, tT, tT, fF, fF, fF, fF, fF, fF, fF, fF, fF, fF, fF, fF, fF, fF, fF, fF, fF, fF, fF, fF, fF, fF, fF] rfl rfl (by kernel_rfl) (fun _ _ _ h => h) (Or.inl ⟨by rfl, ?_⟩) ?_ ?_
      rotate_left
      · intro w'
        go_simp
        with_reducible rfl
      rotate_left
      · simp only [Act.put, sA, sZ, sS, i64_w, i32_w]
        rfl
      refine pure_ (i := 15) (N := some 32) (v := ?_) (a' := ?_) #[tT, tT, tT, tT, tT, tT, tT, tT, tT, tT, tT, tT, tT, tT, tT, tT, fF, fF, fF, fF, fF, fF, fF, fF, fF, fF, fF, fF, fF, fF, fF, fF, fF, fF, fF, fF, fF, fF] rfl rfl (by kernel_rfl) (fun _ _ _ h => h) (Or.inl ⟨by rfl, ?_⟩) ?_ ?_
      rotate_left
      · intro w'
        go_simp
        with_reducible rfl
      rotate_left
      · simp only [Act.put, sA, sZ, sS, i64_w, i32_w]
        rfl
      refine take_ (i := 16) (N := some 33) (v := ?_) (a' := ?_) #[tT, tT, tT, tT, tT, tT, tT, tT, tT, tT, tT, tT, tT, tT, tT, tT, tT, fF, fF, fF, fF, fF, fF, fF, fF, fF, fF, fF, fF, fF, fF, fF, fF, fF, fF, fF, fF, fF] rfl rfl (by kernel_rfl) (fun _ _ _ h => h) (Or.inl ⟨by rfl, ?_⟩) hHeld ?_ ?_
      rotate_left
      · rintro w' ⟨s0, s1, s2, s3, s4, s5, _⟩
        go_simp
        with_reducible rfl
      rotate_left
      · simp only [Act.put, sA, sZ, sS, i64_w, i32_w]
        rfl
      refine pure_ (i := 17) (N := some 34) (v := ?_) (a' := ?_) #[tT, tT, tT, tT, tT, tT, tT, tT, tT, tT, tT, tT, tT, tT, tT, tT, tT, tT, fF, fF, fF, fF, fF, fF, fF, fF, fF, fF, fF, fF, fF, fF, fF, fF, fF, fF, fF, fF] rfl rfl (by kernel_rfl) (fun _ _ _ h => h) (Or.inl ⟨by rfl, ?_⟩) ?_ ?_
      rotate_left
      · intro w'
        go_simp
        with_reducible rfl
      rotate_left
      · simp only [Act.put, sA, sZ, sS, i64_w, i32_w]
        rfl
      refine pure_ (i := 18) (N := some 35) (v := ?_) (a' := ?_) #[tT, tT, tT, tT, tT, tT, tT, tT, tT, tT, tT, tT, tT, tT, tT, tT, tT, tT, tT, fF, fF, fF, fF, fF, fF, fF, fF, fF, fF, fF, fF, fF, fF, fF, fF, fF, fF, fF] rfl rfl (by kernel_rfl) (fun _ _ _ h => h) (Or.inl ⟨by rfl, ?_⟩) ?_ ?_
      rotate_left
      · intro w'
        go_simp
        with_reducible rfl
      rotate_left
      · simp only [Act.put, sA, sZ, sS, i64_w, i32_w]
        rfl
      refine pure_ (i := 19) (N := some 36) (v := ?_) (a' := ?_) #[tT, tT, tT, tT, tT, tT, tT, tT, tT, tT, tT, tT, tT, tT, tT, tT, tT, tT, tT, tT, fF, fF, fF, fF, fF, fF, fF, fF, fF, fF, fF, fF, fF, fF, fF, fF, fF, fF] rfl rfl (by kernel_rfl) (fun _ _ _ h => h) (Or.inl ⟨by rfl, ?_⟩) ?_ ?_
      rotate_left
      · intro w'
        go_simp
        with_reducible rfl
      rotate_left
      · simp only [Act.put, sA, sZ, sS, i64_w, i32_w]
        rfl
      refine pure_ (i := 20) (N := some 37) (v := ?_) (a' := ?_) #[tT, tT, tT, tT, tT, tT, tT, tT, tT, tT, tT, tT, tT, tT, tT, tT, tT, tT, tT, tT, tT, fF, fF, fF, fF, fF, fF, fF, fF, fF, fF, fF, fF, fF, fF, fF, fF, fF] rfl rfl (by kernel_rfl) (fun _ _ _ h => h) (Or.inl ⟨by rfl, ?_⟩) ?_ ?_
      rotate_left
      · intro w'
        go_simp
        with_reducible rfl
      rotate_left
      · simp only [Act.put, sA, sZ, sS, i64_w, i32_w]
        rfl
      refine take_ (i := 21) (N := some 38) (v := ?_) (a' := ?_) #[tT, tT, tT, tT, tT, tT, tT, tT, tT, tT, tT, tT, tT, tT, tT, tT, tT, tT, tT, tT, tT, tT, fF, fF, fF, fF, fF, fF, fF, fF, fF, fF, fF, fF, fF, fF, fF, fF] rfl rfl (by kernel_rfl) (fun _ _ _ h => h) (Or.inl ⟨by rfl, ?_⟩) hHeld ?_ ?_
      rotate_left
      · rintro w' ⟨s0, s1, s2, s3, s4, s5, _⟩
        go_simp
        with_reducible rfl
      rotate_left
      · simp only [Act.put, sA, sZ, sS, i64_w, i32_w]
        rfl
      refine pure_ (i := 22) (N := some 39) (v := ?_) (a' := ?_) #[tT, tT, tT, tT, tT, tT, tT, tT, tT, tT, tT, tT, tT, tT, tT, tT, tT, tT, tT, tT, tT, tT, tT, fF, fF, fF, fF, fF, fF, fF, fF, fF, fF, fF, fF, fF, fF, fF] rfl rfl (by kernel_rfl) (fun _ _ _ h => h) (Or.inl ⟨by rfl, ?_⟩) ?_ ?_
      rotate_left
      · intro w'
        go_simp
        with_reducible rfl
      rotate_left
      · simp only [Act.put, sA, sZ, sS, i64_w, i32_w]
        rfl
      refine pure_ (i := 23) (N := some 40) (v := ?_) (a' := ?_) #[tT, tT, tT, tT, tT, tT, tT, tT, tT, tT, tT, tT, tT, tT, tT, tT, tT, tT, tT, tT, tT, tT, tT, tT, fF, fF, fF, fF, fF, fF, fF, fF, fF, fF, fF, fF, fF, fF] rfl rfl (by kernel_rfl) (fun _ _ _ h => h) (Or.inl ⟨by rfl, ?_⟩) ?_ ?_
      rotate_left
      · intro w'
        go_simp
        with_reducible rfl
      rotate_left
      · simp only [Act.put, sA, sZ, sS, i64_w, i32_w]
        rfl
      refine pure_ (i := 24) (N := some 41) (v := ?_) (a' := ?_) #[tT, tT, tT, tT, tT, tT, tT, tT, tT, tT, tT, tT, tT, tT, tT, tT, tT, tT, tT, tT, tT, tT, tT, tT, tT, fF, fF, fF, fF, fF, fF, fF, fF, fF, fF, fF, fF, fF] rfl rfl (by kernel_rfl) (fun _ _ _ h => h) (Or.inl ⟨by rfl, ?_⟩) ?_ ?_
      rotate_left
      · intro w'
        go_simp
        with_reducible rfl
      rotate_left
      · simp only [Act.put, sA, sZ, sS, i64_w, i32_w]
        rfl
      refine pure_ (i := 25) (N := some 42) (v := ?_) (a' := ?_) #[tT, tT, tT, tT, tT, tT, tT, tT, tT, tT, tT, tT, tT, tT, tT, tT, tT, tT, tT, tT, tT, tT, tT, tT, tT, tT, fF, fF, fF, fF, fF, fF, fF, fF, fF, fF, fF, fF] rfl rfl (by kernel_rfl) (fun _ _ _ h => h) (Or.inl ⟨by rfl, ?_⟩) ?_ ?_
      rotate_left
      · intro w'
        go_simp
        with_reducible rfl
      rotate_left
      · simp only [Act.put, sA, sZ, sS, i64_w, i32_w]
        rfl
      refine pure_ (i := 26) (N := some 43) (v := ?_) (a' := ?_) #[tT, tT, tT, tT, tT, tT, tT, tT, tT, tT, tT, tT, tT, tT, tT, tT, tT, tT, tT, tT, tT, tT, tT, tT, tT, tT, tT, fF, fF, fF, fF, fF, fF, fF, fF, fF, fF, fF] rfl rfl (by kernel_rfl) (fun _ _ _ h => h) (Or.inl ⟨by rfl, ?_⟩) ?_ ?_
      rotate_left
      · intro w'
        go_simp
        with_reducible rfl
      rotate_left
      · simp only [Act.put, sA, sZ, sS, i64_w, i32_w]
        rfl
      refine pure_ (i := 27) (N := some 44) (v := ?_) (a' := ?_) #[tT, tT, tT, tT, tT, tT, tT, tT, tT, tT, tT, tT, tT, tT, tT, tT, tT, tT, tT, tT, tT, tT, tT, tT, tT, tT, tT, tT, fF, fF, fF, fF, fF, fF, fF, fF, fF, fF] rfl rfl (by kernel_rfl) (fun _ _ _ h => h) (Or.inl ⟨by rfl, ?_⟩) ?_ ?_
      rotate_left
      · intro w'
        go_simp
        with_reducible rfl
      rotate_left
      · simp only [Act.put, sA, sZ, sS, i64_w, i32_w]
        rfl
      refine pure_ (i := 28) (N := some 45) (v := ?_) (a' := ?_) #[tT, tT, tT, tT, tT, tT, tT, tT, tT, tT, tT, tT, tT, tT, tT, tT, tT, tT, tT, tT, tT, tT, tT, tT, tT, tT, tT, tT, tT, fF, fF, fF, fF, fF, fF, fF, fF, fF] rfl rfl (by kernel_rfl) (fun _ _ _ h => h) (Or.inl ⟨by rfl, ?_⟩) ?_ ?_
      rotate_left
      · intro w'
        go_simp
        with_reducible rfl
      rotate_left
      · simp only [Act.put, sA, sZ, sS, i64_w, i32_w]
        rfl
      refine take_ (i := 29) (N := some 46) (v := ?_) (a' := ?_) #[tT, tT, tT, tT, tT, tT, tT, tT, tT, tT, tT, tT, tT, tT, tT, tT, tT, tT, tT, tT, tT, tT, tT, tT, tT, tT, tT, tT, tT, tT, fF, fF, fF, fF, fF, fF, fF, fF] rfl rfl (by kernel_rfl) (fun _ _ _ h => h) (Or.inl ⟨by rfl, ?_⟩) hHeld ?_ ?_
      rotate_left
      · rintro w' ⟨s0, s1, s2, s3, s4, s5, _⟩
        go_simp
        with_reducible rfl
      rotate_left
      · simp only [Act.put, sA, sZ, sS, i64_w, i32_w]
        rfl
      refine pure_ (i := 30) (N := some 47) (v := ?_) (a' := ?_) #[tT, tT, tT, tT, tT, tT, tT, tT, tT, tT, tT, tT, tT, tT, tT, tT, tT, tT, tT, tT, tT, tT, tT, tT, tT, tT, tT, tT, tT, tT, tT, fF, fF, fF, fF, fF, fF, fF] rfl rfl (by kernel_rfl) (fun _ _ _ h => h) (Or.inl ⟨by rfl, ?_⟩) ?_ ?_
      rotate_left
      · intro w'
        go_simp
        with_reducible rfl
      rotate_left
      · simp only [Act.put, sA, sZ, sS, i64_w, i32_w]
        rfl
      refine pure_ (i := 31) (N := some 48) (v := ?_) (a' := ?_) #[tT, tT, tT, tT, tT, tT, tT, tT, tT, tT, tT, tT, tT, tT, tT, tT, tT, tT, tT, tT, tT, tT, tT, tT, tT, tT, tT, tT, tT, tT, tT, tT, fF, fF, fF, fF, fF, fF] rfl rfl (by kernel_rfl) (fun _ _ _ h => h) (Or.inl ⟨by rfl, ?_⟩) ?_ ?_
      rotate_left
      · intro w'
        go_simp
        with_reducible rfl
      rotate_left
      · simp only [Act.put, sA, sZ, sS, i64_w, i32_w]
        rfl
      refine pure_ (i := 32) (N := some 49) (v := ?_) (a' := ?_) #[tT, tT, tT, tT, tT, tT, tT, tT, tT, tT, tT, tT, tT, tT, tT, tT, tT, tT, tT, tT, tT, tT, tT, tT, tT, tT, tT, tT, tT, tT, tT, tT, tT, fF, fF, fF, fF, fF] rfl rfl (by kernel_rfl) (fun _ _ _ h => h) (Or.inl ⟨by rfl, ?_⟩) ?_ ?_
      rotate_left
      · intro w'
        go_simp
        with_reducible rfl
      rotate_left
      · simp only [Act.put, sA, sZ, sS, i64_w, i32_w]
        rfl
      refine pure_ (i := 33) (N := some 50) (v := ?_) (a' := ?_) #[tT, tT, tT, tT, tT, tT, tT, tT, tT, tT, tT, tT, tT, tT, tT, tT, tT, tT, tT, tT, tT, tT, tT, tT, tT, tT, tT, tT, tT, tT, tT, tT, tT, tT, fF, fF, fF, fF] rfl rfl (by kernel_rfl) (fun _ _ _ h => h) (Or.inl ⟨by rfl, ?_⟩) ?_ ?_
      rotate_left
      · intro w'
        go_simp
        with_reducible rfl
      rotate_left
      · simp only [Act.put, sA, sZ, sS, i64_w, i32_w]
        rfl
      refine take_ (i := 34) (N := some 51) (v := ?_) (a' := ?_) #[tT, tT, tT, tT, tT, tT, tT, tT, tT, tT, tT, tT, tT, tT, tT, tT, tT, tT, tT, tT, tT, tT, tT, tT, tT, tT, tT, tT, tT, tT, tT, tT, tT, tT, tT, fF, fF, fF] rfl rfl (by kernel_rfl) (fun _ _ _ h => h) (Or.inl ⟨by rfl, ?_⟩) hHeld ?_ ?_
      rotate_left
      · rintro w' ⟨s0, s1, s2, s3, s4, s5, _⟩
        go_simp
        with_reducible rfl
      rotate_left
      · simp only [Act.put, sA, sZ, sS, i64_w, i32_w]
        rfl
      refine one_ (i := 35) (N := some 52) #[tT, tT, tT, tT, tT, tT, tT, tT, tT, tT, tT, tT, tT, tT, tT, tT, tT, tT, tT, tT, tT, tT, tT, tT, tT, tT, tT, tT, tT, tT, tT, tT, tT, tT, tT, tT, fF, fF] rfl rfl (by kernel_rfl) (by decide) (fun K hK => ?_)
      refine goes_ Tryz.func21 (by kernel_rfl) rfl #[.slice A4 x.f2.length c4, .slice B4 x.f2.length d4] (by rfl) rfl rfl (by simp only [List.map_toArray, List.map_cons, List.map_nil]; rfl) ?_
      refine (SameCalls_eq x.f2 A4 B4 c4 d4 wr.drew HFX.out.1 HFX.out.2 (Kd.C_below HG4.out.1 HDR.out) (Kd.C_below HG4.out.2 HDR.out)).mono ?_
      rintro e9 w9 ⟨rfl, hb9⟩
      refine ⟨_, rfl, ?_⟩
      refine hK.out _ _ (HSS w9 hb9) fun hHeld => ?_
      clear hK K
      refine norm_ (a' := ?_) ?_ ?_
      rotate_left
      · show Act.put _ (some 52) _ = _
        simp only [Act.put, sA, sZ, sS, i64_w, i32_w]
        rfl
      refine pure_ (i := 36) (N := some 53) (v := ?_) (a' := ?_) #[tT, tT, tT, tT, tT, tT, tT, tT, tT, tT, tT, tT, tT, tT, tT, tT, tT, tT, tT, tT, tT, tT, tT, tT, tT, tT, tT, tT, tT, tT, tT, tT, tT, tT, tT, tT, tT, fF] rfl rfl (by kernel_rfl) (fun _ _ _ h => h) (Or.inl ⟨by rfl, ?_⟩) ?_ ?_
      rotate_left
      · intro w'
        go_simp
        with_reducible rfl
      rotate_left
      · simp only [Act.put, sA, sZ, sS, i64_w, i32_w]
        rfl
      refine pure_ (i := 37) (N := some 54) (v := ?_) (a' := ?_) #[tT, tT, tT, tT, tT, tT, tT, tT, tT, tT, tT, tT, tT, tT, tT, tT, tT, tT, tT, tT, tT, tT, tT, tT, tT, tT, tT, tT, tT, tT, tT, tT, tT, tT, tT, tT, tT, tT] rfl rfl (by kernel_rfl) (fun _ _ _ h => h) (Or.inl ⟨by rfl, ?_⟩) ?_ ?_
      rotate_left
      · intro w'
        go_simp
        with_reducible rfl
      rotate_left
      · simp only [Act.put, sA, sZ, sS, i64_w, i32_w]
        rfl
      refine done_ (by kernel_rfl) ?_
      have HB9 := Aside0.mk (HBW.out.trans ((HDR.out.trans (hb9.mono HDR.out.size)).mono HBW.out.size))
      clear hb9 hHeld HSS hdr
      go_wp2
      go_roundg k1
      case measure => omega
      case rel => exact ⟨k + 1, by omega, by go_num, HB9⟩
end Go.Proofs.YtamcicojockhpabGreatDoor.Wi
end
section
set_option linter.unusedVariables false
set_option linter.unusedSimpArgs false
namespace Go.Proofs.YtamcicojockhpabGreatDoor.Wi
open Go.RowKit Go.Proofs.YtamcicojockhpabGreatDoorW.PrintWords Go.Proofs.YtamcicojockhpabGreatDoorW.PrintLast Go.Proofs.YtamcicojockhpabGreatDoorW.PrintMore
open Go.Proofs.YtamcicojockhpabGreatDoor.Lx Go.Proofs.YtamcicojockhpabGreatDoor.PS Go.Proofs.YtamcicojockhpabGreatDoor.Tr
def lineA : ByteArray := ⟨#[123, 34, 112, 34, 58, 48, 44, 34, 116, 34, 58, 34, 111, 107, 34, 44, 34, 102, 34, 58, 91, 91, 34, 119, 34, 44, 34, 120, 34, 44, 49, 93, 44, 91, 34, 114, 34, 44, 34, 121, 34, 44, 110, 117, 108, 108, 93, 93, 125, 10]⟩
def evA : Ev := ⟨0, 1, [⟨1, ⟨#[120]⟩, 1, false, []⟩, ⟨5, ⟨#[121]⟩, 0, true, []⟩]⟩
theorem events_A : eventsR lineA.data.toList = ([evA], 0, 0) := by kernel_rfl
theorem print_A : printE [evA] = (lineA.data.toList, 0) := by kernel_rfl
theorem check_A : checkR [⟨0, 9, []⟩] = 1 := by kernel_rfl
theorem fitsE_A : ∀ e ∈ [evA], fitsE e := by
  intro e he
  rw [List.mem_singleton.1 he]
  exact ⟨by decide, by decide⟩
theorem numsE_A : ∀ e ∈ [evA], numsE e := by
  intro e he
  rw [List.mem_singleton.1 he]
  refine ⟨⟨by decide, by decide⟩, ?_⟩
  intro c hc
  simp only [evA, List.mem_cons, List.not_mem_nil, or_false] at hc
  rcases hc with rfl | rfl <;> exact ⟨⟨by decide, by decide⟩, fun n hn => by cases hn⟩
set_option maxRecDepth 100000 in
set_option maxHeartbeats 4000000 in
theorem alive_calls (m : Int) (w : World) (hm : w.cell? ⟨2, 0, none⟩ = some (.int .i64 m)) (hlw : ∀ w1, Below w.heap.size w w1 → LW w1) :
    Calls Tryz.prog 4 #[] w fun e w' => e = .returned (.bool true) ∧ Below w.heap.size w w' := by
  have HLW := Aside0.mk hlw
  have HEV := Aside0.mk (Events_calls lineA m w (by decide) hm (fun w1 h => (hlw w1 h).te))
  rw [events_A] at HEV
  clear hm hlw
  go_enter Tryz.func4, Tryz.ntmps4
  go_wp2_with fail
  refine HEV.out.mono ?_
  clear HEV
  rintro e w1 ⟨hb1, v2, rfl, hr⟩
  obtain ⟨A, c, e2, lc, gc⟩ := Kd.R_reads hr
  have e2' : v2 = .slice A 1 c := e2
  subst e2'
  clear e2
  have hx1 : Below w1.heap.size w1 (w1.alloc (.cells #[.int .i64 0, .int .i64 0] 28 (0, 0))) := (Below.refl _ _).alloc (Nat.le_refl _) _
  have HX1 := Aside0.mk (hb1.trans (hx1.mono hb1.size))
  have GC := Aside0.mk (Kd.C_below gc hx1)
  have NF := Aside0.mk (blk_new w1 (.cells #[.int .i64 0, .int .i64 0] 28 (0, 0)))
  clear hb1 hr gc hx1
  go_wp2_with fail
  generalize w1.alloc (.cells #[.int .i64 0, .int .i64 0] 28 (0, 0)) = X1 at *
  refine (Print_calls [evA] A c X1 (by decide) fitsE_A numsE_A GC.out (fun w9 h => HLW.out w9 (HX1.out.trans (h.mono HX1.out.size)))).mono ?_
  rw [print_A]
  rintro e w2 ⟨rfl, hb2⟩
  have HX2 := Aside0.mk (HX1.out.trans (hb2.mono HX1.out.size))
  have NF2 := Aside0.mk ((hb2.block _ (blk_lt NF.out)).trans NF.out)
  obtain ⟨ad, A2, c2, e', x0, x1, x2, l2, g2⟩ := at_T35 (Kd.C_below GC.out hb2) (0 : Int) (by decide) (by decide)
  cases e'
  rw [show rd_T35 [evA] (0 : Int) = evA from rfl] at x0 x1 x2 l2 g2
  obtain ⟨ac, A4, c4, e', y0, y1, y2, y3, y4, l4, g4⟩ := at_T38 g2 (1 : Int) (by decide) (by decide)
  cases e'
  rw [show rd_T38 evA.f2 (1 : Int) = ⟨5, ⟨#[121]⟩, 0, true, []⟩ from rfl] at y3
  have x2' := x2
  rw [show ad.add ((0 : Int).toNat * 3) = ad by show ad.add 0 = ad; unfold Addr.add; split <;> simp_all] at x2'
  have y3' : w2.cell? ⟨ac.block, ac.off + 8, none⟩ = some (.bool true) := y3
  have x2'' : w2.cell? ⟨ad.block, ad.off + 2, none⟩ = some (.slice (some ac) 2 c2) := x2'
  have f0 := blk_cell NF2.out 0
  clear x0 x1 x2 x2' l2 g2 y0 y1 y2 y3 y4 l4 g4 hb2
  have hc2 : (1 : Int) < 2 := by decide
  have hLA : (⟨lineA.data.toList.toArray⟩ : ByteArray) = lineA := rfl
  rw [hLA]
  unfold lineA
  go_wp2_with fail
  have ne := blk_new w2 (.cells #[.int .i64 0, .int .i64 9, .slice none 0 0] 35 (0, 0))
  have HX3 := Aside0.mk (HX2.out.trans (((Below.refl w2.heap.size w2).alloc (Nat.le_refl _) (.cells #[.int .i64 0, .int .i64 9, .slice none 0 0] 35 (0, 0))).mono HX2.out.size))
  have RE : k35.R 35 (w2.alloc (.cells #[.int .i64 0, .int .i64 9, .slice none 0 0] 35 (0, 0))) 0 (fun _ => True) (.slice (some ⟨w2.heap.size, 0, none⟩) 1 1) [⟨0, 9, []⟩] :=
    ⟨fun _ _ => trivial, [.int .i64 0, .int .i64 9, .slice none 0 0], ⟨rfl, .inr ⟨w2.heap.size, 1, _, rfl, Nat.zero_le _, ne, Nat.le_refl _, by decide, rfl, rfl⟩⟩, Reps.c3 (k35_mkM _ 0 _ (⟨0, 9, []⟩ : Ev) (Kd.R_nil _ _ _ _ _)) (Reps.none _ _)⟩
  obtain ⟨A9, c9, e9, l9, g9⟩ := Kd.R_reads RE
  cases e9
  refine (Check_calls [⟨0, 9, []⟩] (some ⟨w2.heap.size, 0, none⟩) 1 _ (by decide) (by intro e he; rw [List.mem_singleton.1 he]; exact ⟨by decide, fun c hc => by cases hc⟩) g9).mono ?_
  rw [check_A]
  rintro e w4 ⟨rfl, hb4⟩
  have HX4 := Aside0.mk (HX3.out.trans (hb4.mono HX3.out.size))
  clear hb4 RE g9 ne
  go_wp2
  go_ret
  exact ⟨rfl, HX4.out⟩
end Go.Proofs.YtamcicojockhpabGreatDoor.Wi
end
section
set_option linter.unusedVariables false
set_option linter.unusedSimpArgs false
namespace Go.Proofs.YtamcicojockhpabGreatDoor.Wi
open Go.RowKit
open Go.Proofs.YtamcicojockhpabGreatDoor.Lx Go.Proofs.YtamcicojockhpabGreatDoor.PS Go.Proofs.YtamcicojockhpabGreatDoor.Tr
theorem splitL_line (a r : List UInt8) (h : (10 : UInt8) ∉ a) : splitL (a ++ 10 :: r) = a :: splitL r := by
  induction a with
  | nil => rw [List.nil_append, splitL, if_pos rfl]
  | cons c a ih =>
    rw [List.mem_cons, not_or] at h
    rw [List.cons_append, splitL, if_neg (fun e => h.1 e.symm), ih h.2]
theorem splitL_lines (ls : List (List UInt8)) (h : ∀ a ∈ ls, (10 : UInt8) ∉ a) : splitL ((ls.map (· ++ [10])).flatten) = ls ++ [[]] := by
  induction ls with
  | nil => rfl
  | cons a ls ih =>
    rw [List.map_cons, List.flatten_cons, List.append_assoc, List.singleton_append, splitL_line _ _ (h a (by simp)), ih (fun x hx => h x (by simp [hx])), List.cons_append]
theorem let_all (k : Int) (h1 : 1 ≤ k) (h8 : k ≤ 8) : atL (letC k) = k - 1 ∧ (letC k).size = 1 := by
  have hc : k = 1 ∨ k = 2 ∨ k = 3 ∨ k = 4 ∨ k = 5 ∨ k = 6 ∨ k = 7 ∨ k = 8 := by omega
  rcases hc with rfl | rfl | rfl | rfl | rfl | rfl | rfl | rfl <;> exact ⟨by kernel_rfl, by kernel_rfl⟩
theorem sound_cases {c : Cl} {ev : Int} (h : soundC c ev = true) : (c.f0 ≤ 4 → c.f3 = false ∧ c.f4 = []) ∧ (4 < c.f0 → c.f2 = 0 ∧ c.f3 = decide (ev = 1) ∧ (c.f3 = false → c.f4 = []) ∧ (c.f3 = true → c.f0 = 5 → c.f4.length ≤ 1) ∧ (c.f3 = true → c.f0 = 8 → c.f4.length = 1)) := by
  unfold soundC at h
  split at h
  · cases h
  · split at h
    · rename_i h4
      simp only [Bool.and_eq_true, Bool.not_eq_true', decide_eq_true_eq] at h
      exact ⟨fun _ => ⟨h.1, List.eq_nil_of_length_eq_zero h.2.1⟩, fun h5 => absurd h4 (by omega)⟩
    · rename_i h4
      refine ⟨fun h5 => absurd h5 h4, fun _ => ?_⟩
      split at h
      · cases h
      · rename_i h2
        rw [not_or, Decidable.not_not, Decidable.not_not] at h2
        have he : (ev == 1) = decide (ev = 1) := by by_cases h : ev = 1 <;> simp [h]
        refine ⟨h2.1, h2.2.trans he, ?_⟩
        split at h
        · rename_i h3
          exact ⟨fun _ => List.eq_nil_of_length_eq_zero (of_decide_eq_true h), fun e => (by rw [h3] at e; cases e), fun e => (by rw [h3] at e; cases e)⟩
        · rename_i h3
          simp only [Bool.and_eq_true, leastV, mostV] at h
          refine ⟨fun e => absurd e h3, fun _ h5 => ?_, fun _ h8 => ?_⟩
          · have := of_decide_eq_true h.2.1
            rw [if_pos h5] at this
            omega
          · have h6 := of_decide_eq_true h.2.1
            have h7 := of_decide_eq_true h.1
            rw [if_neg (by omega), if_pos h8] at h6
            rw [if_pos h8] at h7
            omega
theorem valsR_got (c : Cl) (h1 : 1 ≤ c.f0) (h8 : c.f0 ≤ 8) (h4 : 4 < c.f0) (h5 : c.f0 = 5 → c.f4.length ≤ 1) (h8' : c.f0 = 8 → c.f4.length = 1) : valsR c.f0 (gotV c) = (c.f4, true) := by
  unfold valsR gotV
  by_cases h67 : c.f0 = 6 ∨ c.f0 = 7
  · rw [if_pos h67, if_pos h67]
    have : (arrV (c.f4.map numV)).f3 = c.f4.map numV := rfl
    rw [this, if_pos (List.all_eq_true.2 fun x hx => by obtain ⟨n, _, rfl⟩ := List.mem_map.1 hx; rfl), List.map_map]
    have e : ((fun x : V => x.f1) ∘ numV) = id := rfl
    rw [e, List.map_id]
    rfl
  · rw [if_neg h67, if_neg h67]
    match hc : c.f4, h5, h8' with
    | [], _, h8' =>
      have : c.f0 = 5 := by
        have := fun e => h8' e
        simp only [List.length_nil] at this
        omega
      simp [nulV, this]
    | [a], _, _ =>
      simp [numV]
    | a :: b :: t, h5, h8' =>
      simp only [List.length_cons] at h5 h8'
      omega
theorem callR_callV (c : Cl) (ev : Int) (hs : soundC c ev = true) : callR (callV c) ev = some c := by
  obtain ⟨_, _, h1, h8⟩ := sound_len hs
  obtain ⟨hlo, hhi⟩ := sound_cases hs
  obtain ⟨hat, hsz⟩ := let_all c.f0 h1 h8
  have hk : atL (letC c.f0) + 1 = c.f0 := by rw [hat]; omega
  have e0 : (callV c).f3 = txtV (letC c.f0) :: txtV c.f1 :: tailV c := rfl
  have g0 : (callV c).f3.getD 0 zV = txtV (letC c.f0) := rfl
  have g1 : (callV c).f3.getD 1 zV = txtV c.f1 := rfl
  have g2 : (callV c).f3.getD 2 zV = (tailV c).getD 0 zV := rfl
  have hlen : (callV c).f3.length = (tailV c).length + 2 := rfl
  unfold callR
  rw [g0, g1, g2, hlen]
  rw [if_neg (by rw [not_or]; exact ⟨fun h => h rfl, by omega⟩), if_neg (by rw [not_or]; exact ⟨fun h => h rfl, fun h => h rfl⟩)]
  rw [show (txtV (letC c.f0)).f2 = letC c.f0 from rfl, show (txtV c.f1).f2 = c.f1 from rfl, hk]
  rw [if_neg (by rw [not_or]; exact ⟨fun h => h hsz, by rw [hat]; omega⟩)]
  obtain ⟨k, key, arg, got, vals⟩ := c
  dsimp only at *
  by_cases h4 : k ≤ 4
  · obtain ⟨hg, hv⟩ := hlo h4
    subst hg
    subst hv
    have ht : tailV ⟨k, key, arg, false, []⟩ = [numV arg] := by unfold tailV; rw [if_pos h4]
    rw [ht, if_pos h4, if_neg (by rw [not_or]; exact ⟨fun h => h rfl, fun h => h rfl⟩)]
    show chkC ⟨k, key, arg, false, []⟩ ev = _
    unfold chkC
    rw [if_pos hs]
  · obtain ⟨h2, h3, h5, h6, h7⟩ := hhi (by omega)
    subst h2
    rw [if_neg h4]
    cases got with
    | false =>
      have hv := h5 rfl
      subst hv
      have hev : ev ≠ 1 := by
        intro e
        rw [e] at h3
        cases h3
      have ht : tailV ⟨k, key, 0, false, []⟩ = [] := by unfold tailV; rw [if_neg h4]; rfl
      rw [ht, if_neg hev, if_neg (fun h => h rfl)]
      unfold chkC
      rw [if_pos hs]
    | true =>
      have hev : ev = 1 := of_decide_eq_true h3.symm
      have ht : tailV ⟨k, key, 0, true, vals⟩ = [gotV ⟨k, key, 0, true, vals⟩] := by unfold tailV; rw [if_neg h4]; rfl
      have hr := valsR_got ⟨k, key, 0, true, vals⟩ h1 h8 (show 4 < k by omega) (h6 rfl) (h7 rfl)
      rw [ht, if_pos hev, if_neg (fun h => h rfl)]
      rw [show [gotV ⟨k, key, 0, true, vals⟩].getD 0 zV = gotV ⟨k, key, 0, true, vals⟩ from rfl]
      dsimp only at hr
      rw [hr]
      rw [if_pos rfl]
      unfold chkC
      rw [if_pos hs]
theorem kup_kindT (k : Int) (h0 : 0 ≤ k) (h3 : k ≤ 3) : kup (kindT k) 4 = k := by
  have hc : k = 0 ∨ k = 1 ∨ k = 2 ∨ k = 3 := by omega
  rcases hc with e | e | e | e <;> (rw [e]; first | rfl | decide +kernel)
theorem callsR_all (l : List Cl) (ev : Int) (h : ∀ c ∈ l, soundC c ev = true) : callsR (l.map callV) ev = some l := by
  unfold callsR
  rw [if_pos (List.all_eq_true.2 fun x hx => by obtain ⟨c, hm, rfl⟩ := List.mem_map.1 hx; rw [callR_callV c ev (h c hm)]; rfl)]
  congr 1
  induction l with
  | nil => rfl
  | cons c l ih =>
    rw [List.map_cons, List.filterMap_cons, callR_callV c ev (h c (by simp))]
    dsimp only
    rw [ih (fun x hx => h x (by simp [hx]))]
theorem badE_cases {e : Ev} (h : badE e = false) : 0 ≤ e.f1 ∧ e.f1 ≤ 3 ∧ e.f2.length ≤ 16 ∧ ∀ c ∈ e.f2, soundC c e.f1 = true := by
  simp only [badE, Bool.or_eq_false_iff, decide_eq_false_iff_not, List.any_eq_false, Bool.not_eq_true', Bool.not_eq_false] at h
  exact ⟨by omega, by omega, by omega, h.2.2.2⟩
theorem eventR_eventV (e : Ev) (hb : badE e = false) (hn : numsE e) : eventR (eventV e) = some e := by
  obtain ⟨h0, h3, hl, hc⟩ := badE_cases hb
  have hs := (ok_event e hb hn).s
  have g : ∀ (nm : ByteArray) (i : Nat), idxB nm namesE = some i → getR (eventV e) nm = ((eventV e).f3.getD i zV, true) := by
    intro nm i hi
    unfold getR
    rw [if_pos ⟨rfl, hs⟩]
    rw [show (eventV e).f4 = namesE from rfl, hi]
  unfold eventR
  rw [g ⟨#[112]⟩ 0 (by kernel_rfl), g ⟨#[116]⟩ 1 (by kernel_rfl), g ⟨#[102]⟩ 2 (by kernel_rfl)]
  unfold evF
  have hk := kup_kindT e.f1 h0 h3
  rw [if_pos ⟨rfl, rfl, rfl, rfl, rfl, rfl, rfl, show (e.f2.map callV).length ≤ 16 by rw [List.length_map]; exact hl⟩]
  rw [show ((eventV e).f3.getD 1 zV, true).1.f2 = kindT e.f1 from rfl, hk, if_neg (by omega)]
  rw [show ((eventV e).f3.getD 2 zV, true).1.f3 = e.f2.map callV from rfl, callsR_all e.f2 e.f1 hc]
  rfl
theorem quoteB_ne (c : UInt8) : (10 : UInt8) ∉ quoteB c := by
  unfold quoteB
  split
  · rename_i h
    intro hm
    simp only [List.mem_cons, List.not_mem_nil, or_false] at hm
    rcases hm with h1 | h1
    · cases h1
    · rw [← h1] at h
      rcases h with h | h <;> cases h
  · split
    · decide
    · split
      · decide
      · split
        · intro hm
          simp only [List.mem_cons, List.not_mem_nil, or_false] at hm
          have hx : ∀ n, n < 16 → hexC n ≠ 10 := by decide
          have hc : c.toNat < 256 := UInt8.toNat_lt c
          rcases hm with h1 | h1 | h1 | h1 | h1 | h1
          · cases h1
          · cases h1
          · cases h1
          · cases h1
          · exact hx _ (by omega) h1.symm
          · exact hx _ (by omega) h1.symm
        · rename_i h10 _ _
          intro hm
          exact h10 (List.mem_singleton.1 hm).symm
theorem quoteR_ne (l : List UInt8) : (10 : UInt8) ∉ quoteR l := by
  unfold quoteR
  intro hm
  rcases List.mem_cons.1 hm with h | h
  · cases h
  · rcases List.mem_append.1 h with h | h
    · obtain ⟨c, _, h⟩ := List.mem_flatMap.1 h
      exact quoteB_ne c h
    · cases List.mem_singleton.1 h
theorem dec_ne (n : Nat) : (10 : UInt8) ∉ Lib.decDigits n := fun h => by
  have := (decDigits_facts n).2.1 10 h
  exact absurd this (by decide)
theorem itoa_ne (n : Int) : (10 : UInt8) ∉ Lib.itoa n := by
  by_cases h : n < 0
  · obtain ⟨u, hu, rfl⟩ : ∃ u : Nat, 0 < u ∧ n = -(u : Int) := ⟨n.natAbs, by omega, by omega⟩
    rw [itoa_neg hu]
    intro hm
    rcases List.mem_cons.1 hm with h | h
    · cases h
    · exact dec_ne u h
  · obtain ⟨u, rfl⟩ : ∃ u : Nat, n = (u : Int) := ⟨n.toNat, by omega⟩
    rw [itoa_nat u]
    exact dec_ne u
theorem leaf_ne (x : V) : (10 : UInt8) ∉ leafW x := by
  unfold leafW
  split
  · decide
  · split
    · cases h : (x.f1 == 1) <;> decide
    · split
      · exact itoa_ne _
      · split
        · exact quoteR_ne _
        · simp
theorem elems_ne (f : V → List UInt8) (hf : ∀ x, (10 : UInt8) ∉ f x) (m : Bool) : ∀ (i : Nat) (l : List V) (ns : List ByteArray), (10 : UInt8) ∉ elemsW f m i l ns
  | _, [], _ => by simp [elemsW]
  | i, y :: ys, ns => by
    unfold elemsW
    intro hm
    simp only [List.mem_append] at hm
    rcases hm with ((h | h) | h) | h
    · split at h
      · cases h
      · cases List.mem_singleton.1 h
    · split at h
      · rcases List.mem_append.1 h with h | h
        · exact quoteR_ne _ h
        · cases List.mem_singleton.1 h
      · cases h
    · exact hf y h
    · exact elems_ne f hf m (i + 1) ys ns.tail h
theorem write_ne : ∀ (d : Nat) (x : V), (10 : UInt8) ∉ writeD d x
  | 0, x => leaf_ne x
  | d + 1, x => by
    unfold writeD
    split
    · intro hm
      simp only [List.mem_append, List.mem_singleton] at hm
      rcases hm with (h | h) | h
      · cases h
      · exact elems_ne _ (write_ne d) _ _ _ _ h
      · cases h
    · split
      · intro hm
        simp only [List.mem_append, List.mem_singleton] at hm
        rcases hm with (h | h) | h
        · cases h
        · exact elems_ne _ (write_ne d) _ _ _ _ h
        · cases h
      · exact leaf_ne x
theorem step_line (e : Ev) (fr : Nat) (acc : List Ev) (hb : badE e = false) (hn : numsE e) (hl : (writeD 8 (eventV e)).length ≤ 65536) (ha : acc.length < 256) :
    stepE (.go fr acc) (writeD 8 (eventV e)) = .go (fr + (writeD 8 (eventV e)).length + 1) (acc ++ [e]) := by
  have hp := parse_print (eventV e) (ok_event e hb hn).s (ok_event e hb hn).n hl
  have hbl : ¬ blankL (writeD 8 (eventV e)) = true := by
    show ¬ blankL (123 :: _) = true
    unfold blankL
    rw [List.all_cons]
    simp
  rw [stepE, if_neg hbl, hp, if_neg (fun h => h rfl), eventR_eventV e hb hn]
  dsimp only
  rw [if_neg (by omega)]
theorem runE_lines : ∀ (l : List Ev) (fr : Nat) (acc : List Ev), (∀ e ∈ l, badE e = false) → (∀ e ∈ l, numsE e) → (∀ e ∈ l, (writeD 8 (eventV e)).length ≤ 65536) → acc.length + l.length ≤ 256 →
    ∃ fr', (l.map fun e => writeD 8 (eventV e)).foldl stepE (.go fr acc) = .go fr' (acc ++ l)
  | [], fr, acc, _, _, _, _ => ⟨fr, by simp⟩
  | e :: l, fr, acc, hb, hn, hl, ha => by
    rw [List.map_cons, List.foldl_cons, step_line e fr acc (hb e (by simp)) (hn e (by simp)) (hl e (by simp)) (by simp at ha; omega)]
    obtain ⟨fr', h⟩ := runE_lines l _ (acc ++ [e]) (fun x hx => hb x (by simp [hx])) (fun x hx => hn x (by simp [hx])) (fun x hx => hl x (by simp [hx])) (by simp at ha ⊢; omega)
    exact ⟨fr', by rw [h]; simp⟩
theorem checkR_zero {l : List Ev} (h : checkR l = 0) : l.length ≤ 256 ∧ ∀ e ∈ l, badE e = false := by
  unfold checkR at h
  split at h
  · cases h
  · rename_i hn
    rw [not_or] at hn
    refine ⟨by omega, fun e he => ?_⟩
    cases hb : badE e with
    | false => rfl
    | true => exact absurd (List.any_eq_true.2 ⟨e, he, hb⟩) hn.2
theorem back_pure (l : List Ev) (hc : checkR l = 0) (hn : ∀ e ∈ l, numsE e) (hl : ((l.map lineB).flatten).length ≤ 65536) : eventsR (l.map lineB).flatten = (l, 0, 0) := by
  obtain ⟨h256, hb⟩ := checkR_zero hc
  have hsp : splitL (l.map lineB).flatten = (l.map fun e => writeD 8 (eventV e)) ++ [[]] := by
    have h := splitL_lines (l.map fun e => writeD 8 (eventV e)) (fun a ha => by obtain ⟨e, _, rfl⟩ := List.mem_map.1 ha; exact write_ne 8 _)
    rw [List.map_map] at h
    exact h
  have hlen : ∀ e ∈ l, (writeD 8 (eventV e)).length ≤ 65536 := by
    intro e he
    have h1 : (lineB e).length ≤ ((l.map lineB).flatten).length := by
      have := List.sublist_flatten_of_mem (List.mem_map_of_mem (f := lineB) he)
      exact this.length_le
    have h2 : (lineB e).length = (writeD 8 (eventV e)).length + 1 := by unfold lineB; rw [List.length_append, List.length_singleton]
    omega
  obtain ⟨fr', hr⟩ := runE_lines l 0 [] hb hn hlen (by simpa using h256)
  unfold eventsR
  rw [if_neg (by omega), hsp, runE_snoc]
  unfold runE
  rw [hr]
  rfl
end Go.Proofs.YtamcicojockhpabGreatDoor.Wi
end
section
set_option linter.unusedVariables false
set_option linter.unusedSimpArgs false
namespace Go.Proofs.YtamcicojockhpabGreatDoor.Wi
open Go.ChangeShapes Go.WideShapes Go.ChangeAt Go.RowKit
open Go.Proofs.YtamcicojockhpabGreatDoor.Opn Go.Proofs.YtamcicojockhpabGreatDoorW.PrintWords
open Go.Proofs.YtamcicojockhpabGreatDoor.Lx Go.Proofs.YtamcicojockhpabGreatDoor.PS Go.Proofs.YtamcicojockhpabGreatDoor.Tr
theorem laid_at {P : Program} {W : World} {name : String} {g : Nat} {t : TypeId} (hg : P.globalNamed name = some g) (hty : (P.globals[g]?).map (·.type) = some t) :
    ∀ {laid : List (String × DataW Unit)} {ps : List MemPlace} {d : DataW Unit}, DataW.LaidVars P W laid ps → (name, d) ∈ laid → ∃ cs fuel p, W.var? P name = some cs ∧ DataW.trod (fun _ => ()) P W 0 (fun _ => true) false fuel t cs.toList = some (d, p)
  | [], _, _, _, h => by cases h
  | (nm, d0) :: r, ps, d, hL, h => by
    obtain ⟨g', t', cs, fuel, p, q, hg', ht', hvar, hdd, hrest, _⟩ := hL
    rcases List.mem_cons.1 h with e0 | h
    · cases e0
      obtain rfl := Option.some.inj (hg.symm.trans hg')
      obtain rfl := Option.some.inj (hty.symm.trans ht')
      exact ⟨cs, fuel, p, hvar, hdd⟩
    · exact laid_at hg hty hrest h
theorem var_cell {P : Program} {W : World} {name : String} {g : Nat} {cs : Array Value} (hg : P.globalNamed name = some g) (h : W.var? P name = some cs) (j : Nat) : W.cell? ⟨g, j, none⟩ = cs[j]? := by
  unfold World.var? at h
  rw [hg, Option.bind_some] at h
  unfold World.cell?
  cases hh : W.heap[g]? with
  | none => rw [hh] at h; cases h
  | some o =>
    rw [hh] at h
    cases o with
    | cells c t f => cases h; rfl
    | _ => cases h
theorem err_laid {W : World} {laid : List (String × DataW Unit)} {ps : List MemPlace} {name : String} {g : Nat} {tn : String} {d : DataW Unit} (hg : Tryz.prog.globalNamed name = some g) (hty : (Tryz.prog.globals[g]?).map (·.type) = some 55)
    (h : DataW.LaidVars Tryz.prog W laid ps) (hm : (name, .iface tn d) ∈ laid) : ∃ ev, W.cell? ⟨g, 0, none⟩ = some ev ∧ (ev = .nilIface ∨ ∃ te pe, ev = .iface te pe) := by
  obtain ⟨cs, fuel, p, hv, ht⟩ := laid_at hg hty h hm
  obtain ⟨_, u, v, hcs, _, _⟩ := iface_of_trod Tryz.underlying55 ht
  refine ⟨.iface u v, ?_, .inr ⟨_, _, rfl⟩⟩
  rw [var_cell hg hv]
  have : cs = #[.iface u v] := by
    apply Array.ext'
    exact hcs
  rw [this]
  rfl
def deB : List Int := [0, 1, 56, 2, 57, 49, 28, 3, 61, 58, 42, 50, 38, 29, 17, 4, 62, 47, 59, 36, 45, 43, 51, 22, 53, 39, 33, 30, 24, 18, 12, 5, 63, 55, 48, 27, 60, 41, 37, 16, 46, 35, 44, 21, 52, 32, 23, 11, 54, 26, 40, 15, 34, 20, 31, 10, 25, 14, 19, 9, 13, 8, 7, 6]
set_option maxRecDepth 100000 in
theorem lw_of {W : World} {laid : List (String × DataW Unit)} (hp : (laid.filter fun x => x.2.handleName?.isSome) = []) (h : laidMetH Tryz.prog laid W)
    (h1 : ("internal/strconv.uint64pow10", Rows.laid_internal_strconv_uint64pow10) ∈ laid) (h2 : ("math/bits.deBruijn64tab", Rows.laid_math_bits_deBruijn64tab) ∈ laid) (h3 : ("strconv.ErrRange", Rows.laid_strconv_ErrRange) ∈ laid) (h4 : ("strconv.ErrSyntax", Rows.laid_strconv_ErrSyntax) ∈ laid) : LW W := by
  unfold laidMetH at h
  rw [hp] at h
  obtain ⟨ps, hL, _⟩ := h
  refine ⟨⟨err_laid (name := "strconv.ErrSyntax") (by kernel_rfl) (by kernel_rfl) hL h4, err_laid (name := "strconv.ErrRange") (by kernel_rfl) (by kernel_rfl) hL h3⟩, ?_, ?_⟩
  · have ht : Lib.TabIs Tryz.prog W "math/bits.deBruijn64tab" .u8 deB := laid_mem (g := 5) (t := 178) (e := 5) (n := 64) (by kernel_rfl) (by kernel_rfl) Tryz.underlying178 Tryz.underlying5 (by kernel_rfl) (by kernel_rfl) hL ⟨_, h2, rfl⟩
    exact (var_cell (name := "math/bits.deBruijn64tab") (by kernel_rfl) ht 15).trans rfl
  · exact laid_mem (g := 3) (t := 160) (e := 143) (n := 20) (by kernel_rfl) (by kernel_rfl) Tryz.underlying160 Tryz.underlying143 (by kernel_rfl) (by kernel_rfl) hL ⟨_, h1, rfl⟩
theorem bulk_1 {H : Type} {a : DataW H} (h : Rows.uptoSmall H ([a] ++ []) = true) : Rows.uptoBulk a ≤ 1048576 := by
  simp [Rows.uptoSmall, Rows.uptoBulkAll] at h
  omega
theorem ml_of {W : World} (h : W.ShapedOpen Tryz.prog) : ∃ m, W.cell? ⟨2, 0, none⟩ = some (.int .i64 m) := Go.Proofs.cell_of_shapedOpen_int (zero := #[.int .i64 0]) (t := 3) h (of_decide_eq_true (by kernel_rfl)) (by kernel_rfl) rfl (by kernel_rfl) (by kernel_rfl) Tryz.underlying3
theorem gPow : ∃ g, Tryz.prog.globalNamed "internal/strconv.uint64pow10" = some g := by
  have h : (Tryz.prog.globalNamed "internal/strconv.uint64pow10").isSome = true := by kernel_rfl
  exact Option.isSome_iff_exists.1 h
theorem p10_below {w w' : World} (h : P10 w) (hb : Below w.heap.size w w') : P10 w' := by
  obtain ⟨g, hg⟩ := gPow
  unfold P10 Lib.TabIs World.var? at h ⊢
  rw [hg] at h ⊢
  simp only [Option.bind_some] at h ⊢
  have hlt : g < w.heap.size := by
    rcases Nat.lt_or_ge g w.heap.size with h' | h'
    · exact h'
    · rw [Array.getElem?_eq_none h'] at h; cases h
  rw [hb.block g hlt]
  exact h
theorem lw_below {w w' : World} (h : LW w) (hb : Below w.heap.size w w') : LW w' := ⟨h.te.below hb, h.deb.below hb, p10_below h.p10 hb⟩
theorem wf_n {n : Int} (h : (Lit.int .i64 n).wf = true) : numOk n := by
  have := h
  simp only [Lit.wf, Bool.and_eq_true, decide_eq_true_eq] at this
  exact ⟨this.1, this.2⟩
theorem sum_ge' {α : Type} (f : α → Nat) : ∀ (l : List α) (y : α), y ∈ l → f y ≤ (l.map f).sum
  | [], _, h => by cases h
  | x :: l, y, h => by
    rw [List.map_cons, List.sum_cons]
    rcases List.mem_cons.1 h with e | e
    · rw [e]; omega
    · have := sum_ge' f l y e; omega
theorem sum_len' {α : Type} (f : α → Nat) (h : ∀ x, 1 ≤ f x) : ∀ l : List α, l.length ≤ (l.map f).sum
  | [] => by simp
  | x :: l => by
    have := sum_len' f h l
    have := h x
    rw [List.map_cons, List.sum_cons, List.length_cons]
    omega
set_option maxRecDepth 100000 in
theorem opens_call : Opens 38 k38 (fun x => numOk x.f2 ∧ ∀ n ∈ x.f4, numOk n) (fun x => x.f4.length + 1) := by
  intro H enc w base sp held fuel cs x h
  obtain ⟨xs, n, _, rfl, hl, hlen, hf⟩ := DataW.trod_struct Tryz.underlying38 h
  match xs, hlen with
  | [y0, y1, y2, y3, y4], _ =>
    have g0 := hf 0 _ rfl
    have g1 := hf 1 _ rfl
    have g2 := hf 2 _ rfl
    have g3 := hf 3 _ rfl
    have g4 := hf 4 _ rfl
    have hl5 : cs.length = 5 := hl
    match cs, hl5 with
    | [c0, c1, c2, c3, c4], _ =>
      obtain ⟨n0, e0, w0, s0⟩ := opens_int (k := .i64) (by kernel_rfl) enc w base sp held n _ _ g0
      obtain ⟨n1, e1, w1, s1⟩ := opens_string (by kernel_rfl) enc w base sp held n _ _ g1
      obtain ⟨n2, e2, w2, s2⟩ := opens_int (k := .i64) (by kernel_rfl) enc w base sp held n _ _ g2
      obtain ⟨n3, e3, w3, s3⟩ := opens_bool (by kernel_rfl) enc w base sp held n _ _ g3
      obtain ⟨l4, ⟨A4, c4', e4, m4, C4⟩, w4, s4⟩ := opens_slice (d := Kd.int .i64) Tryz.underlying36 (by kernel_rfl) (opens_int (k := .i64) Tryz.underlying2) enc w base sp held n _ _ g4
      have f0 : [c0] = [.int .i64 n0] := e0
      have f1 : [c1] = [.string n1] := e1
      have f2 : [c2] = [.int .i64 n2] := e2
      have f3 : [c3] = [.bool n3] := e3
      have f4 : [c4] = [.slice A4 l4.length c4'] := e4
      cases f0
      cases f1
      cases f2
      cases f3
      cases f4
      refine ⟨⟨n0, n1, n2, n3, l4⟩, k38_mk w ⟨n0, n1, n2, n3, l4⟩ m4 C4, ⟨wf_n w2, fun k hk => wf_n (w4.1 k hk)⟩, ?_⟩
      have hb : Rows.uptoBulk (DataW.agg [y0.1, y1.1, y2.1, y3.1, y4.1]) = Rows.uptoBulk y0.1 + Rows.uptoBulk y1.1 + Rows.uptoBulk y2.1 + Rows.uptoBulk y3.1 + Rows.uptoBulk y4.1 + 1 := by
        simp only [Rows.uptoBulk, Rows.uptoBulkAll]
        omega
      show l4.length + 1 ≤ Rows.uptoBulk (DataW.agg [y0.1, y1.1, y2.1, y3.1, y4.1])
      rw [hb]
      have h4 := sum_len' (fun _ : Int => 1) (fun _ => Nat.le_refl _) l4
      have s4' : (l4.map fun _ : Int => 1).sum + 1 ≤ Rows.uptoBulk y4.1 := s4
      omega
def szE (e : Ev) : Nat := (e.f2.map fun c : Cl => c.f4.length + 1).sum + 1
set_option maxRecDepth 100000 in
theorem opens_event : Opens 35 k35 (fun e => numsE e) szE := by
  intro H enc w base sp held fuel cs x h
  obtain ⟨xs, n, _, rfl, hl, hlen, hf⟩ := DataW.trod_struct Tryz.underlying35 h
  match xs, hlen with
  | [y0, y1, y2], _ =>
    have g0 := hf 0 _ rfl
    have g1 := hf 1 _ rfl
    have g2 := hf 2 _ rfl
    have hl3 : cs.length = 3 := hl
    match cs, hl3 with
    | [c0, c1, c2], _ =>
      obtain ⟨n0, e0, w0, s0⟩ := opens_int (k := .i64) (by kernel_rfl) enc w base sp held n _ _ g0
      obtain ⟨n1, e1, w1, s1⟩ := opens_int (k := .i64) (by kernel_rfl) enc w base sp held n _ _ g1
      obtain ⟨l2, ⟨A2, c2', e2, m2, C2⟩, w2, s2⟩ := opens_slice (d := k38) Tryz.underlying33 (by kernel_rfl) opens_call enc w base sp held n _ _ g2
      have f0 : [c0] = [.int .i64 n0] := e0
      have f1 : [c1] = [.int .i64 n1] := e1
      have f2 : [c2] = [.slice A2 l2.length c2'] := e2
      cases f0
      cases f1
      cases f2
      refine ⟨⟨n0, n1, l2⟩, k35_mk w ⟨n0, n1, l2⟩ m2 C2, ⟨wf_n w0, w2.1⟩, ?_⟩
      have hb : Rows.uptoBulk (DataW.agg [y0.1, y1.1, y2.1]) = Rows.uptoBulk y0.1 + Rows.uptoBulk y1.1 + Rows.uptoBulk y2.1 + 1 := by
        simp only [Rows.uptoBulk, Rows.uptoBulkAll]
        omega
      show szE ⟨n0, n1, l2⟩ ≤ Rows.uptoBulk (DataW.agg [y0.1, y1.1, y2.1])
      rw [hb]
      have s2' : (l2.map fun c : Cl => c.f4.length + 1).sum + 1 ≤ Rows.uptoBulk y2.1 := s2
      show (l2.map fun c : Cl => c.f4.length + 1).sum + 1 ≤ _
      omega
set_option maxRecDepth 100000 in
theorem arg_events {H : Type} {enc : TypeId × Value → H} {W : World} {base : Nat} {sp : Nat → Bool} {held : Bool} {v : Value} {x : DataW H} {ps : List MemPlace} {r : Reach} {b0 : Nat} (hval : Value.okWide Tryz.prog W r b0 22 v) (h : DataW.Trod enc Tryz.prog W base sp held 22 v x ps) (hb : Rows.uptoBulk x ≤ 1048576) :
    ∃ (A : Option Addr) (c : Nat) (l : List Ev), v = .slice A l.length c ∧ l.length ≤ c ∧ k35.C W A l.length l ∧ l.length ≤ 1048576 ∧ (∀ e ∈ l, fitsE e) ∧ ∀ e ∈ l, numsE e := by
  obtain ⟨a, n, c, rfl⟩ := okWide_slice Tryz.underlying22 hval
  obtain ⟨l, ⟨A, c', he, hl, hC⟩, hok, hs⟩ := open_arg (opens_slice (d := k35) Tryz.underlying22 (by kernel_rfl) opens_event) h
  have he' : Value.slice a n c = .slice A l.length c' := by simpa [Value.cells] using he
  cases he'
  have hs' : (l.map szE).sum + 1 ≤ Rows.uptoBulk x := hs
  have h1 := sum_len' szE (fun e => by unfold szE; omega) l
  refine ⟨_, _, l, rfl, hl, hC, by omega, fun e he => ?_, fun e he => hok.1 e he⟩
  have h2 := sum_ge' szE l e he
  have h3 := sum_len' (fun c : Cl => c.f4.length + 1) (fun _ => by omega) e.f2
  have h5 : szE e = (e.f2.map fun c : Cl => c.f4.length + 1).sum + 1 := rfl
  refine ⟨by omega, fun c hc => ?_⟩
  have h4 : c.f4.length + 1 ≤ (e.f2.map fun c : Cl => c.f4.length + 1).sum := sum_ge' (fun c : Cl => c.f4.length + 1) e.f2 c hc
  omega
end Go.Proofs.YtamcicojockhpabGreatDoor.Wi
end
section
set_option linter.unusedVariables false
set_option linter.unusedSimpArgs false
namespace Go.Proofs.YtamcicojockhpabGreatDoor.Wi
open Go.RowKit
open Go.Proofs.YtamcicojockhpabGreatDoor.Lx Go.Proofs.YtamcicojockhpabGreatDoor.PS Go.Proofs.YtamcicojockhpabGreatDoor.Tr
theorem checkR_one {l : List Ev} (h : checkR l = 0) {e : Ev} (he : e ∈ l) : checkR [e] = 0 := by
  have hb := (checkR_zero h).2 e he
  unfold checkR
  rw [if_neg]
  rintro (h1 | h1)
  · simp at h1
  · simp [hb] at h1
theorem alone_line {l : List Ev} {e : Ev} (he : e ∈ l) : (lineB e).length ≤ ((l.map lineB).flatten).length :=
  (List.sublist_flatten_of_mem (List.mem_map_of_mem (f := lineB) he)).length_le
theorem alone_print {l : List Ev} (h : checkR l = 0) {e : Ev} (he : e ∈ l) : printE [e] = (lineB e, 0) := by
  unfold printE
  rw [if_pos (checkR_one h he)]
  simp
theorem alone_events {l : List Ev} (h : checkR l = 0) (hn : ∀ e ∈ l, numsE e) (hl : ((l.map lineB).flatten).length ≤ 65536) {e : Ev} (he : e ∈ l) : eventsR (lineB e) = ([e], 0, 0) := by
  have h1 := back_pure [e] (checkR_one h he) (fun x hx => by rw [List.mem_singleton.1 hx]; exact hn e he) (by
    have := alone_line he
    simp only [List.map_cons, List.map_nil, List.flatten_cons, List.flatten_nil, List.append_nil]
    omega)
  simpa using h1
theorem alone_more (l : List Ev) (k : Nat) (hk : k < l.length) : ((l.take k).map lineB).flatten ++ lineB l[k] = ((l.take (k + 1)).map lineB).flatten := by
  rw [List.take_add_one, List.getElem?_eq_getElem hk, List.map_append, List.flatten_append]
  simp only [Option.toList_some, List.map_cons, List.map_nil, List.flatten_cons, List.flatten_nil, List.append_nil]
theorem alone_upto (l : List Ev) (k : Nat) : (((l.take k).map lineB).flatten).length ≤ ((l.map lineB).flatten).length := by
  have h : l = l.take k ++ l.drop k := (List.take_append_drop k l).symm
  have h2 : (l.map lineB).flatten = ((l.take k).map lineB).flatten ++ ((l.drop k).map lineB).flatten := by
    rw [← List.flatten_append, ← List.map_append, List.take_append_drop]
  rw [h2, List.length_append]
  omega
end Go.Proofs.YtamcicojockhpabGreatDoor.Wi
end
section
set_option linter.unusedVariables false
set_option linter.unusedSimpArgs false
namespace Go.Proofs.YtamcicojockhpabGreatDoor.Wi
open Go.RowKit Go.Proofs.YtamcicojockhpabGreatDoorW.PrintWords Go.Proofs.YtamcicojockhpabGreatDoorW.PrintLast Go.Proofs.YtamcicojockhpabGreatDoorW.PrintMore
open Go.Proofs.YtamcicojockhpabGreatDoor.Lx Go.Proofs.YtamcicojockhpabGreatDoor.PS Go.Proofs.YtamcicojockhpabGreatDoor.Tr
theorem mid_one {l : List Ev} {k : Nat} (h : k < l.length) : (l.take (k + 1)).drop k = [l[k]] := by
  rw [List.take_add_one, List.getElem?_eq_getElem h, List.drop_append_of_le_length (by rw [List.length_take]; omega), List.drop_eq_nil_of_le (by rw [List.length_take]; omega)]
  rfl
set_option maxRecDepth 100000 in
set_option maxHeartbeats 4000000 in
theorem WireAlone_at (l : List Ev) (A : Option Addr) (c : Nat) (m : Int) (w : World) (hl : l.length ≤ 1000000000000) (hlc : l.length ≤ c) (hf : ∀ e ∈ l, fitsE e) (hn : ∀ e ∈ l, numsE e) (hC : k35.C w A l.length l)
    (hm : w.cell? ⟨2, 0, none⟩ = some (.int .i64 m)) (hlw : ∀ w1, Below w.heap.size w w1 → LW w1) :
    Calls Tryz.prog 3 #[.slice A l.length c] w fun e w' => e = .returned (.bool true) ∧ Below w.heap.size w w' := by
  have HA := Aside0.mk (alive_calls m w hm hlw)
  have HLW := Aside0.mk hlw
  have HM := Aside0.mk hm
  have HC := Aside0.mk hC
  have HF := Aside0.mk hf
  have HN := Aside0.mk hn
  have HL := Aside0.mk hl
  have HLC := Aside0.mk hlc
  clear hlw hm hC hf hn hl hlc
  go_enter Tryz.func3, Tryz.ntmps3
  go_wp2_with fail
  refine HA.out.mono ?_
  clear HA
  rintro e w1 ⟨rfl, hb1⟩
  have HB1 := Aside0.mk hb1
  clear hb1
  go_wp2_with fail
  refine (Print_calls l A c w1 HL.out HF.out HN.out (Kd.C_below HC.out HB1.out) (fun w9 h => HLW.out w9 (HB1.out.trans (h.mono HB1.out.size)))).mono ?_
  rintro e w2 ⟨rfl, hb2⟩
  have HB2 := Aside0.mk (HB1.out.trans (hb2.mono HB1.out.size))
  clear hb2
  by_cases hk : checkR l = 0
  · have HK := Aside0.mk hk
    have HP : printE l = ((l.map lineB).flatten, 0) := by unfold printE; rw [if_pos hk]
    rw [HP]
    clear hk HP
    obtain ⟨s, hs⟩ : ∃ s, (l.map lineB).flatten = s := ⟨_, rfl⟩
    rw [hs]
    have HS := Aside0.mk hs
    clear hs
    by_cases hbig : s.length > 65536
    · have hsz : (ByteArray.mk s.toArray).size = s.length := by simp [ByteArray.size]
      have q1 : decide ((s.length : Int) > 65536) = true := decide_eq_true (by omega)
      have q1' : decide ((65536 : Int) < (s.length : Int)) = true := decide_eq_true (by omega)
      go_wp2
      go_ret
      exact ⟨rfl, HB2.out⟩
    by_cases h40 : l.length > 40
    · have hsz : (ByteArray.mk s.toArray).size = s.length := by simp [ByteArray.size]
      have q1 : decide ((s.length : Int) > 65536) = false := decide_eq_false (by omega)
      have q1' : decide ((65536 : Int) < (s.length : Int)) = false := decide_eq_false (by omega)
      have q2 : decide ((l.length : Int) > 40) = true := decide_eq_true (by omega)
      have q2' : decide ((40 : Int) < (l.length : Int)) = true := decide_eq_true (by omega)
      go_wp2
      go_ret
      exact ⟨rfl, HB2.out⟩
    have HBIG := Aside0.mk hbig
    have H40 := Aside0.mk h40
    have hsz : (ByteArray.mk s.toArray).size = s.length := by simp [ByteArray.size]
    have q1 : decide ((s.length : Int) > 65536) = false := decide_eq_false (by omega)
    have q1' : decide ((65536 : Int) < (s.length : Int)) = false := decide_eq_false (by omega)
    have q2 : decide ((l.length : Int) > 40) = false := decide_eq_false (by omega)
    have q2' : decide ((40 : Int) < (l.length : Int)) = false := decide_eq_false (by omega)
    go_wp2
    clear hbig h40 hsz q1 q1' q2 q2'
    go_loopg [5, 6] l.length (fun kq v5 v6 w3 => ∃ k : Nat, k + kq = l.length ∧ v5 = .string ⟨(((l.take k).map lineB).flatten).toArray⟩ ∧ v6 = .int .i64 k ∧ Aside0 (Below w.heap.size w w3))
    case atStart => exact ⟨0, by omega, rfl, rfl, HB2⟩
    case round =>
      obtain ⟨k, hk, rfl, rfl, HBW⟩ := hrel
      cases gk with
      | zero =>
        have hge : ¬ ((k : Nat) : Int) < (l.length : Int) := by omega
        have hkl : k = l.length := by omega
        subst hkl
        rw [List.take_length, HS.out]
        go_wp2
        go_ret
        exact ⟨rfl, HBW.out⟩
      | succ k1 =>
        have hlt : ((k : Nat) : Int) < (l.length : Int) := by omega
        have hlt' : k < l.length := by omega
        have h40 := H40.out
        have hm1 := mid_one hlt'
        have HMEM := Aside0.mk (List.getElem_mem hlt')
        have HMORE := Aside0.mk (alone_more l k hlt')
        obtain ⟨i0, hi0, _, hsz0, _⟩ := info_parts info35
        have hcut := cut_mid (P := Tryz.prog) 22 35 .i64 .i64 Tryz.underlying22 hi0 3 hsz0 A l.length c (k : Int) ((k : Int) + 1) (by omega) (by omega) (by omega) HLC.out
        obtain ⟨A1, hA1⟩ : ∃ A1, A1 = if c = k then A else A.map (·.add (k * 3)) := ⟨_, rfl⟩
        have g1 : k35.C w A1 [l[k]].length [l[k]] := by
          have := Kd.C_mid (lo := k) (hi := k + 1) (c := c) HC.out (by omega) (by omega) HLC.out
          rw [hm1] at this
          rw [hA1]
          exact this
        have hnk : ((k : Int) + 1).toNat - (k : Int).toNat = 1 := by omega
        rw [hnk, Int.toNat_natCast, ← hA1] at hcut
        have HG1 := Aside0.mk g1
        have hf1 : ∀ e ∈ [l[k]], fitsE e := fun e he => by rw [List.mem_singleton.1 he]; exact HF.out _ HMEM.out
        have hn1 : ∀ e ∈ [l[k]], numsE e := fun e he => by rw [List.mem_singleton.1 he]; exact HN.out _ HMEM.out
        have HF1 := Aside0.mk hf1
        have HN1 := Aside0.mk hn1
        have HPR := Aside0.mk (alone_print HK.out HMEM.out)
        have HEV1 := Aside0.mk (alone_events HK.out HN.out (by rw [HS.out]; have := HBIG.out; omega) HMEM.out)
        have hlen1 := alone_line HMEM.out
        have hupto := alone_upto l (k + 1)
        rw [HS.out] at hlen1 hupto
        have HLEN := Aside0.mk (And.intro hlen1 hupto)
        clear hA1 hf1 hn1 hm1 g1 hlen1 hupto hnk
        have hk9 : (k : Int) ≤ 1000 := by omega
        have hw1 : wrap64 ((k : Int) + 1) = (k : Int) + 1 := w64 _ (by omega) (by omega)
        have HP1 := Aside0.mk (Print_calls [l[k]] A1 (c - k) wr (by simp) HF1.out HN1.out (Kd.C_below HG1.out HBW.out) (fun w9 h => HLW.out w9 (HBW.out.trans (h.mono HBW.out.size))))
        rw [HPR.out] at HP1
        generalize l[k] = ev at *
        have HTL := Aside0.mk (show (((l.take k).map lineB).flatten).length ≤ 65536 by have h1 := alone_upto l k; rw [HS.out] at h1; have := HBIG.out; omega)
        obtain ⟨T, hT⟩ : ∃ T, ((l.take k).map lineB).flatten = T := ⟨_, rfl⟩
        rw [hT] at HMORE HTL
        rw [hT]
        clear hT
        go_wp2_with fail
        refine HP1.out.mono ?_
        clear HP1
        rintro e w3 ⟨rfl, hb3⟩
        have HB3 := Aside0.mk (HBW.out.trans (hb3.mono HBW.out.size))
        clear hb3
        have hsz : (ByteArray.mk (lineB ev).toArray).size = (lineB ev).length := by simp [ByteArray.size]
        have HEV := Aside0.mk (Events_calls ⟨(lineB ev).toArray⟩ m w3 (by rw [hsz]; have := HLEN.out.1; have := HBIG.out; omega) (cell_below' HB3.out HM.out) (fun w9 h => (HLW.out w9 (HB3.out.trans (h.mono HB3.out.size))).te))
        rw [show (ByteArray.mk (lineB ev).toArray).data.toList = lineB ev from rfl, HEV1.out] at HEV
        clear hsz
        go_wp2_with fail
        refine HEV.out.mono ?_
        clear HEV
        rintro e w4 ⟨hb4, v4, rfl, hr4⟩
        have hx4 : Below w4.heap.size w4 (w4.alloc (.cells #[.int .i64 ((([ev], 0, 0) : List Ev × Nat × Nat)).2.1, .int .i64 ((([ev], 0, 0) : List Ev × Nat × Nat)).2.2] 28 (0, 0))) := (Below.refl _ _).alloc (Nat.le_refl _) _
        obtain ⟨A4, c4, e4, l4, g4⟩ := Kd.R_reads hr4
        subst e4
        have HB4 := Aside0.mk (HB3.out.trans ((hb4.trans (hx4.mono hb4.size)).mono HB3.out.size))
        have G4 := Aside0.mk (Kd.C_below g4 hx4)
        clear hr4 hb4 hx4 g4 l4
        go_wp2_with fail
        refine (Same_eq [ev] A4 A1 c4 (c - k) _ (by simp) HF1.out G4.out (Kd.C_below HG1.out HB4.out)).mono ?_
        rintro e w5 ⟨rfl, hb5⟩
        have HB5 := Aside0.mk (HB4.out.trans (hb5.mono HB4.out.size))
        clear hb5
        have hcz : T.length ≤ 65536 := HTL.out
        have hez : (lineB ev).length ≤ 65536 := by have h1 := HLEN.out.1; have := HBIG.out; omega
        go_wp2
        go_roundg k1
        case measure => omega
        case rel => exact ⟨k + 1, by omega, by rw [← HMORE.out]; exact congrArg Value.string (ByteArray.ext (by simp)), by go_num, HB5⟩
  · have HP : printE l = ([], 1) := by unfold printE; rw [if_neg hk]
    rw [HP]
    clear hk HP
    go_wp2
    go_ret
    exact ⟨rfl, HB2.out⟩
end Go.Proofs.YtamcicojockhpabGreatDoor.Wi
end
section
set_option linter.unusedVariables false
set_option linter.unusedSimpArgs false
namespace Go.Proofs.YtamcicojockhpabGreatDoor.WireAloneC
open Go.ChangeShapes Go.WideShapes Go.ChangeAt Go.RowKit
open Go.Proofs.YtamcicojockhpabGreatDoor.Opn Go.Proofs.YtamcicojockhpabGreatDoor.Lx Go.Proofs.YtamcicojockhpabGreatDoor.Wi
set_option maxRecDepth 100000 in
theorem contract (H : Type) (enc : TypeId × Value → H) (W : World) (base : Nat) (args : Array Value) (ds gs : List (DataW H)) (before : List MemPlace)
    (hval : ∀ (j : Nat) t v, Tryz.f3.params[j]? = some t → args[j]? = some v → Value.okWide Tryz.prog W .any base t v)
    (hW : DataW.Whole enc Tryz.prog Tryz.f3.params.toList Rows.wireAloneSpec.vars false W args.toList ds gs before) (hL : laidMetH Tryz.prog Rows.wireAloneUptoRow.laid W) (hsh : W.ShapedOpen Tryz.prog) (hk : Rows.uptoSmall H (ds ++ gs) = true) :
    Calls Tryz.prog 3 args W fun e W' => ∃ v, e = .returned v ∧ Rows.wireAloneSpec.post enc Tryz.prog Tryz.f3 false true false false W args v W' := by
  have hW' := hW
  obtain ⟨p, q, hA0, hV, rfl, hfz, hnd⟩ := hW
  have hA : DataW.TrodAll enc Tryz.prog W 0 (fun _ => true) true Tryz.f3.params.toList args.toList ds p := hA0
  rw [Tryz.params3] at hA hval
  obtain ⟨v0, vs0, d0, ds0, p0, q0, hargs, rfl, rfl, h0, r0⟩ := trodAll_cons hA
  obtain ⟨rfl, rfl, rfl⟩ := trodAll_nil r0
  obtain rfl : args = #[v0] := by cases args; simp_all
  obtain ⟨rfl, rfl⟩ := trodVars_none hV
  have b0 := bulk_1 hk
  obtain ⟨A0, c0, l0, rfl, hl0, hC0, hb0, hf0, hn0⟩ := arg_events (hval 0 _ v0 rfl rfl) h0 b0
  obtain ⟨m0, hm0⟩ := ml_of hsh
  have LWH : LW W := lw_of rfl hL (by simp [Rows.wireAloneUptoRow]) (by simp [Rows.wireAloneUptoRow]) (by simp [Rows.wireAloneUptoRow]) (by simp [Rows.wireAloneUptoRow])
  refine (WireAlone_at l0 A0 c0 m0 W (by omega) hl0 hf0 hn0 hC0 hm0 (fun w1 h => lw_below LWH h)).mono ?_
  rintro e W' ⟨rfl, hb⟩
  exact ⟨_, rfl, post_true hW' (by kernel_rfl) rfl rfl (by kernel_rfl) hb⟩
def zeroArgs : Array Value := #[.slice none 0 0]
theorem door_met (os : Os) : laidMetH Tryz.prog Rows.wireAloneUptoRow.laid ((World.laidAll Tryz.prog os Rows.wireAloneUptoRow.laid).forCall (fun _ _ => 0) ⟨#[], zeroArgs, []⟩).memory :=
  by rw [Go.MakeChecks.laidMetH_plain _ _ _ (by kernel_rfl)]; exact laidMet_laidAll _ (by kernel_rfl) (by kernel_rfl)
theorem reads (os : Os) {H : Type} (enc : TypeId × Value → H) : ∃ places, DataW.whole enc Tryz.prog ((World.laidAll Tryz.prog os Rows.wireAloneUptoRow.laid).forCall (fun _ _ => 0) ⟨#[], zeroArgs, []⟩).memory Tryz.f3.params.toList Rows.wireAloneSpec.vars false zeroArgs.toList 8 = some ([.nil], [], places) :=
  ⟨[], by kernel_rfl⟩
set_option maxRecDepth 100000 in
theorem liftedUpto (os : Os) (started : os.Started) (H : Type) (enc : TypeId × Value → H) (F : Stop.Interp) :
    ReturnsInHanded {} Tryz.checked os 3 .any ((Rows.OpenSpec.upto Rows.wireAloneSpec).preRow enc Tryz.prog Tryz.f3 Rows.wireAloneUptoRow.domain false Rows.wireAloneUptoRow.laid) (((Rows.OpenSpec.upto Rows.wireAloneSpec).at F).post enc Tryz.prog Tryz.f3 false true false false) := by
  obtain ⟨places, hx⟩ := reads os enc
  refine returnsInHanded_of_row (C := Tryz.checked) (s := Rows.OpenSpec.upto Rows.wireAloneSpec) own started (by kernel_rfl) Tryz.func3
    (witness_row_at (enc := enc) (C := Tryz.checked) false (World.laidAll Tryz.prog os Rows.wireAloneUptoRow.laid) zeroArgs (World.laidAll_os _ _ _) (by kernel_rfl) (by kernel_rfl) (by kernel_rfl)
      (OpenSpec.preRow_of_cond 8 hx (by kernel_rfl) (fun k hk => by cases hk; kernel_rfl) (by kernel_rfl) (door_met os))) ?_
  intro W base args ds gs before hval hW _ hcond _ hL hsh _
  exact contract H enc W base args ds gs before hval hW hL hsh (hcond _ rfl)
theorem saidUpto : Rows.WireAloneUptoSaid :=
  OpenClaim.holds_of_cond 3 Tryz.f3 rfl rfl rfl rfl rfl rfl rfl ⟨rfl, rfl, rfl, rfl, rfl⟩ rfl rfl rfl rfl rfl (by kernel_rfl) Tryz.func3 (by kernel_rfl)
    (of_decide_eq_true (by kernel_rfl)) (by unfold Func.isWrapper; first | (rw [if_pos (by decide +kernel)]; kernel_rfl) | (rw [if_neg (by decide +kernel)]; exact ⟨rfl, rfl⟩))
    (fun os started H enc _ F => by rw [OpenClaim.pre_eq_preRow]; exact liftedUpto os started H enc F)
theorem plain (f : FuncId) (fn : Func) (hf : Tryz.pinned.checked.prog.funcNamed "assize/assizelaw03.WireAlone" = some f) (hfn : Tryz.pinned.checked.prog.funcs[f]? = some fn) :
    true = Tryz.pinned.checked.prog.looks [] ∧ ∀ (j : Nat) t, fn.params[j]? = some t → Tryz.pinned.checked.prog.wantsStandIn t = false := by
  obtain rfl : f = 3 := Option.some.inj ((show Tryz.prog.funcNamed "assize/assizelaw03.WireAlone" = some 3 by kernel_rfl).symm.trans hf) |>.symm
  obtain rfl : fn = Tryz.f3 := (Option.some.inj (Tryz.func3.symm.trans hfn)).symm
  refine ⟨by kernel_rfl, fun j t ht => ?_⟩
  have hall : (Tryz.f3.params.toList.all fun t => !Tryz.prog.wantsStandIn t) = true := by kernel_rfl
  have hm : t ∈ Tryz.f3.params.toList := Array.mem_toList_iff.2 (Array.mem_of_getElem? ht)
  have : Tryz.prog.wantsStandIn t = false := by simpa using List.all_eq_true.1 hall t hm
  exact this
theorem cardUpto : Rows.WireAloneUptoCardSaid :=
  Claim7.holds_tied_plain_at .later [] _ _ _ _ saidUpto (fun _ h => by cases h) (by kernel_rfl) (fun _ h => by cases h) wireAloneUpto_row_tie rfl ⟨rfl, rfl⟩ (by kernel_rfl) rfl plain (by kernel_rfl)
end Go.Proofs.YtamcicojockhpabGreatDoor.WireAloneC
namespace Go.Proofs.YtamcicojockhpabGreatDoor
theorem wireAlone_card : Rows.WireAloneUptoCardSaid := WireAloneC.cardUpto
end Go.Proofs.YtamcicojockhpabGreatDoor
end
