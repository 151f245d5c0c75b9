/- WireLines: two texts one behind the other, with empty lines between, are read as both, and the arguments stay as they were: for every input of bulk at most 1048576. -/
import Derived.Test.YtamcicojockhpaaGreatDoorLN4
import Derived.Test.YtamcicojockhpaaGreatDoorRows
import Derived.Test.YtamcicojockhpaaGreatDoorCards
import Derived.Test.YtamcicojockhpaaGreatDoorTie
set_option linter.unusedVariables false
set_option linter.unusedSimpArgs false
section
set_option linter.unusedVariables false
set_option linter.unusedSimpArgs false
namespace Go.Proofs.YtamcicojockhpaaGreatDoor.Wi
open Go.RowKit Go.Proofs.YtamcicojockhpaaGreatDoorW.PrintWords Go.Proofs.YtamcicojockhpaaGreatDoorW.PrintLast Go.Proofs.YtamcicojockhpaaGreatDoorW.PrintMore
open Go.Proofs.YtamcicojockhpaaGreatDoor.Lx Go.Proofs.YtamcicojockhpaaGreatDoor.PS Go.Proofs.YtamcicojockhpaaGreatDoor.Tr
def KeepsL (D bs : Nat) (W W' : World) : Prop := W.heap.size ≤ W'.heap.size ∧ W'.heap[D]? = W.heap[D]? ∧ W'.heap[D + 1]? = W.heap[D + 1]? ∧ W'.heap[bs]? = W.heap[bs]?
def spPost (D bs : Nat) (I Ix : List (List UInt8) → World → Prop) (xs : List (List UInt8)) (W : World) : Exit → Act → World → Prop
 | .normal, _, W' => KeepsL D bs W W' ∧ I xs W'
 | .ret, _, W' => KeepsL D bs W W' ∧ Ix xs W'
 | _, _, _ => False
set_option maxRecDepth 100000 in
set_option maxHeartbeats 4000000 in
theorem range_split {ps : Array Tmp} {assign body : Code} {Q : Exit → Act → World → Prop} {a : Act} {w : World} {g : Operand} (bs bp bv : Nat) (hg : a.eval g = .func (.func 72) #[] #[.pointer (some ⟨bp, 0, none⟩), .pointer (some ⟨bs, 0, none⟩), .pointer (some ⟨bv, 0, none⟩)])
 (hps : ps.size = 1) (m : Int) (s : ByteArray) (hs : s.size ≤ 1000000000) (hbs : w.heap[bs]? = some (.cells #[.string s] 9 (0, 0))) (I Ix : List (List UInt8) → World → Prop)
 (hm : ∀ pre W, I pre W → W.cell? ⟨2, 0, none⟩ = some (.int .i64 m))
 (hp : ∀ pre W, I pre W → W.heap[bp]? = some (.cells #[.string ⟨#[10]⟩] 9 (0, 0)))
 (hv : ∀ pre W, I pre W → W.heap[bv]? = some (.cells #[.int .i64 0] 3 (0, 0)))
 (hIput : ∀ pre W k o, w.heap.size ≤ k → k ≤ w.heap.size + 1 → I pre W → I pre (W.putObj k o))
 (hXput : ∀ pre W k o, w.heap.size ≤ k → k ≤ w.heap.size + 1 → Ix pre W → Ix pre (W.putObj k o))
 (hset : ∀ pre W (v : ByteArray), I pre W → I pre (W.setCell ⟨bs, 0, none⟩ (.string v)))
 (h0 : ∀ W1, Below w.heap.size w W1 → w.heap.size + 2 ≤ W1.heap.size → I [] W1) (a₁ : List UInt8 → Act)
 (hassign : ∀ (l : Nat) (x : List UInt8) (W : World) (K : Act → World → Prop), K (a₁ x) W →
  assign.wpIn (Fence.wide.inRound l) 1 Tryz.prog (Exit.then K (fun _ _ _ => False)) { tmps := (ps.zip #[.string ⟨x.toArray⟩]).foldl (fun t (p, v) => t.setIfInBounds p v) a.tmps, defers := [] } W)
 (hbody : ∀ (pre : List (List UInt8)) (x : List UInt8) (rest : List (List UInt8)) (W : World), splitL s.data.toList = pre ++ x :: rest → I pre W → w.heap.size + 2 ≤ W.heap.size →
  body.wpIn (Fence.wide.inRound (w.heap.size + 1)) 1 Tryz.prog (spPost w.heap.size bs I Ix (pre ++ [x]) W) (a₁ x) W)
 (hdone : ∀ W, I (splitL s.data.toList) W → W.heap[w.heap.size]? = some (.deferred (some [])) → Q .normal { a with defers := { target := .collected w.heap.size, args := #[] } :: a.defers } W)
 (hstop : ∀ pre W, pre <+: splitL s.data.toList → Ix pre W → W.heap[w.heap.size]? = some (.deferred (some [])) → Code.ret.wpIn Fence.wide 3 Tryz.prog Q { a with defers := { target := .collected w.heap.size, args := #[] } :: a.defers } W) :
 (Code.rangeFunc g ps assign body).wpIn Fence.wide 3 Tryz.prog Q a w := by
 have hlt : bs < w.heap.size := (Array.getElem?_eq_some_iff.1 hbs).1
 refine wpIn_rangeFunc ?_
 intro fn hfn
 obtain ⟨rec, hrec⟩ : ∃ rec : LoopState → Option Code → Loop, rec = fun st pe => { state := st, pending := pe, fn, tmps := a.tmps, params := ps, assign, body, defers := w.heap.size } := ⟨_, rfl⟩
 obtain ⟨W1, hW1⟩ : ∃ W1, (w.alloc (.deferred (some []))).alloc (.loop (rec .ready none)) = W1 := ⟨_, rfl⟩
 have hL1 : W1.heap[w.heap.size + 1]? = some (.loop (rec .ready none)) := by
  rw [← hW1]; have := World.alloc_heap_new (w.alloc (.deferred (some []))) (.loop (rec .ready none)); rwa [World.size_alloc] at this
 have hK1 : W1.heap[w.heap.size]? = some (.deferred (some [])) := by
  rw [← hW1]; exact (Below.heap_alloc _ _ _ (by simp)).trans (World.alloc_heap_new w _)
 have hb1 : Below w.heap.size w W1 := by
  rw [← hW1]; exact ((Below.refl _ w).alloc (Nat.le_refl _) _).alloc (by simp) _
 have hs1 : w.heap.size + 2 ≤ W1.heap.size := by rw [← hW1]; simp
 refine ⟨w.heap.size + 1, [{ target := .collected w.heap.size, args := #[] }], W1, { target := .fn (.func 72) #[.pointer (some ⟨bp, 0, none⟩), .pointer (some ⟨bs, 0, none⟩), .pointer (some ⟨bv, 0, none⟩)], args := #[.func (.yield (w.heap.size + 1)) #[] #[]] }, W1, 72,
  #[.func (.yield (w.heap.size + 1)) #[] #[]] ++ #[.pointer (some ⟨bp, 0, none⟩), .pointer (some ⟨bs, 0, none⟩), .pointer (some ⟨bv, 0, none⟩)], W1, ?_, ?_, ?_, ?_, fun _ => by omega, ?_⟩
 · rw [← hW1, hrec]; exact run_enterLoop_outer _ _ _ _ _
 · simp only [resolve, hg]
   simp [go_sem]
 · intro f' hf'; trivial
 · have eg := enters_of Tryz.func72 (by kernel_rfl) rfl
   simp [invoke, go_sem, eg]
 · refine (seq1_in 2 (by omega) (w.heap.size + 1) bs bp bv m s hs
    (fun pre W => I pre W ∧ W.heap[w.heap.size + 1]? = some (.loop (rec .ready none)) ∧ W.heap[w.heap.size]? = some (.deferred (some [])))
    (fun pre W => Ix pre W ∧ W.heap[w.heap.size + 1]? = some (.loop (rec .done (some .ret))) ∧ W.heap[w.heap.size]? = some (.deferred (some [])))
    (fun pre W h => hm pre W h.1) (fun pre W h => hp pre W h.1) (fun pre W h => hv pre W h.1)
    (fun pre W u v h _ => ⟨hset pre W v h.1, (Below.heap_setCell W ⟨bs, 0, none⟩ _ _ (by show w.heap.size + 1 ≠ bs; omega)).trans h.2.1, (Below.heap_setCell W ⟨bs, 0, none⟩ _ _ (by show w.heap.size ≠ bs; omega)).trans h.2.2⟩)
    ?_ W1 ((hb1.block _ hlt).trans hbs) ⟨h0 W1 hb1 hs1, hL1, hK1⟩).mono ?_
   · rintro pre x rest W hsp ⟨hi, hl, hk⟩
     have hltl : w.heap.size + 1 < W.heap.size := (Array.getElem?_eq_some_iff.1 hl).1
     have hy := run_yield (P := Tryz.prog) (args := #[.string ⟨x.toArray⟩]) hl (by rw [hrec]; simp [hps])
     rw [hrec] at hy
     refine ⟨fn, _, assign, body, hy, roundIn_of_wpIn hfn (hassign _ x W _ ⟨_, run_beginRound hl (by rw [hrec]), ?_⟩)⟩
     have hl2 : (W.putObj (w.heap.size + 1) (.loop { rec .ready none with state := .busy })).heap[w.heap.size + 1]? = some (.loop { rec .ready none with state := .busy }) := World.putObj_heap_same hltl
     have hk2 : (W.putObj (w.heap.size + 1) (.loop { rec .ready none with state := .busy })).heap[w.heap.size]? = some (.deferred (some [])) := (World.putObj_heap_other (by omega)).trans hk
     have hb2 : (W.putObj (w.heap.size + 1) (.loop { rec .ready none with state := .busy })).heap[bs]? = W.heap[bs]? := World.putObj_heap_other (by omega)
     refine wpIn_mono (hbody pre x rest _ hsp (hIput _ _ _ _ (by omega) (by omega) hi) (by simp; omega)) ?_
     rintro e a3 W3 hpp
     cases e with
     | normal =>
      obtain ⟨⟨hsz, hkd, hkl, hkb⟩, hi3⟩ := hpp
      have hl3 := hkl.trans hl2
      have hk3 := hkd.trans hk2
      have hr := run_endRound (P := Tryz.prog) none hl3
      rw [hrec] at hr
      refine ⟨_, _, hr, .inl ⟨rfl, ⟨hIput _ _ _ _ (by omega) (by omega) hi3, ?_, (World.putObj_heap_other (by omega)).trans hk3⟩, (World.putObj_heap_other (by omega)).trans (hkb.trans hb2)⟩⟩
      rw [hrec]
      exact World.putObj_heap_same (Array.getElem?_eq_some_iff.1 hl3).1
     | ret =>
      obtain ⟨⟨hsz, hkd, hkl, hkb⟩, hi3⟩ := hpp
      have hl3 := hkl.trans hl2
      have hk3 := hkd.trans hk2
      have hr := run_endRound (P := Tryz.prog) (some .ret) hl3
      rw [hrec] at hr
      refine ⟨_, _, hr, .inr ⟨rfl, hXput _ _ _ _ (by omega) (by omega) hi3, ?_, (World.putObj_heap_other (by omega)).trans hk3⟩⟩
      rw [hrec]
      exact World.putObj_heap_same (Array.getElem?_eq_some_iff.1 hl3).1
     | exit id => exact hpp.elim
     | goto t => exact hpp.elim
     | panic ch => exact hpp.elim
     | outgrown => exact hpp.elim
   · rintro e W2 ⟨⟨v, rfl⟩, (⟨hi, hl, hk⟩ | ⟨pre, hpre, hi, hl, hk⟩)⟩
     · exact ⟨none, _, by have := run_endLoop (P := Tryz.prog) hl (by rw [hrec]; simp); rw [hrec] at this; exact this, hdone _ (hIput _ _ _ _ (by omega) (by omega) hi) ((World.putObj_heap_other (by omega)).trans hk)⟩
     · exact ⟨some .ret, _, by have := run_endLoop (P := Tryz.prog) hl (by rw [hrec]; simp); rw [hrec] at this; exact this, hstop pre _ hpre (hXput _ _ _ _ (by omega) (by omega) hi) ((World.putObj_heap_other (by omega)).trans hk)⟩
end Go.Proofs.YtamcicojockhpaaGreatDoor.Wi
end
section
set_option linter.unusedVariables false
set_option linter.unusedSimpArgs false
namespace Go.Proofs.YtamcicojockhpaaGreatDoor.Wi
open Go.RowKit Go.Proofs.YtamcicojockhpaaGreatDoorW.PrintWords Go.Proofs.YtamcicojockhpaaGreatDoorW.PrintLast Go.Proofs.YtamcicojockhpaaGreatDoorW.PrintMore
open Go.Proofs.YtamcicojockhpaaGreatDoor.Lx Go.Proofs.YtamcicojockhpaaGreatDoor.PS Go.Proofs.YtamcicojockhpaaGreatDoor.Tr
section
variable {F : Fence} {n : Nat} {P : Program} {ops : Array Oper} {rest : List Oper} {o : Oper} {a : Act} {Q : Exit → Act → World → Prop} {α : Type}
theorem wpListIn_append_at (w : World) (hg : o.guard = none) (s x : Operand) (t : TypeId) (hop : o.op = Op.call { callee := Callee.builtin Builtin.append, args := #[s, x], argTypes := #[t, t] })
 (base : Nat) (e : TypeId) (i : TypeInfo) (z : Value) (size bytes : Nat) (h1 : P.underlying t = some (.slice e)) (h2 : P.info? e = some i) (h3 : i.zero = some z) (h4 : i.size = size) (h5 : i.bytes = bytes) (h6 : z.cells.size = size) (h7 : 0 < size)
 (v : Value) (k : Nat) (xs : List Value) (hs : a.eval s = v) (hown : w.ownsRow base e size v k xs) (ad : Addr) (m c : Nat) (news : List Value) (hx : a.eval x = .slice (some ad) m c) (hn : news.length = m * size)
 (hc : ∀ j u, news[j]? = some u → w.cell? (ad.add j) = some u) (h1c : ∀ u ∈ news, u.oneCell' = true) (b1 : k + m ≤ maxLen) (b2 : (k + m) * bytes ≤ 140737488355328) (b3 : base ≤ w.heap.size)
 (hK : ∀ v' w', w'.ownsRow base e size v' (k + m) (xs ++ news) → w.grownBy w' v.ownBlock → (v'.ownBlock = v.ownBlock ∨ v'.ownBlock = some w.heap.size) → wpListIn F n P ops Q rest (a.put o.dst v') w') :
 wpListIn F n P ops Q (o :: rest) a w := by
 refine wpListIn_plain hg fun K hK' => ?_
 obtain ⟨v', w', hrun, r1, r2, _, r3⟩ := run_append_own_at (P := P) w base t o.type e i z size bytes h1 h2 h3 h4 h5 h6 h7 v k xs hown ad m c news hn hc h1c b1 b2 b3
 unfold Oper.wpIn
 refine ⟨?_, ?_⟩
 · simp [Oper.about, hop, resolve, Target.leads, Sem.run_pure]
 · rw [Oper.semAt_plain F _ _ (by rw [hop]; intro c hc'; cases hc')]
   simp [execOp, hop, resolve, invoke, builtin, hs, hx, hrun, Result.andThen]
   exact hK' _ _ (hK v' w' r1 r2 r3)
theorem R_appendIn (d : Kd α) {w0 W : World} (base : Nat) (hgd : o.guard = none) (s x : Operand) (t e : TypeId) (z : Value) (bytes : Nat)
 (ho : o.op = .call { callee := .builtin .append, args := #[s, x], argTypes := #[t, t] })
 (ht : P.underlying t = some (.slice e)) (hinfo : (P.info? e).map (fun i => (i.zero, i.size, i.bytes)) = some (some z, d.sz, bytes)) (hz : z.cells.size = d.sz) (hs0 : 0 < d.sz) (hb0 : 0 < bytes)
 (v : Value) (xs : List α) (p : α) (cs : List Value) (ok okp : Nat → Prop) (hs : a.eval s = v) (hx : a.eval x = .slice (some ⟨W.heap.size, 0, none⟩) 1 1) (hp : d.M W base okp p cs) (hokp : ∀ k, okp k → ok k ∧ some k ≠ v.ownBlock) (hfresh : ∀ k, W.heap.size ≤ k → ok k)
 (HO : d.R e W base ok v xs) (HB : Below base w0 W) (hbase : base ≤ W.heap.size) (hl : (xs.length + 1) * bytes ≤ 140737488355328)
 (h : ∀ v1 w1, d.R e w1 base ok v1 (xs ++ [p]) → Below base w0 w1 → W.grownBy w1 v.ownBlock → (v1.ownBlock = v.ownBlock ∨ ∃ b, v1.ownBlock = some b ∧ W.heap.size ≤ b) → wpListIn F n P ops Q rest (a.put o.dst v1) w1) :
 wpListIn F n P ops Q (o :: rest) a (W.alloc (.cells cs.toArray e)) := by
 obtain ⟨h0, inner, hown, hr⟩ := HO
 obtain ⟨i0, hi, hzz⟩ := Option.map_eq_some_iff.1 hinfo
 simp only [Prod.mk.injEq] at hzz
 obtain ⟨hz0, hz1, hz2⟩ := hzz
 have hys := d.K_len (d.K_of_M hp)
 have h1 := d.K_one (d.K_of_M hp)
 have hlen : xs.length + 1 ≤ 140737488355328 := Nat.le_trans (Nat.le_mul_of_pos_right _ hb0) hl
 refine wpListIn_append_at (W.alloc (.cells cs.toArray e)) hgd s x t ho base e i0 z d.sz bytes ht hi hz0 hz1 hz2 hz hs0 v xs.length inner hs (hown.alloc _) ⟨W.heap.size, 0, none⟩ 1 1 cs hx (by rw [hys]; simp)
  (by simpa using World.news_of_block (cs := cs.toArray) (t := e) (fr := (0, 0)) (heap_alloc_new W (.cells cs.toArray e))) h1 (by simp only [maxLen]; omega) hl (by simp; omega) ?_
 intro v1 w1 hown1 hg hat
 have hat' : v1.ownBlock = v.ownBlock ∨ ∃ b, v1.ownBlock = some b ∧ W.heap.size ≤ b := by
  rcases hat with hat | hat
  · exact .inl hat
  · exact .inr ⟨_, hat, by simp⟩
 have hg1 : W.grownBy w1 v.ownBlock := World.grownBy.trans (World.grownBy_alloc W _ _) hg
 exact h v1 w1 (Kd.R_appended h0 hr hp hokp hfresh hown1 hg1 hat') ((HB.alloc hbase _).grown hg (by simp; omega) (own_base hown)) hg1 hat'
end
section
variable {l n : Nat} {P : Program} {ops : Array Oper} {Q : Exit → Act → World → Prop} {S : World → Prop} {ds : List Nat} {md : Region.Mode}
theorem wpIn_of_wp {o : Oper} {a : Act} {w : World} {K : Act → World → Prop} (hd : ∀ c, o.op ≠ .defer c) (h : o.wp P a w K Q) : o.wpIn (Fence.wide.inRound l) n P a w K Q := by
 unfold Oper.wpIn
 refine ⟨fun _ _ => trivial, ?_⟩
 rw [Oper.semAt_plain _ _ _ hd]
 unfold Oper.wp at h
 generalize (execOp a.eval o).run P w = r at *
 cases r with
 | ok x w' =>
  cases x <;> simp only [Oper.upon, Oper.uponIn] at h ⊢ <;>
   first
    | exact h
    | exact ⟨fun e => by simp [Fence.wide] at e, CallsIn.inRound l (callsIn_wide.2 h)⟩
    | exact ⟨fun e => by simp [Fence.wide] at e, fun c cs _ => (h c cs).imp fun v h1 => h1.imp fun w2 h2 => ⟨h2.1, stepsIn_wide.2 h2.2⟩⟩
    | exact h.elim
 | halt x w' => cases x <;> simp only [Oper.upon, Oper.uponIn] at h ⊢ <;> exact h
def noDefer (ops : Array Oper) : Bool := ops.all fun o => match o.op with
 | .defer _ => false
 | _ => true
theorem wpOpIn_of {i : Nat} {a : Act} {w : World} {K K' : Act → World → Prop} (hn : noDefer ops = true) (hlo : ∀ a w, ¬ Q .outgrown a w) (hK : ∀ a w, K a w → K' a w) (h : wpOp P ops Q i K a w) : wpOpIn (Fence.wide.inRound l) n P ops Q i K' a w := by
 unfold wpOp at h
 unfold wpOpIn
 cases ho : ops[i]? with
 | none =>
  simp only [ho] at h ⊢
  exact hK _ _ h
 | some o =>
  simp only [ho] at h ⊢
  have hd : ∀ c, o.op ≠ .defer c := by
   intro c hc
   have h1 := Array.all_eq_true_iff_forall_mem.1 hn o (Array.mem_of_getElem? ho)
   rw [hc] at h1
   cases h1
  split
  · rename_i hw
    rw [if_pos hw] at h
    rcases h with h | ⟨_, a1, w1, h⟩
    · exact Oper.wpIn_mono hK (wpIn_of_wp hd h)
    · exact absurd h (hlo a1 w1)
  · rename_i hw
    rw [if_neg hw] at h
    exact ⟨fun _ _ => trivial, hK _ _ h⟩
theorem wpAnyIn_of (hn : noDefer ops = true) (hlo : ∀ a w, ¬ Q .outgrown a w) : ∀ (fuel : Nat) (listed : Array Bool) (a : Act) (w : World), wpAny P md ops Q fuel listed a w → wpAnyIn (Fence.wide.inRound l) n P md ops Q fuel listed a w
 | 0, _, _, _, h => h
 | fuel + 1, listed, a, w, h => ⟨h.1, fun i hi => wpOpIn_of hn hlo (fun a w => wpAnyIn_of hn hlo fuel _ a w) (h.2 i hi)⟩
theorem startIn_ {id k : Nat} {a : Act} {w : World} (b : Array Bool) (hm : P.follows .mixedOrders = true) (hk : ops.size = k) (hb : Array.replicate k false = b) (hn : noDefer ops = true) (hlo : ∀ a w, ¬ Q .outgrown a w) (hS : S w.drew)
 (h : S w.drew → wpAnyLast P .any ops Q S ds k b a w.drew) : (Code.region id ops true).wpIn (Fence.wide.inRound l) n P Q a w := by
 subst hk
 subst hb
 exact wpIn_region_any hm (wpAnyIn_of hn hlo _ _ _ _ (wpAny_of_last _ _ _ _ (h hS)))
end
end Go.Proofs.YtamcicojockhpaaGreatDoor.Wi
end
section
set_option linter.unusedVariables false
set_option linter.unusedSimpArgs false
namespace Go.Proofs.YtamcicojockhpaaGreatDoor.Wi
open Go.RowKit Go.Proofs.YtamcicojockhpaaGreatDoorW.PrintWords Go.Proofs.YtamcicojockhpaaGreatDoorW.PrintLast Go.Proofs.YtamcicojockhpaaGreatDoorW.PrintMore
open Go.Proofs.YtamcicojockhpaaGreatDoor.Lx Go.Proofs.YtamcicojockhpaaGreatDoor.PS Go.Proofs.YtamcicojockhpaaGreatDoor.Tr
def blankL (l : List UInt8) : Bool := l.all fun c => ([32, 9, 13] : List UInt8).contains c
theorem trimS_blank (l : List UInt8) : Lib.trimS l [32, 9, 13] = [] ↔ blankL l = true := by
 have hd : ∀ (p : UInt8 → Bool) (x : List UInt8), x.dropWhile p = [] ↔ x.all p = true := by
  intro p x
  induction x with
  | nil => simp
  | cons c x ih =>
   rw [List.dropWhile_cons, List.all_cons]
   split
   · rename_i h
     rw [ih, h, Bool.true_and]
   · rename_i h
     simp [h]
 unfold Lib.trimS Lib.trimLeftS Lib.trimRightS blankL
 rw [hd]
 constructor
 · intro h
   have h2 : l.reverse.dropWhile (([32, 9, 13] : List UInt8).contains ·) = [] := by
    cases e : l.reverse.dropWhile (([32, 9, 13] : List UInt8).contains ·) with
    | nil => rfl
    | cons c t =>
     have h3 := List.head?_dropWhile_not (([32, 9, 13] : List UInt8).contains ·) l.reverse
     rw [e] at h3 h
     rw [List.all_reverse, List.all_cons] at h
     simp only [List.head?_cons, Bool.and_eq_true] at h3 h
     rw [h.1] at h3
     cases h3
   rw [hd, List.all_reverse] at h2
   exact h2
 · intro h
   have h2 : l.reverse.dropWhile (([32, 9, 13] : List UInt8).contains ·) = [] := by
    rw [hd, List.all_reverse]
    exact h
   rw [h2]
   rfl
inductive St where
 | go (fr : Nat) (acc : List Ev)
 | stop (c a : Nat)
def stepE : St → List UInt8 → St
 | .stop c a, _ => .stop c a
 | .go fr acc, p =>
  if blankL p = true then .go (fr + p.length + 1) acc
  else if (parseR p).2.1 ≠ 0 then .stop (parseR p).2.1 (fr + (parseR p).2.2)
  else match eventR (parseR p).1 with
   | none => .stop 20 fr
   | some e => if acc.length = 256 then .stop 2 fr else .go (fr + p.length + 1) (acc ++ [e])
def runE (ps : List (List UInt8)) : St := ps.foldl stepE (.go 0 [])
theorem runE_snoc (ps : List (List UInt8)) (p : List UInt8) : runE (ps ++ [p]) = stepE (runE ps) p := by simp [runE]
def outE : St → List Ev × Nat × Nat
 | .go _ acc => (acc, 0, 0)
 | .stop c a => ([], c, a)
def eventsR (s : List UInt8) : List Ev × Nat × Nat := if s.length > 65536 then ([], 2, 0) else outE (runE (splitL s))
theorem stop_foldl (ps : List (List UInt8)) (c a : Nat) : ps.foldl stepE (.stop c a) = .stop c a := by
 induction ps with
 | nil => rfl
 | cons p ps ih => exact ih
theorem runE_stop {ps qs : List (List UInt8)} {c a : Nat} (h : runE ps = .stop c a) (hp : ps <+: qs) : runE qs = .stop c a := by
 obtain ⟨t, rfl⟩ := hp
 unfold runE at *
 rw [List.foldl_append, h]
 exact stop_foldl t c a
def frOf (ps : List (List UInt8)) : Nat := (ps.map (fun p => p.length + 1)).sum
theorem fr_split : ∀ s : List UInt8, frOf (splitL s) = s.length + 1
 | [] => rfl
 | c :: r => by
  have ih := fr_split r
  unfold splitL
  split
  · simp only [frOf, List.map_cons, List.sum_cons, List.length_nil] at *
    rw [ih]
    simp
    omega
  · split
    · rename_i h
      exact absurd h (splitL_ne r)
    · rename_i p ps h
      rw [h] at ih
      simp only [frOf, List.map_cons, List.sum_cons, List.length_cons] at *
      omega
theorem frOf_snoc (ps : List (List UInt8)) (p : List UInt8) : frOf (ps ++ [p]) = frOf ps + p.length + 1 := by
 simp [frOf]
 omega
def EvsQ (r : List Ev × Nat × Nat) (w : World) (e : Ending) (w' : World) : Prop :=
 Below w.heap.size w w' ∧ ∃ v2, e = .returned (.tuple #[v2, .agg #[.int .i64 r.2.1, .int .i64 r.2.2]]) ∧ k39.R 39 w' w.heap.size (fun _ => True) v2 r.1
structure EvI (w : World) (n0 : Nat) (pre : List (List UInt8)) (W : World) (acc : List Ev) (vl : Value) : Prop where
 run : runE pre = .go (frOf pre) acc
 len : acc.length ≤ 256
 c2 : W.heap[w.heap.size]? = some (.cells #[.slice none 0 0] 23 (0, 0))
 c3 : W.heap[w.heap.size + 1]? = some (.cells #[.int .i64 0, .int .i64 0] 26 (0, 0))
 c4 : W.heap[w.heap.size + 1 + 1]? = some (.cells #[vl] 23 (0, 0))
 c5 : W.heap[w.heap.size + 1 + 1 + 1]? = some (.cells #[.int .i64 (frOf pre)] 3 (0, 0))
 cp : W.heap[w.heap.size + 1 + 1 + 1 + 1 + 1]? = some (.cells #[.string ⟨#[10]⟩] 9 (0, 0))
 cv : W.heap[w.heap.size + 1 + 1 + 1 + 1 + 1 + 1]? = some (.cells #[.int .i64 0] 3 (0, 0))
 row : k39.R 39 W (n0 + 2) (fun _ => True) vl acc
 bel : Below w.heap.size w W
 size : n0 + 2 ≤ W.heap.size
structure EvX (w : World) (pre : List (List UInt8)) (W : World) (c a : Nat) : Prop where
 run : runE pre = .stop c a
 c2 : W.heap[w.heap.size]? = some (.cells #[.slice none 0 0] 23 (0, 0))
 c3 : W.heap[w.heap.size + 1]? = some (.cells #[.int .i64 c, .int .i64 a] 26 (0, 0))
 bel : Below w.heap.size w W
theorem EvI.move {w : World} {n0 : Nat} {pre : List (List UInt8)} {W W' : World} {acc : List Ev} {vl : Value} (h : EvI w n0 pre W acc vl) (hn : n0 = w.heap.size + 7) (hb : Below w.heap.size W W')
 (hm : ∀ k, k < W.heap.size → k ≠ w.heap.size + 1 + 1 + 1 + 1 → k ≠ n0 → k ≠ n0 + 1 → W'.heap[k]? = W.heap[k]?) : EvI w n0 pre W' acc vl :=
 ⟨h.run, h.len, (hm _ (blk_lt h.c2) (by omega) (by omega) (by omega)).trans h.c2, (hm _ (blk_lt h.c3) (by omega) (by omega) (by omega)).trans h.c3, (hm _ (blk_lt h.c4) (by omega) (by omega) (by omega)).trans h.c4, (hm _ (blk_lt h.c5) (by omega) (by omega) (by omega)).trans h.c5,
  (hm _ (blk_lt h.cp) (by omega) (by omega) (by omega)).trans h.cp, (hm _ (blk_lt h.cv) (by omega) (by omega) (by omega)).trans h.cv,
  Kd.R_mono (Kd.R_move (Kd.R_bound h.row) (fun k hk => hm k hk.2.2.1 (by have := hk.2.1; omega) (by have := hk.2.1; omega) (by have := hk.2.1; omega))) (fun _ _ => trivial), h.bel.trans hb, Nat.le_trans h.size hb.size⟩
theorem blk_lt_any {W : World} {k : Nat} {o : Obj} (h : W.heap[k]? = some o) : k < W.heap.size := (Array.getElem?_eq_some_iff.1 h).1
theorem below_put {W : World} {B k : Nat} {o : Obj} (hk : B ≤ k) : Below B W (W.putObj k o) := ⟨rfl, rfl, rfl, by simp, fun j hj => World.putObj_heap_other (by omega)⟩
theorem EvX.put {w : World} {pre : List (List UInt8)} {W : World} {c a k : Nat} {o : Obj} (h : EvX w pre W c a) (hk : w.heap.size + 7 ≤ k) : EvX w pre (W.putObj k o) c a :=
 ⟨h.run, (World.putObj_heap_other (by omega)).trans h.c2, (World.putObj_heap_other (by omega)).trans h.c3, h.bel.trans (below_put (by omega))⟩
theorem EvI.line {w : World} {n0 : Nat} {pre : List (List UInt8)} {x : List UInt8} {W W' : World} {acc : List Ev} {vl : Value} (h : EvI w n0 pre W acc vl) (hn : n0 = w.heap.size + 7) (hr : runE (pre ++ [x]) = .go (frOf (pre ++ [x])) acc) (hb : Below w.heap.size W W')
 (hm : ∀ k, k < W.heap.size → k ≠ w.heap.size + 1 + 1 + 1 → W'.heap[k]? = W.heap[k]?) (c5 : W'.heap[w.heap.size + 1 + 1 + 1]? = some (.cells #[.int .i64 (frOf (pre ++ [x]))] 3 (0, 0))) : EvI w n0 (pre ++ [x]) W' acc vl :=
 ⟨hr, h.len, (hm _ (blk_lt h.c2) (by omega)).trans h.c2, (hm _ (blk_lt h.c3) (by omega)).trans h.c3, (hm _ (blk_lt h.c4) (by omega)).trans h.c4, c5,
  (hm _ (blk_lt h.cp) (by omega)).trans h.cp, (hm _ (blk_lt h.cv) (by omega)).trans h.cv,
  Kd.R_mono (Kd.R_move (Kd.R_bound h.row) (fun k hk => hm k hk.2.2.1 (by have := hk.2.1; omega))) (fun _ _ => trivial), h.bel.trans hb, Nat.le_trans h.size hb.size⟩
def faultW (w X : World) (c a : Int) : World := ((X.setCell ⟨w.heap.size, 0, none⟩ (.slice none 0 0)).setCell ⟨w.heap.size + 1, 0, none⟩ (.int .i64 c)).setCell ⟨w.heap.size + 1, 1, none⟩ (.int .i64 a)
theorem fault_fin {w : World} {n0 : Nat} {pre : List (List UInt8)} {x : List UInt8} {W X : World} {acc : List Ev} {vl : Value} {c a : Nat} {ci ai : Int} (h : EvI w n0 pre W acc vl) (hn : n0 = w.heap.size + 7) (hX : Below w.heap.size W X) (hm : ∀ k, k < W.heap.size → k ≠ w.heap.size + 1 + 1 + 1 → X.heap[k]? = W.heap[k]?)
 (hr : runE (pre ++ [x]) = .stop c a) (hc : ci = c) (ha : ai = a) : KeepsL n0 (w.heap.size + 1 + 1 + 1 + 1) W (faultW w X ci ai) ∧ ∃ c a, EvX w (pre ++ [x]) (faultW w X ci ai) c a := by
 subst hc
 subst ha
 have hs := h.size
 have far : ∀ k, k ≠ w.heap.size → k ≠ w.heap.size + 1 → (faultW w X c a).heap[k]? = X.heap[k]? := fun k h1 h2 => by
  unfold faultW
  rw [Below.heap_setCell _ ⟨w.heap.size + 1, 1, none⟩ _ k h2, Below.heap_setCell _ ⟨w.heap.size + 1, 0, none⟩ _ k h2, Below.heap_setCell _ ⟨w.heap.size, 0, none⟩ _ k h1]
 have n2 := (hm _ (blk_lt h.c2) (by omega)).trans h.c2
 have n3 := (hm _ (blk_lt h.c3) (by omega)).trans h.c3
 refine ⟨⟨?_, ?_, ?_, ?_⟩, c, a, hr, ?_, ?_, ?_⟩
 · have h1 := hX.size
   have h2 : (faultW w X c a).heap.size = X.heap.size := by simp [faultW]
   omega
 · rw [far _ (by omega) (by omega)]; exact hm _ (by omega) (by omega)
 · rw [far _ (by omega) (by omega)]; exact hm _ (by omega) (by omega)
 · rw [far _ (by omega) (by omega)]; exact hm _ (by omega) (by omega)
 · unfold faultW
   rw [Below.heap_setCell _ ⟨w.heap.size + 1, 1, none⟩ _ _ (by show w.heap.size ≠ w.heap.size + 1; omega), Below.heap_setCell _ ⟨w.heap.size + 1, 0, none⟩ _ _ (by show w.heap.size ≠ w.heap.size + 1; omega)]
   exact Tr.blk_set n2 0 _
 · exact Tr.blk_set (Tr.blk_set ((Below.heap_setCell X ⟨w.heap.size, 0, none⟩ _ _ (by show w.heap.size + 1 ≠ w.heap.size; omega)).trans n3) 0 _) 1 _
 · exact h.bel.trans (((hX.setCell (p := ⟨w.heap.size, 0, none⟩) (by show w.heap.size ≤ w.heap.size; omega) _).setCell (p := ⟨w.heap.size + 1, 0, none⟩) (by show w.heap.size ≤ w.heap.size + 1; omega) _).setCell (p := ⟨w.heap.size + 1, 1, none⟩) (by show w.heap.size ≤ w.heap.size + 1; omega) _)
section
variable {F : Fence} {n : Nat} {P : Program} {ops : Array Oper} {rest : List Oper} {o : Oper} {a : Act} {W : World} {Q : Exit → Act → World → Prop}
theorem gi_dst {N : Tmp} (_hN : o.dst = some N) (h : wpListIn F n P ops Q (o :: rest) a W) : wpListIn F n P ops Q (o :: rest) a W := h
end
theorem res_Events (tmps : Array Value) (w : World) (p q : Nat) (v y z : Value) (h2 : tmps.getD 2 undef = .pointer (some ⟨p, 0, none⟩)) (h3 : tmps.getD 3 undef = .pointer (some ⟨q, 0, none⟩)) (hp : w.heap[p]? = some (.cells #[v] 23 (0, 0))) (hq : w.heap[q]? = some (.cells #[y, z] 26 (0, 0))) :
 (results Tryz.f10 tmps).run Tryz.prog w = .ok (.tuple #[v, .agg #[y, z]]) w := by
 have c0 := blk_cell hp 0
 have d0 := blk_cell hq 0
 have d1 := blk_cell hq 1
 rw [Array.getD_eq_getD_getElem?] at h2 h3
 simp at c0 d0 d1
 simp [results, Tryz.results10, go_sem, h2, h3, c0, d0, d1]
theorem frOf_app (ps qs : List (List UInt8)) : frOf (ps ++ qs) = frOf ps + frOf qs := by simp [frOf]
attribute [local go_sem] Oper.semAt_some
set_option maxRecDepth 100000 in
set_option maxHeartbeats 16000000 in
theorem Events_calls (s : ByteArray) (m : Int) (w : World) (hs : s.size ≤ 1000000000) (hm : w.cell? ⟨2, 0, none⟩ = some (.int .i64 m)) (hlw : ∀ w1, Below w.heap.size w w1 → TE w1) :
 Calls Tryz.prog 10 #[.string s] w (EvsQ (eventsR s.data.toList) w) := by
 have hk23 := Tryz.underlying23
 have HMX := Aside0.mk hm
 have HLW := Aside0.mk hlw
 have HS := Aside0.mk hs
 have hsI : (s.size : Int) ≤ 1000000000 := by omega
 have HSZ := Aside0.mk (show s.data.toList.length = s.size from Array.length_toList)
 clear hm hlw hs
 refine (callsIn_wide (n := 3)).1 ?_
 refine callsIn_of_wp_marks Tryz.func10 rfl trivial ?_ rfl
 simp only [Tryz.ntmps10, List.size_toArray, List.length_cons, List.length_nil, Nat.reduceAdd, Nat.reduceSub, Array.replicate_succ, Array.replicate_zero, List.push_toArray, List.append_toArray, List.nil_append, List.cons_append]
 have hb2 : Below w.heap.size w ((w.alloc (.cells #[.slice none 0 0] 23 (0, 0))).alloc (.cells #[.int .i64 0, .int .i64 0] 26 (0, 0))) := ((Below.refl _ _).alloc (Nat.le_refl _) _).alloc (by simp) _
 by_cases hl : s.size > 65536
 · have q1 : decide ((s.size : Int) > 65536) = true := decide_eq_true (by omega)
   have q1' : decide ((65536 : Int) < (s.size : Int)) = true := decide_eq_true (by omega)
   have HE := Aside0.mk (show eventsR s.data.toList = ([], 2, 0) by unfold eventsR; rw [if_pos (by have := HSZ.out; omega)])
   have HB := Aside0.mk (show Below w.heap.size w ((w.alloc (.cells #[.slice none 0 0] 23 (0, 0))).alloc (.cells #[.int .i64 2, .int .i64 0] 26 (0, 0))) from ((Below.refl _ _).alloc (Nat.le_refl _) _).alloc (by simp) _)
   clear hb2 hl
   gi_wp2
   rw [HE.out]
   have hq3 := blk_new (w.alloc (.cells #[.slice none 0 0] 23 (0, 0))) (.cells #[.int .i64 2, .int .i64 0] 26 (0, 0))
   rw [World.size_alloc] at hq3
   exact ⟨_, res_Events _ _ (w.heap.size) (w.heap.size + 1) _ _ _ rfl rfl (blkA (blk_new w (.cells #[.slice none 0 0] 23 (0, 0))) _) hq3, HB.out, _, rfl, Kd.R_nil _ _ _ _ _⟩
 · have q1 : decide ((s.size : Int) > 65536) = false := decide_eq_false (by omega)
   have q1' : decide ((65536 : Int) < (s.size : Int)) = false := decide_eq_false (by omega)
   have HE := Aside0.mk (show eventsR s.data.toList = outE (runE (splitL s.data.toList)) by unfold eventsR; rw [if_neg (by have := HSZ.out; omega)])
   have HL := Aside0.mk hl
   clear hb2 hl
   gi_wp2_with (refine ⟨trivial, ?_⟩; gi_at_call 18; refine (callsIn_wide.2 (SplitSeq_calls s ⟨#[10]⟩ _)).mono ?_; rintro e w' ⟨rfl, hw⟩; rw [hw]; clear hw; unfold seqW seqV)
   have hs7 : (((((((w.alloc (.cells #[.slice none 0 0] 23 (0, 0))).alloc (.cells #[.int .i64 0, .int .i64 0] 26 (0, 0))).alloc (.cells #[.slice none 0 0] 23 (0, 0))).alloc (.cells #[.int .i64 0] 3 (0, 0))).alloc (.cells #[.string s] 9 (0, 0))).alloc (.cells #[.string ⟨#[10]⟩] 9 (0, 0))).alloc (.cells #[.int .i64 0] 3 (0, 0))).heap.size = w.heap.size + 7 := by simp
   have hb7 : Below w.heap.size w (((((((w.alloc (.cells #[.slice none 0 0] 23 (0, 0))).alloc (.cells #[.int .i64 0, .int .i64 0] 26 (0, 0))).alloc (.cells #[.slice none 0 0] 23 (0, 0))).alloc (.cells #[.int .i64 0] 3 (0, 0))).alloc (.cells #[.string s] 9 (0, 0))).alloc (.cells #[.string ⟨#[10]⟩] 9 (0, 0))).alloc (.cells #[.int .i64 0] 3 (0, 0))) := ((((((((Below.refl w.heap.size w).alloc (Nat.le_refl _) (.cells #[.slice none 0 0] 23 (0, 0))).alloc (by simp) (.cells #[.int .i64 0, .int .i64 0] 26 (0, 0))).alloc (by simp; omega) (.cells #[.slice none 0 0] 23 (0, 0))).alloc (by simp; omega) (.cells #[.int .i64 0] 3 (0, 0))).alloc (by simp; omega) (.cells #[.string s] 9 (0, 0))).alloc (by simp; omega) (.cells #[.string ⟨#[10]⟩] 9 (0, 0))).alloc (by simp; omega) (.cells #[.int .i64 0] 3 (0, 0)))
   have k2 := blkA (blkA (blkA (blkA (blkA (blkA (blk_new w (.cells #[.slice none 0 0] 23 (0, 0))) (.cells #[.int .i64 0, .int .i64 0] 26 (0, 0))) (.cells #[.slice none 0 0] 23 (0, 0))) (.cells #[.int .i64 0] 3 (0, 0))) (.cells #[.string s] 9 (0, 0))) (.cells #[.string ⟨#[10]⟩] 9 (0, 0))) (.cells #[.int .i64 0] 3 (0, 0))
   have k3 := blkA (blkA (blkA (blkA (blkA (blk_new (w.alloc (.cells #[.slice none 0 0] 23 (0, 0))) (.cells #[.int .i64 0, .int .i64 0] 26 (0, 0))) (.cells #[.slice none 0 0] 23 (0, 0))) (.cells #[.int .i64 0] 3 (0, 0))) (.cells #[.string s] 9 (0, 0))) (.cells #[.string ⟨#[10]⟩] 9 (0, 0))) (.cells #[.int .i64 0] 3 (0, 0))
   have k4 := blkA (blkA (blkA (blkA (blk_new ((w.alloc (.cells #[.slice none 0 0] 23 (0, 0))).alloc (.cells #[.int .i64 0, .int .i64 0] 26 (0, 0))) (.cells #[.slice none 0 0] 23 (0, 0))) (.cells #[.int .i64 0] 3 (0, 0))) (.cells #[.string s] 9 (0, 0))) (.cells #[.string ⟨#[10]⟩] 9 (0, 0))) (.cells #[.int .i64 0] 3 (0, 0))
   have k5 := blkA (blkA (blkA (blk_new (((w.alloc (.cells #[.slice none 0 0] 23 (0, 0))).alloc (.cells #[.int .i64 0, .int .i64 0] 26 (0, 0))).alloc (.cells #[.slice none 0 0] 23 (0, 0))) (.cells #[.int .i64 0] 3 (0, 0))) (.cells #[.string s] 9 (0, 0))) (.cells #[.string ⟨#[10]⟩] 9 (0, 0))) (.cells #[.int .i64 0] 3 (0, 0))
   have ks := blkA (blkA (blk_new ((((w.alloc (.cells #[.slice none 0 0] 23 (0, 0))).alloc (.cells #[.int .i64 0, .int .i64 0] 26 (0, 0))).alloc (.cells #[.slice none 0 0] 23 (0, 0))).alloc (.cells #[.int .i64 0] 3 (0, 0))) (.cells #[.string s] 9 (0, 0))) (.cells #[.string ⟨#[10]⟩] 9 (0, 0))) (.cells #[.int .i64 0] 3 (0, 0))
   have kp := blkA (blk_new (((((w.alloc (.cells #[.slice none 0 0] 23 (0, 0))).alloc (.cells #[.int .i64 0, .int .i64 0] 26 (0, 0))).alloc (.cells #[.slice none 0 0] 23 (0, 0))).alloc (.cells #[.int .i64 0] 3 (0, 0))).alloc (.cells #[.string s] 9 (0, 0))) (.cells #[.string ⟨#[10]⟩] 9 (0, 0))) (.cells #[.int .i64 0] 3 (0, 0))
   have kv := blk_new ((((((w.alloc (.cells #[.slice none 0 0] 23 (0, 0))).alloc (.cells #[.int .i64 0, .int .i64 0] 26 (0, 0))).alloc (.cells #[.slice none 0 0] 23 (0, 0))).alloc (.cells #[.int .i64 0] 3 (0, 0))).alloc (.cells #[.string s] 9 (0, 0))).alloc (.cells #[.string ⟨#[10]⟩] 9 (0, 0))) (.cells #[.int .i64 0] 3 (0, 0))
   simp only [World.size_alloc] at k3 k4 k5 ks kp kv
   have K2 := Aside0.mk k2
   have K3 := Aside0.mk k3
   have K4 := Aside0.mk k4
   have K5 := Aside0.mk k5
   have KS := Aside0.mk ks
   have KP := Aside0.mk kp
   have KV := Aside0.mk kv
   have HB7 := Aside0.mk hb7
   have HS7 := Aside0.mk hs7
   clear k2 k3 k4 k5 ks kp kv hb7 hs7
   generalize (((((((w.alloc (.cells #[.slice none 0 0] 23 (0, 0))).alloc (.cells #[.int .i64 0, .int .i64 0] 26 (0, 0))).alloc (.cells #[.slice none 0 0] 23 (0, 0))).alloc (.cells #[.int .i64 0] 3 (0, 0))).alloc (.cells #[.string s] 9 (0, 0))).alloc (.cells #[.string ⟨#[10]⟩] 9 (0, 0))).alloc (.cells #[.int .i64 0] 3 (0, 0))) = X0 at *
   refine range_split (w.heap.size + 1 + 1 + 1 + 1) (w.heap.size + 1 + 1 + 1 + 1 + 1) (w.heap.size + 1 + 1 + 1 + 1 + 1 + 1) rfl rfl m s HS.out KS.out (fun pre W => ∃ acc vl, EvI w X0.heap.size pre W acc vl) (fun pre W => ∃ c a, EvX w pre W c a) ?gm ?gp ?gv ?gi ?gx ?gs ?g0 (fun (x : List UInt8) => { tmps := #[.string s, undef, .pointer (some ⟨w.heap.size, 0, none⟩), .pointer (some ⟨w.heap.size + 1, 0, none⟩), .pointer (some ⟨w.heap.size + 1 + 1, 0, none⟩), .pointer (some ⟨w.heap.size + 1 + 1 + 1, 0, none⟩), .string ⟨x.toArray⟩, undef, undef, undef, undef, undef, .string s, .int .i64 s.size, .bool false, undef, .string s, .func (.func 72) #[] #[.pointer (some ⟨w.heap.size + 1 + 1 + 1 + 1 + 1, 0, none⟩), .pointer (some ⟨w.heap.size + 1 + 1 + 1 + 1, 0, none⟩), .pointer (some ⟨w.heap.size + 1 + 1 + 1 + 1 + 1 + 1, 0, none⟩)], .string ⟨x.toArray⟩, undef, undef, undef, undef, undef, undef, undef, undef, undef, undef, undef, undef, undef, undef, undef, undef, undef, undef, undef, undef, undef, undef, undef, undef, undef, undef, undef, undef, undef, undef, undef, undef, undef, undef, undef, undef, undef, undef, undef, undef, undef, undef, undef, undef], defers := [] }) ?ga ?gb ?gd ?ge
   case gm => rintro pre W ⟨acc, vl, h⟩; exact cell_below' h.bel HMX.out
   case gp => rintro pre W ⟨acc, vl, h⟩; exact h.cp
   case gv => rintro pre W ⟨acc, vl, h⟩; exact h.cv
   case gi => rintro pre W k o h1 h2 ⟨acc, vl, h⟩; exact ⟨acc, vl, h.move HS7.out (below_put (by have := HS7.out; omega)) (fun j hj _ hj0 hj1 => World.putObj_heap_other (by omega))⟩
   case gx => rintro pre W k o h1 h2 ⟨c, a, h⟩; exact ⟨c, a, h.put (by have := HS7.out; omega)⟩
   case gs => rintro pre W v ⟨acc, vl, h⟩; exact ⟨acc, vl, h.move HS7.out ((Below.refl _ _).setCell (p := ⟨w.heap.size + 1 + 1 + 1 + 1, 0, none⟩) (by show w.heap.size ≤ w.heap.size + 1 + 1 + 1 + 1; omega) _) (fun j hj hb _ _ => Below.heap_setCell W ⟨w.heap.size + 1 + 1 + 1 + 1, 0, none⟩ _ j hb)⟩
   case g0 => 
    intro W1 hW hsz
    have hmv : ∀ k o, X0.heap[k]? = some o → W1.heap[k]? = some o := fun k o h => (hW.block k (blk_lt_any h)).trans h
    exact ⟨[], .slice none 0 0, ⟨rfl, by simp, hmv _ _ K2.out, hmv _ _ K3.out, hmv _ _ K4.out, hmv _ _ K5.out, hmv _ _ KP.out, hmv _ _ KV.out, Kd.R_nil _ _ _ _ _, HB7.out.trans (hW.mono HB7.out.size), hsz⟩⟩
   case ga =>
    intro l x W K hK
    gi_wp2
    exact hK
   case gb =>
    rintro pre x rest W hsp ⟨acc, vl, hE⟩ hsz
    obtain ⟨LA, lc, rfl⟩ := Kd.R_slice hE.row
    have hfr := fr_split s.data.toList
    rw [hsp, frOf_app] at hfr
    have hx : frOf pre + x.length ≤ 65536 := by
     have h1 : frOf (x :: rest) = x.length + 1 + frOf rest := rfl
     have h2 := HL.out
     have h3 := HSZ.out
     omega
    clear hfr hsp hsz
    have HX := Aside0.mk hx
    have HEI := Aside0.mk hE
    have e5 := blk_cell hE.c5 0
    have f5 := blk_frozen hE.c5
    have hxs : (ByteArray.mk x.toArray).size = x.length := by simp [ByteArray.size]
    have w1' : wrap64 ((x.length : Int) + 1) = (x.length : Int) + 1 := w64 _ (by omega) (by omega)
    have w2' : wrap64 ((frOf pre : Int) + ((x.length : Int) + 1)) = (frOf pre : Int) + ((x.length : Int) + 1) := w64 _ (by omega) (by omega)
    have hrx := runE_snoc pre x
    rw [hE.run] at hrx
    have HRX := Aside0.mk hrx
    have HNX := Aside0.mk (frOf_snoc pre x)
    have S5 := Aside0.mk (show (W.setCell ⟨w.heap.size + 1 + 1 + 1, 0, none⟩ (.int .i64 ((frOf pre : Int) + ((x.length : Int) + 1)))).heap[w.heap.size + 1 + 1 + 1]? = some (.cells #[.int .i64 ((frOf pre : Int) + ((x.length : Int) + 1))] 3 (0, 0)) from Tr.blk_set hE.c5 0 _)
    have SM := Aside0.mk (fun k (hk : k ≠ w.heap.size + 1 + 1 + 1) => Below.heap_setCell W ⟨w.heap.size + 1 + 1 + 1, 0, none⟩ (.int .i64 ((frOf pre : Int) + ((x.length : Int) + 1))) k hk)
    have SB := Aside0.mk ((Below.refl w.heap.size W).setCell (p := ⟨w.heap.size + 1 + 1 + 1, 0, none⟩) (by show w.heap.size ≤ w.heap.size + 1 + 1 + 1; omega) (.int .i64 ((frOf pre : Int) + ((x.length : Int) + 1))))
    have SZ := Aside0.mk (show (W.setCell ⟨w.heap.size + 1 + 1 + 1, 0, none⟩ (.int .i64 ((frOf pre : Int) + ((x.length : Int) + 1)))).heap.size = W.heap.size by simp)
    clear hE hx hrx
    generalize hfr : frOf pre = fr at *
    have HFR := Aside0.mk hfr
    clear hfr
    have hn := HS7.out
    have HN := Aside0.mk hn
    have hWs := HEI.out.size
    have HWS := Aside0.mk (show w.heap.size + 9 ≤ W.heap.size by omega)
    clear hn hWs
    by_cases hbl : blankL x = true
    · have qb : (Lib.trimS x [32, 9, 13]).isEmpty = true := by rw [List.isEmpty_iff]; exact (trimS_blank x).2 hbl
      gi_wp2_with (refine ⟨trivial, ?_⟩; gi_at_call 19; generalize W.setCell ⟨w.heap.size + 1 + 1 + 1, 0, none⟩ (.int .i64 ((fr : Int) + ((x.length : Int) + 1))) = W2 at *; refine (CallsIn.inRound _ (callsIn_wide.2 (trim_calls ⟨x.toArray⟩ _ (by rw [hxs]; have := HX.out; omega)))).mono ?_; rintro e wt ⟨rfl, hbt⟩)
      have hT : ∀ k, k < W.heap.size → k ≠ w.heap.size + 1 + 1 + 1 → wt.heap[k]? = W.heap[k]? := fun k h1 h2 => (hbt.block k (by rw [SZ.out]; exact h1)).trans (SM.out k h2)
      have t5 := (hbt.block _ (blk_lt S5.out)).trans S5.out
      have hTB := SB.out.trans (hbt.mono (by have h1 := SZ.out; have h2 := HWS.out; omega))
      have hws := HWS.out
      have hn := HN.out
      refine ⟨⟨Nat.le_trans (Nat.le_of_eq SZ.out.symm) hbt.size, hT _ (by omega) (by omega), hT _ (by omega) (by omega), hT _ (by omega) (by omega)⟩, acc, _, HEI.out.line HN.out (by rw [HRX.out, stepE, if_pos hbl, HNX.out]) hTB hT ?_⟩
      rw [HNX.out]
      exact t5.trans (by push_cast; rw [Int.add_assoc])
    · have qb : (Lib.trimS x [32, 9, 13]).isEmpty = false := by
       cases hq : Lib.trimS x [32, 9, 13] with
       | nil => exact absurd ((trimS_blank x).1 hq) hbl
       | cons _ _ => rfl
      gi_wp2_with (refine ⟨trivial, ?_⟩; gi_at_call 19; generalize W.setCell ⟨w.heap.size + 1 + 1 + 1, 0, none⟩ (.int .i64 ((fr : Int) + ((x.length : Int) + 1))) = W2 at *; refine (CallsIn.inRound _ (callsIn_wide.2 (trim_calls ⟨x.toArray⟩ _ (by rw [hxs]; have := HX.out; omega)))).mono ?_; rintro e wt ⟨rfl, hbt⟩)
      have hT : ∀ k, k < W.heap.size → k ≠ w.heap.size + 1 + 1 + 1 → wt.heap[k]? = W.heap[k]? := fun k h1 h2 => (hbt.block k (by rw [SZ.out]; exact h1)).trans (SM.out k h2)
      have HT := Aside0.mk hT
      have T5 := Aside0.mk ((hbt.block _ (blk_lt S5.out)).trans S5.out)
      have HTB := Aside0.mk (SB.out.trans (hbt.mono (by have h1 := SZ.out; have h2 := HWS.out; omega)))
      have HTS := Aside0.mk (show W.heap.size ≤ wt.heap.size from Nat.le_trans (Nat.le_of_eq SZ.out.symm) hbt.size)
      clear hT hbt e5 f5
      refine ⟨trivial, ?_⟩
      have hPC := Parse_calls x wt (fun w1 h1 => HLW.out w1 ((HEI.out.bel.trans HTB.out).trans (h1.mono (by have h2 := HTS.out; have h3 := HWS.out; omega))))
      obtain ⟨v, c, a, hpr⟩ : ∃ v c a, parseR x = (v, c, a) := ⟨_, _, _, rfl⟩
      have HPA := Aside0.mk (parse_cases x v c a hpr)
      have HPR := Aside0.mk hpr
      rw [hpr] at hPC
      unfold ParQ at hPC
      dsimp only at hPC
      clear hpr
      refine (CallsIn.inRound _ (callsIn_wide.2 hPC)).mono ?_
      clear hPC
      rintro e wp ⟨hbp, pv3, pv4, rfl, hp3, hp4⟩
      obtain ⟨P3, q3, rfl⟩ := Kd.R_slice hp3
      obtain ⟨P4, q4, rfl⟩ := Kd.R_slice hp4
      have NV := Aside0.mk (blkA (blk_new wp (.cells #[.int .i64 v.f0, .int .i64 v.f1, .string v.f2, .slice P3 v.f3.length q3, .slice P4 v.f4.length q4] 51 (0, 0))) (.cells #[.int .i64 c, .int .i64 a] 26 (0, 0)))
      have NF := Aside0.mk (show ((wp.alloc (.cells #[.int .i64 v.f0, .int .i64 v.f1, .string v.f2, .slice P3 v.f3.length q3, .slice P4 v.f4.length q4] 51 (0, 0))).alloc (.cells #[.int .i64 c, .int .i64 a] 26 (0, 0))).heap[wp.heap.size + 1]? = some (.cells #[.int .i64 c, .int .i64 a] 26 (0, 0)) by have h := blk_new (wp.alloc (.cells #[.int .i64 v.f0, .int .i64 v.f1, .string v.f2, .slice P3 v.f3.length q3, .slice P4 v.f4.length q4] 51 (0, 0))) (.cells #[.int .i64 c, .int .i64 a] 26 (0, 0)); rwa [World.size_alloc] at h)
      have hX1 : Below wp.heap.size wp ((wp.alloc (.cells #[.int .i64 v.f0, .int .i64 v.f1, .string v.f2, .slice P3 v.f3.length q3, .slice P4 v.f4.length q4] 51 (0, 0))).alloc (.cells #[.int .i64 c, .int .i64 a] 26 (0, 0))) := ((Below.refl _ _).alloc (Nat.le_refl _) _).alloc (by simp) _
      have RP3 := Aside0.mk (Kd.R_below hp3 hX1)
      have RP4 := Aside0.mk (Kd.R_below hp4 hX1)
      have HX1 := Aside0.mk (hbp.trans (hX1.mono hbp.size))
      have hwt : w.heap.size + 9 ≤ wt.heap.size := by have h2 := HTS.out; have h3 := HWS.out; omega
      have hws := HWS.out
      have NR2 := Aside0.mk ((HX1.out.block _ (by omega)).trans ((HT.out _ (by omega) (by omega)).trans HEI.out.c2))
      have NR3 := Aside0.mk ((HX1.out.block _ (by omega)).trans ((HT.out _ (by omega) (by omega)).trans HEI.out.c3))
      have NR4 := Aside0.mk ((HX1.out.block _ (by omega)).trans ((HT.out _ (by omega) (by omega)).trans HEI.out.c4))
      have HWT := Aside0.mk hwt
      have HWP := Aside0.mk hbp.size
      clear hbp hp3 hp4 hX1 hwt hws
      have HM1 : True := trivial
      by_cases hc : c = 0
      · have qc : ((c : Int) != 0) = false := by rw [bne_eq_false_iff_eq]; omega
        have HC0 := Aside0.mk hc
        have HOK := Aside0.mk (show Ok 8 v by
         rcases HPA.out with h | h
         · exact h.2.2
         · exact absurd hc h.1)
        obtain ⟨A3', q3', e3, l3, g3⟩ := Kd.R_reads RP3.out
        cases e3
        obtain ⟨A4', q4', e4, l4, g4⟩ := Kd.R_reads RP4.out
        cases e4
        have HXW := Aside0.mk (show Below w.heap.size W ((wp.alloc (.cells #[.int .i64 v.f0, .int .i64 v.f1, .string v.f2, .slice P3 v.f3.length q3, .slice P4 v.f4.length q4] 51 (0, 0))).alloc (.cells #[.int .i64 c, .int .i64 a] 26 (0, 0))) from HTB.out.trans (HX1.out.mono (by have := HWT.out; omega)))
        have HEV := Aside0.mk (event_calls v P3 q3 P4 q4 m _ HOK.out.f l3 g3 l4 g4 (cell_below' (HEI.out.bel.trans HXW.out) HMX.out))
        unfold vArg at HEV
        clear hc l3 g3 l4 g4
        have HVS : True := trivial
        gi_wp2_with (first | ((with_reducible refine gi_dst (N := 33) rfl ?_); clear HM1; generalize (wp.alloc (.cells #[.int .i64 v.f0, .int .i64 v.f1, .string v.f2, .slice P3 v.f3.length q3, .slice P4 v.f4.length q4] 51 (0, 0))).alloc (.cells #[.int .i64 c, .int .i64 a] 26 (0, 0)) = X1 at *; have g0 := blk_cell NF.out 0; have z0 := blk_cell NV.out 0; have z1 := blk_cell NV.out 1; have z2 := blk_cell NV.out 2; have z3 := blk_cell NV.out 3; have z4 := blk_cell NV.out 4) | fail)
        clear g0 z0 z1 z2 z3 z4
        refine ⟨trivial, ?_⟩
        refine (CallsIn.inRound _ (callsIn_wide.2 HEV.out)).mono ?_
        clear HEV
        rintro e2 we ⟨hbe, xe, ve, rfl, hre, hxe⟩
        obtain ⟨E2, k2, rfl⟩ := Kd.R_slice hre
        have hX2 : Below we.heap.size we (we.alloc (.cells #[.int .i64 xe.f0, .int .i64 xe.f1, .slice E2 xe.f2.length k2] 39 (0, 0))) := (Below.refl _ _).alloc (Nat.le_refl _) _
        have HX2 := Aside0.mk (HX1.out.trans ((hbe.trans (hX2.mono hbe.size)).mono HX1.out.size))
        have HXW2 := Aside0.mk (HXW.out.trans ((hbe.trans (hX2.mono hbe.size)).mono (by have := HX1.out.size; have := HWT.out; omega)))
        have NE := Aside0.mk (blk_new we (.cells #[.int .i64 xe.f0, .int .i64 xe.f1, .slice E2 xe.f2.length k2] 39 (0, 0)))
        have RE := Aside0.mk (Kd.R_below hre hX2)
        have NR2e := Aside0.mk (((hbe.trans (hX2.mono hbe.size)).block _ (blk_lt NR2.out)).trans NR2.out)
        have NR3e := Aside0.mk (((hbe.trans (hX2.mono hbe.size)).block _ (blk_lt NR3.out)).trans NR3.out)
        have NR4e := Aside0.mk (((hbe.trans (hX2.mono hbe.size)).block _ (blk_lt NR4.out)).trans NR4.out)
        have HXE := Aside0.mk (show X1.heap.size ≤ we.heap.size from hbe.size)
        have HXM := Aside0.mk (show ∀ k, k < W.heap.size → k ≠ w.heap.size + 1 + 1 + 1 → (we.alloc (.cells #[.int .i64 xe.f0, .int .i64 xe.f1, .slice E2 xe.f2.length k2] 39 (0, 0))).heap[k]? = W.heap[k]? from fun k h1 h2 => (HX2.out.block k (by have := HTS.out; omega)).trans (HT.out k h1 h2))
        have HM2 : True := trivial
        clear hbe hre hX2
        cases hev : eventR v with
        | none =>
         have HRS := Aside0.mk (show runE (pre ++ [x]) = .stop 20 fr by rw [HRX.out, stepE, if_neg hbl, HPR.out, if_neg (by rw [HC0.out]; exact fun h => h rfl), hev])
         clear hxe hev
         gi_wp2_with (first | ((with_reducible refine gi_dst (N := 49) rfl ?_); clear HM2; generalize we.alloc (.cells #[.int .i64 xe.f0, .int .i64 xe.f1, .slice E2 xe.f2.length k2] 39 (0, 0)) = X2 at *; have r2 := blk_cell NR2e.out 0; have rf2 := blk_frozen NR2e.out; have r3 := blk_cell NR3e.out 0; have r3b := blk_cell NR3e.out 1; have rf3 := blk_frozen NR3e.out) | fail)
         exact fault_fin HEI.out HN.out HXW2.out HXM.out HRS.out rfl rfl
        | some e =>
         have he := hxe e hev
         subst he
         have HEVS := Aside0.mk hev
         clear hxe hev
         by_cases hlen : acc.length = 256
         · have ql : ((acc.length : Int) == 256) = true := by rw [beq_iff_eq]; omega
           have HRS := Aside0.mk (show runE (pre ++ [x]) = .stop 2 fr by rw [HRX.out, stepE, if_neg hbl, HPR.out, if_neg (by rw [HC0.out]; exact fun h => h rfl), HEVS.out]; simp only []; rw [if_pos hlen])
           clear hlen
           gi_wp2_with (first | ((with_reducible refine gi_dst (N := 49) rfl ?_); clear HM2; generalize we.alloc (.cells #[.int .i64 e.f0, .int .i64 e.f1, .slice E2 e.f2.length k2] 39 (0, 0)) = X2 at *; have l4 := blk_cell NR4e.out 0; have r2 := blk_cell NR2e.out 0; have rf2 := blk_frozen NR2e.out; have r3 := blk_cell NR3e.out 0; have r3b := blk_cell NR3e.out 1; have rf3 := blk_frozen NR3e.out) | fail)
           exact fault_fin HEI.out HN.out HXW2.out HXM.out HRS.out rfl rfl
         · have ql : ((acc.length : Int) == 256) = false := by rw [beq_eq_false_iff_ne]; omega
           have HRS := Aside0.mk (show runE (pre ++ [x]) = .go (frOf (pre ++ [x])) (acc ++ [e]) by rw [HRX.out, stepE, if_neg hbl, HPR.out, if_neg (by rw [HC0.out]; exact fun h => h rfl), HEVS.out, HNX.out]; simp only []; rw [if_neg hlen])
           have hla : acc.length < 256 := by have := HEI.out.len; omega
           have HLA := Aside0.mk hla
           clear hlen hla
           have hRt := Kd.R_move (Kd.R_bound HEI.out.row) (fun k hk => HT.out k hk.2.2.1 (by have h1 := hk.2.1; have h2 := HN.out; omega))
           have HOB := Aside0.mk (fun k (hk : (Value.slice LA acc.length lc).ownBlock = some k) => ((Kd.R_bound HEI.out.row).1 k hk).2.2.1)
           have R8 := Aside0.mk (Kd.R_mono (Kd.R_below hRt HX2.out) (fun _ _ => (trivial : True)))
           have HB5x := Aside0.mk ((HX2.out.block _ (blk_lt T5.out)).trans T5.out)
           clear hRt
           have hx0 : X0.heap.size + 2 ≤ we.heap.size := by have := HXE.out; have := HX1.out.size; have := HTS.out; have := HEI.out.size; omega
           have HX0 := Aside0.mk hx0
           clear hx0
           gi_wp2_with (first | ((with_reducible refine gi_dst (N := 49) rfl ?_); clear HM2; generalize we.alloc (.cells #[.int .i64 e.f0, .int .i64 e.f1, .slice E2 e.f2.length k2] 39 (0, 0)) = X2 at *; have l4 := blk_cell NR4e.out 0; have y0 := blk_cell NE.out 0; have y1 := blk_cell NE.out 1; have y2 := blk_cell NE.out 2) | (gi_at_builtin; refine R_appendIn k39 (w0 := X2) (X0.heap.size + 2) rfl (.tmp 57) (.tmp 59) 23 39 (.agg #[.int .i64 0, .int .i64 0, .slice none 0 0]) 40 rfl Tryz.underlying23 info39 rfl (by decide) (by decide) (.slice LA acc.length lc) acc e [.int .i64 e.f0, .int .i64 e.f1, .slice E2 e.f2.length k2] (fun _ => True) (fun k => X1.heap.size ≤ k) rfl (by first | (go_simp; done) | (go_simp; rfl)) ?aP ?aK (fun _ _ => trivial) ?aO ?aB ?aS ?aL ?_; (case aP => exact k39_mkM _ _ _ e (Kd.R_lower (Kd.R_mono (Kd.R_bound RE.out) (fun k hk => hk.2.1)) (by have := HX1.out.size; have := HTS.out; have := HEI.out.size; omega))); (case aK => exact fun k hk => ⟨trivial, fun e => by have h1 := HOB.out k e.symm; have h2 := HX1.out.size; have h3 := HTS.out; omega⟩); (case aO => exact R8.out); (case aB => exact Below.refl _ _); (case aS => have h1 := HX0.out; have h2 := blk_lt NE.out; omega); (case aL => have := HLA.out; omega); intro v1 w1x ho hb1 hg hat; obtain ⟨A1, k1x, hv1⟩ := Kd.R_slice ho; rw [List.length_append, List.length_singleton] at hv1; subst hv1; have HO1 := Aside0.mk ho; have HB1 := Aside0.mk hb1; have N4 := Aside0.mk ((hb1.block _ (by have := HN.out; omega)).trans NR4e.out); clear ho hb1 hg hat l4 y0 y1 y2; have l4 := blk_cell N4.out 0; have lf := blk_frozen N4.out) | fail)
           have hn := HN.out
           have hws := HWS.out
           have hsi := HEI.out.size
           have hZ : ∀ k, k < X0.heap.size + 2 → k ≠ w.heap.size + 1 + 1 → (w1x.setCell ⟨w.heap.size + 1 + 1, 0, none⟩ (.slice A1 (acc.length + 1) k1x)).heap[k]? = X2.heap[k]? := fun k h1 h2 => (Below.heap_setCell w1x ⟨w.heap.size + 1 + 1, 0, none⟩ _ k h2).trans (HB1.out.block k h1)
           have hsz1 := HB1.out.size
           have hsz2 := HX2.out.size
           have hsz3 := HTS.out
           have hszZ : (w1x.setCell ⟨w.heap.size + 1 + 1, 0, none⟩ (.slice A1 (acc.length + 1) k1x)).heap.size = w1x.heap.size := by simp
           refine ⟨⟨by omega, (hZ _ (by omega) (by omega)).trans (HXM.out _ (by omega) (by omega)), (hZ _ (by omega) (by omega)).trans (HXM.out _ (by omega) (by omega)), (hZ _ (by omega) (by omega)).trans (HXM.out _ (by omega) (by omega))⟩, acc ++ [e], _,
            ⟨HRS.out, by rw [List.length_append, List.length_singleton]; have := HLA.out; omega, (hZ _ (by omega) (by omega)).trans NR2e.out, (hZ _ (by omega) (by omega)).trans NR3e.out, Tr.blk_set N4.out 0 _, ?_, (hZ _ (by omega) (by omega)).trans ((HXM.out _ (by omega) (by omega)).trans HEI.out.cp), (hZ _ (by omega) (by omega)).trans ((HXM.out _ (by omega) (by omega)).trans HEI.out.cv),
             Kd.R_mono (Kd.R_move (Kd.R_bound HO1.out) (fun k hk => Below.heap_setCell w1x ⟨w.heap.size + 1 + 1, 0, none⟩ _ k (by have h1 := hk.2.1; intro e9; have e9' : k = w.heap.size + 1 + 1 := e9; omega))) (fun _ _ => trivial),
             (HEI.out.bel.trans (HXW2.out.trans (HB1.out.mono (by omega)))).setCell (p := ⟨w.heap.size + 1 + 1, 0, none⟩) (by show w.heap.size ≤ w.heap.size + 1 + 1; omega) _, by omega⟩⟩
           rw [HNX.out]
           exact (hZ _ (by omega) (by omega)).trans (HB5x.out.trans (by push_cast; rw [Int.add_assoc]))
      · have qc : ((c : Int) != 0) = true := bne_iff_ne.2 (by omega)
        have ha : (a : Int) ≤ 1000000 := by
         rcases HPA.out with h | h
         · exact absurd h.1 hc
         · have := h.2.2; have h3 := HX.out; omega
        have w3' : wrap64 ((fr : Int) + (a : Int)) = (fr : Int) + (a : Int) := w64 _ (by omega) (by have := HX.out; omega)
        gi_wp2_with (first | ((with_reducible refine gi_dst (N := 33) rfl ?_); clear HM1; generalize (wp.alloc (.cells #[.int .i64 v.f0, .int .i64 v.f1, .string v.f2, .slice P3 v.f3.length q3, .slice P4 v.f4.length q4] 51 (0, 0))).alloc (.cells #[.int .i64 c, .int .i64 a] 26 (0, 0)) = X1 at *; have g0 := blk_cell NF.out 0; have g1 := blk_cell NF.out 1; have r2 := blk_cell NR2.out 0; have rf2 := blk_frozen NR2.out; have r3 := blk_cell NR3.out 0; have r3b := blk_cell NR3.out 1; have rf3 := blk_frozen NR3.out) | fail)
        have HXM := Aside0.mk (show ∀ k, k < W.heap.size → k ≠ w.heap.size + 1 + 1 + 1 → X1.drew.heap[k]? = W.heap[k]? from fun k h1 h2 => (HX1.out.block k (by have := HTS.out; omega)).trans (HT.out k h1 h2))
        have HXB := Aside0.mk (show Below w.heap.size W X1.drew from HTB.out.trans ((HX1.out.trans (⟨rfl, rfl, rfl, Nat.le_refl _, fun _ _ => rfl⟩ : Below wt.heap.size X1 X1.drew)).mono (by have := HWT.out; omega)))
        have HRS := Aside0.mk (show runE (pre ++ [x]) = .stop c (fr + a) by rw [HRX.out, stepE, if_neg hbl, HPR.out, if_pos hc])
        refine startIn_ (k := 9) (S := (fun w' => w'.cell? ⟨wp.heap.size + 1, 0, none⟩ = some (.int .i64 c) ∧ w'.cell? ⟨wp.heap.size + 1, 1, none⟩ = some (.int .i64 a))) (ds := [8]) #[fF, fF, fF, fF, fF, fF, fF, fF, fF] (by kernel_rfl) rfl rfl (by kernel_rfl) (fun _ _ h => h) ⟨g0, g1⟩ (fun hHeld => ?_)
        refine pure_ (i := 0) (N := some 36) (v := ?_) (a' := ?_) #[tT, fF, fF, fF, fF, fF, fF, fF, fF] rfl rfl (by kernel_rfl) (fun _ _ _ h => h) (Or.inl ⟨by rfl, ?_⟩) ?_ ?_
        rotate_left
        · intro w'
          go_simp
          with_reducible rfl
        rotate_left
        · simp only [Act.put, sA, sZ, sS, i64_w, i32_w]
          rfl
        refine take_ (i := 1) (N := some 37) (v := ?_) (a' := ?_) #[tT, tT, fF, fF, fF, fF, fF, fF, fF] rfl rfl (by kernel_rfl) (fun _ _ _ h => h) (Or.inl ⟨by rfl, ?_⟩) hHeld ?_ ?_
        rotate_left
        · rintro w' ⟨s0, s1⟩
          go_simp
          with_reducible rfl
        rotate_left
        · simp only [Act.put, sA, sZ, sS, i64_w, i32_w]
          rfl
        refine pure_ (i := 2) (N := some 38) (v := ?_) (a' := ?_) #[tT, tT, tT, fF, fF, fF, fF, fF, fF] rfl rfl (by kernel_rfl) (fun _ _ _ h => h) (Or.inl ⟨by rfl, ?_⟩) ?_ ?_
        rotate_left
        · intro w'
          go_simp
          with_reducible rfl
        rotate_left
        · simp only [Act.put, sA, sZ, sS, i64_w, i32_w]
          rfl
        refine pure_ (i := 3) (N := some 39) (v := ?_) (a' := ?_) #[tT, tT, tT, tT, fF, fF, fF, fF, fF] rfl rfl (by kernel_rfl) (fun _ _ _ h => h) (Or.inl ⟨by rfl, ?_⟩) ?_ ?_
        rotate_left
        · intro w'
          go_simp
          with_reducible rfl
        rotate_left
        · simp only [Act.put, sA, sZ, sS, i64_w, i32_w]
          rfl
        refine take_ (i := 4) (N := some 40) (v := ?_) (a' := ?_) #[tT, tT, tT, tT, tT, fF, fF, fF, fF] rfl rfl (by kernel_rfl) (fun _ _ _ h => h) (Or.inl ⟨by rfl, ?_⟩) hHeld ?_ ?_
        rotate_left
        · rintro w' ⟨s0, s1⟩
          go_simp
          with_reducible rfl
        rotate_left
        · simp only [Act.put, sA, sZ, sS, i64_w, i32_w]
          rfl
        refine pure_ (i := 5) (N := some 41) (v := ?_) (a' := ?_) #[tT, tT, tT, tT, tT, tT, fF, fF, fF] rfl rfl (by kernel_rfl) (fun _ _ _ h => h) (Or.inl ⟨by rfl, ?_⟩) ?_ ?_
        rotate_left
        · intro w'
          go_simp
          with_reducible rfl
        rotate_left
        · simp only [Act.put, sA, sZ, sS, i64_w, i32_w]
          rfl
        refine pure_ (i := 6) (N := some 42) (v := ?_) (a' := ?_) #[tT, tT, tT, tT, tT, tT, tT, fF, fF] rfl rfl (by kernel_rfl) (fun _ _ _ h => h) (Or.inl ⟨by rfl, ?_⟩) ?_ ?_
        rotate_left
        · intro w'
          go_simp
          with_reducible rfl
        rotate_left
        · simp only [Act.put, sA, sZ, sS, i64_w, i32_w]
          rfl
        have v2 : X1.drew.cell? ⟨w.heap.size, 0, none⟩ = some (.slice none 0 0) := r2
        have vf2 : ∀ j, X1.drew.frozen? ⟨w.heap.size, j, none⟩ = false := rf2
        have NF' := Aside0.mk (show X1.drew.heap[wp.heap.size + 1]? = some (.cells #[.int .i64 c, .int .i64 a] 26 (0, 0)) from NF.out)
        have NR3' := Aside0.mk (show X1.drew.heap[w.heap.size + 1]? = some (.cells #[.int .i64 0, .int .i64 0] 26 (0, 0)) from NR3.out)
        have hwp : w.heap.size + 9 ≤ wp.heap.size := by have := HWT.out; have := HWP.out; omega
        have HWP2 := Aside0.mk hwp
        clear hwp hHeld
        generalize X1.drew = Xd at *
        refine one_ (i := 7) (N := none) #[tT, tT, tT, tT, tT, tT, tT, tT, fF] rfl rfl (by kernel_rfl) (by decide) (fun K hK => ?_)
        rw [if_pos (by rfl)]
        unfold Oper.wp
        go_simp
        have NF2 := Aside0.mk ((Below.heap_setCell Xd ⟨w.heap.size, 0, none⟩ (.slice none 0 0) (wp.heap.size + 1) (by have := HWP2.out; show wp.heap.size + 1 ≠ w.heap.size; omega)).trans NF'.out)
        have NR5 := Aside0.mk ((Below.heap_setCell Xd ⟨w.heap.size, 0, none⟩ (.slice none 0 0) (w.heap.size + 1) (by show w.heap.size + 1 ≠ w.heap.size; omega)).trans NR3'.out)
        refine hK.out _ _ ⟨blk_cell NF2.out 0, blk_cell NF2.out 1⟩ fun hHeld => ?_
        clear hK K hHeld v2 vf2
        have HFW := Aside0.mk (show ∀ c a : Int, faultW w Xd c a = ((Xd.setCell ⟨w.heap.size, 0, none⟩ (.slice none 0 0)).setCell ⟨w.heap.size + 1, 0, none⟩ (.int .i64 c)).setCell ⟨w.heap.size + 1, 1, none⟩ (.int .i64 a) from fun _ _ => rfl)
        generalize Xd.setCell ⟨w.heap.size, 0, none⟩ (.slice none 0 0) = Xe at *
        have v3 := blk_cell NR5.out 0
        have v3b := blk_cell NR5.out 1
        have vf3 := blk_frozen NR5.out
        refine last_ (i := 8) (N := none) #[tT, tT, tT, tT, tT, tT, tT, tT, tT] rfl rfl (by kernel_rfl) (by decide) (fun K hK => ?_)
        rw [if_pos (by rfl)]
        unfold Oper.wp
        go_simp
        refine hK.out _ _ ?_
        clear hK K v3 v3b vf3
        refine done_ (by kernel_rfl) ?_
        rw [← HFW.out]
        gi_wp2
        exact fault_fin HEI.out HN.out HXB.out HXM.out HRS.out rfl (by push_cast; rfl)
   case gd =>
    rintro W ⟨acc, vl, hE⟩ hD
    obtain ⟨LA, lc, rfl⟩ := Kd.R_slice hE.row
    have HOU := Aside0.mk (show eventsR s.data.toList = (acc, 0, 0) by rw [HE.out, hE.run]; rfl)
    have HEI := Aside0.mk hE
    have HD := Aside0.mk hD
    have l4 := blk_cell hE.c4 0
    have r2 := blk_cell hE.c2 0
    have rf2 := blk_frozen hE.c2
    have r3 := blk_cell hE.c3 0
    have r3b := blk_cell hE.c3 1
    have rf3 := blk_frozen hE.c3
    clear hE hD
    gi_wp2
    have hn := HS7.out
    have HZ := Aside0.mk (show ∀ k, k ≠ w.heap.size → k ≠ w.heap.size + 1 → ((((W.setCell ⟨w.heap.size, 0, none⟩ (.slice LA acc.length lc)).setCell ⟨w.heap.size + 1, 0, none⟩ (.int .i64 0)).setCell ⟨w.heap.size + 1, 1, none⟩ (.int .i64 0)).heap[k]? = W.heap[k]?) from fun k h1 h2 => by
     rw [Below.heap_setCell _ ⟨w.heap.size + 1, 1, none⟩ _ k h2, Below.heap_setCell _ ⟨w.heap.size + 1, 0, none⟩ _ k h2, Below.heap_setCell _ ⟨w.heap.size, 0, none⟩ _ k h1])
    have N2 := Aside0.mk (show (((W.setCell ⟨w.heap.size, 0, none⟩ (.slice LA acc.length lc)).setCell ⟨w.heap.size + 1, 0, none⟩ (.int .i64 0)).setCell ⟨w.heap.size + 1, 1, none⟩ (.int .i64 0)).heap[w.heap.size]? = some (.cells #[.slice LA acc.length lc] 23 (0, 0)) by
     rw [Below.heap_setCell _ ⟨w.heap.size + 1, 1, none⟩ _ _ (by show w.heap.size ≠ w.heap.size + 1; omega), Below.heap_setCell _ ⟨w.heap.size + 1, 0, none⟩ _ _ (by show w.heap.size ≠ w.heap.size + 1; omega)]
     exact Tr.blk_set HEI.out.c2 0 _)
    have N3 := Aside0.mk (show (((W.setCell ⟨w.heap.size, 0, none⟩ (.slice LA acc.length lc)).setCell ⟨w.heap.size + 1, 0, none⟩ (.int .i64 0)).setCell ⟨w.heap.size + 1, 1, none⟩ (.int .i64 0)).heap[w.heap.size + 1]? = some (.cells #[.int .i64 0, .int .i64 0] 26 (0, 0)) from Tr.blk_set (Tr.blk_set ((Below.heap_setCell W ⟨w.heap.size, 0, none⟩ _ _ (by show w.heap.size + 1 ≠ w.heap.size; omega)).trans HEI.out.c3) 0 _) 1 _)
    have NB := Aside0.mk (((HEI.out.bel.setCell (p := ⟨w.heap.size, 0, none⟩) (by show w.heap.size ≤ w.heap.size; omega) (.slice LA acc.length lc)).setCell (p := ⟨w.heap.size + 1, 0, none⟩) (by show w.heap.size ≤ w.heap.size + 1; omega) (.int .i64 0)).setCell (p := ⟨w.heap.size + 1, 1, none⟩) (by show w.heap.size ≤ w.heap.size + 1; omega) (.int .i64 0))
    generalize ((W.setCell ⟨w.heap.size, 0, none⟩ (.slice LA acc.length lc)).setCell ⟨w.heap.size + 1, 0, none⟩ (.int .i64 0)).setCell ⟨w.heap.size + 1, 1, none⟩ (.int .i64 0) = Z at *
    refine ⟨by simp, .inl ⟨_, _, rfl, run_takeDeferred ((HZ.out _ (by omega) (by omega)).trans HD.out), ?_⟩⟩
    rw [HOU.out]
    exact ⟨_, res_Events _ _ (w.heap.size) (w.heap.size + 1) _ _ _ rfl rfl ((World.putObj_heap_other (by omega)).trans N2.out) ((World.putObj_heap_other (by omega)).trans N3.out), NB.out.trans (below_put (by omega)), _, rfl,
     Kd.R_mono (Kd.R_lower (Kd.R_move (Kd.R_bound HEI.out.row) (fun k hk => (World.putObj_heap_other (by have h1 := hk.2.1; omega)).trans (HZ.out k (by have h1 := hk.2.1; omega) (by have h1 := hk.2.1; omega)))) (by omega)) (fun _ _ => trivial)⟩
   case ge =>
    rintro pre W hpre ⟨c, a, hX⟩ hD
    have HOU := Aside0.mk (show eventsR s.data.toList = ([], c, a) by rw [HE.out, runE_stop hX.run hpre]; rfl)
    have HEX := Aside0.mk hX
    have HD := Aside0.mk hD
    clear hX hD
    gi_wp2
    have hn := HS7.out
    refine ⟨by simp, .inl ⟨_, _, rfl, run_takeDeferred HD.out, ?_⟩⟩
    rw [HOU.out]
    exact ⟨_, res_Events _ _ (w.heap.size) (w.heap.size + 1) _ _ _ rfl rfl ((World.putObj_heap_other (by omega)).trans HEX.out.c2) ((World.putObj_heap_other (by omega)).trans HEX.out.c3), HEX.out.bel.trans (below_put (by omega)), _, rfl, Kd.R_nil _ _ _ _ _⟩
end Go.Proofs.YtamcicojockhpaaGreatDoor.Wi
end
section
set_option linter.unusedVariables false
set_option linter.unusedSimpArgs false
namespace Go.Proofs.YtamcicojockhpaaGreatDoor.Wi
open Go.RowKit Go.Proofs.YtamcicojockhpaaGreatDoorW.PrintWords Go.Proofs.YtamcicojockhpaaGreatDoorW.PrintLast Go.Proofs.YtamcicojockhpaaGreatDoorW.PrintMore
open Go.Proofs.YtamcicojockhpaaGreatDoor.Lx Go.Proofs.YtamcicojockhpaaGreatDoor.PS Go.Proofs.YtamcicojockhpaaGreatDoor.Tr
set_option maxRecDepth 100000 in
set_option maxHeartbeats 2000000 in
theorem SameVals_eq (l : List Int) (A B : Option Addr) (c d : Nat) (w : World) (hl : l.length ≤ 1000000000000) (ga : (Kd.int .i64).C w A l.length l) (gb : (Kd.int .i64).C w B l.length l) :
 Calls Tryz.prog 62 #[.slice A l.length c, .slice B l.length d] w fun e w' => e = .returned (.bool true) ∧ Below w.heap.size w w' := by
 have HA := Aside0.mk ga
 have HB := Aside0.mk gb
 have HL := Aside0.mk hl
 have hlI : (l.length : Int) ≤ 1000000000000 := by omega
 clear ga gb hl
 go_enter Tryz.func62, Tryz.ntmps62
 go_wp2
 go_loopg [5] l.length (fun kq v5 w2 => ∃ k : Nat, k + kq = l.length ∧ v5 = .int .i64 k ∧ Aside0 (Below w.heap.size w w2))
 case atStart => exact ⟨0, by omega, rfl, Aside0.mk (Below.refl _ _)⟩
 case round =>
  obtain ⟨k, hk, rfl, HBW⟩ := hrel
  cases gk with
  | zero =>
   have hge : ¬ ((k : Nat) : Int) < (l.length : Int) := by omega
   go_wp2
   go_ret
   exact ⟨rfl, HBW.out⟩
  | succ k1 =>
   have hlt : ((k : Nat) : Int) < (l.length : Int) := by omega
   have hlt' : k < l.length := by omega
   obtain ⟨ad, e, r0⟩ := Kd.at_int (Kd.C_below HA.out HBW.out) (k : Int) (by omega) (by omega)
   cases e
   obtain ⟨bd, e, t0⟩ := Kd.at_int (Kd.C_below HB.out HBW.out) (k : Int) (by omega) (by omega)
   cases e
   have hrd : rd l (k : Int) = l[k] := by simp [rd, List.getD, List.getElem?_eq_getElem hlt']
   rw [hrd, Int.toNat_natCast] at r0 t0
   clear hrd
   generalize l[k] = x at *
   have hk9 : (k : Int) ≤ 1000000000000 := by omega
   go_wp2
   go_quiet (fail)
   go_wp2
   go_roundg k1
   case measure => omega
   case rel => exact ⟨k + 1, by omega, by go_num, Aside0.mk (pw_below_drewN HBW.out _)⟩
set_option maxRecDepth 100000 in
set_option maxHeartbeats 8000000 in
theorem SameCalls_eq (l : List Cl) (A B : Option Addr) (c d : Nat) (w : World) (hl : l.length ≤ 1000000000000) (hf : ∀ x ∈ l, x.f4.length ≤ 1000000000000) (ga : k43.C w A l.length l) (gb : k43.C w B l.length l) :
 Calls Tryz.prog 25 #[.slice A l.length c, .slice B l.length d] w fun e w' => e = .returned (.bool true) ∧ Below w.heap.size w w' := by
 have HA := Aside0.mk ga
 have HB := Aside0.mk gb
 have HL := Aside0.mk hl
 have HF := Aside0.mk hf
 have hlI : (l.length : Int) ≤ 1000000000000 := by omega
 clear ga gb hl hf
 go_enter Tryz.func25, Tryz.ntmps25
 go_wp2
 go_loopg [5] l.length (fun kq v5 w2 => ∃ k : Nat, k + kq = l.length ∧ v5 = .int .i64 k ∧ Aside0 (Below w.heap.size w w2))
 case atStart => exact ⟨0, by omega, rfl, Aside0.mk (Below.refl _ _)⟩
 case round =>
  obtain ⟨k, hk, rfl, HBW⟩ := hrel
  cases gk with
  | zero =>
   have hge : ¬ ((k : Nat) : Int) < (l.length : Int) := by omega
   go_wp2
   go_ret
   exact ⟨rfl, HBW.out⟩
  | succ k1 =>
   have hlt : ((k : Nat) : Int) < (l.length : Int) := by omega
   have hlt' : k < l.length := by omega
   have HFX := Aside0.mk (HF.out _ (List.getElem_mem hlt'))
   obtain ⟨ad, A4, c4, e, r0, r1, r2, r3, r4, l4, g4⟩ := at_T43 (Kd.C_below HA.out HBW.out) k (by omega) hlt
   cases e
   obtain ⟨bd, B4, d4, e, t0, t1, t2, t3, t4, m4, q4⟩ := at_T43 (Kd.C_below HB.out HBW.out) k (by omega) hlt
   cases e
   have hrd : rd_T43 l k = l[k] := by simp [rd_T43, List.getD, List.getElem?_eq_getElem hlt']
   rw [hrd] at r0 r1 r2 r3 r4 g4 t0 t1 t2 t3 t4 q4
   rw [Int.toNat_natCast] at r0 r1 r2 r3 r4 t0 t1 t2 t3 t4
   have HG4 := Aside0.mk (And.intro g4 q4)
   clear hrd l4 m4 g4 q4
   generalize l[k] = x at *
   have hk9 : (k : Int) ≤ 1000000000000 := by omega
   go_wp2
   have hdr : Below wr.heap.size wr wr.drew := ⟨rfl, rfl, rfl, Nat.le_refl _, fun _ _ => rfl⟩
   have HDR := Aside0.mk hdr
   have HSS := fun w' (hb : Below wr.drew.heap.size wr.drew w') => (show (fun w' => w'.cell? (ad.add (k * 5)) = some (.int .i64 x.f0) ∧ w'.cell? (⟨(ad.add (k * 5)).block, (ad.add (k * 5)).off + 1, none⟩) = some (.string x.f1) ∧ w'.cell? (⟨(ad.add (k * 5)).block, (ad.add (k * 5)).off + 2, none⟩) = some (.int .i64 x.f2) ∧ w'.cell? (⟨(ad.add (k * 5)).block, (ad.add (k * 5)).off + 3, none⟩) = some (.bool x.f3) ∧ w'.cell? (⟨(ad.add (k * 5)).block, (ad.add (k * 5)).off + 4, none⟩) = some (.slice A4 x.f4.length c4) ∧ w'.cell? (bd.add (k * 5)) = some (.int .i64 x.f0) ∧ w'.cell? (⟨(bd.add (k * 5)).block, (bd.add (k * 5)).off + 1, none⟩) = some (.string x.f1) ∧ w'.cell? (⟨(bd.add (k * 5)).block, (bd.add (k * 5)).off + 2, none⟩) = some (.int .i64 x.f2) ∧ w'.cell? (⟨(bd.add (k * 5)).block, (bd.add (k * 5)).off + 3, none⟩) = some (.bool x.f3) ∧ w'.cell? (⟨(bd.add (k * 5)).block, (bd.add (k * 5)).off + 4, none⟩) = some (.slice B4 x.f4.length d4) ∧ Below wr.drew.heap.size wr.drew w') w' from ⟨cell_below' hb (cell_below' hdr r0), cell_below' hb (cell_below' hdr r1), cell_below' hb (cell_below' hdr r2), cell_below' hb (cell_below' hdr r3), cell_below' hb (cell_below' hdr r4), cell_below' hb (cell_below' hdr t0), cell_below' hb (cell_below' hdr t1), cell_below' hb (cell_below' hdr t2), cell_below' hb (cell_below' hdr t3), cell_below' hb (cell_below' hdr t4), hb⟩)
   refine start_ (n := 64) (S := (fun w' => w'.cell? (ad.add (k * 5)) = some (.int .i64 x.f0) ∧ w'.cell? (⟨(ad.add (k * 5)).block, (ad.add (k * 5)).off + 1, none⟩) = some (.string x.f1) ∧ w'.cell? (⟨(ad.add (k * 5)).block, (ad.add (k * 5)).off + 2, none⟩) = some (.int .i64 x.f2) ∧ w'.cell? (⟨(ad.add (k * 5)).block, (ad.add (k * 5)).off + 3, none⟩) = some (.bool x.f3) ∧ w'.cell? (⟨(ad.add (k * 5)).block, (ad.add (k * 5)).off + 4, none⟩) = some (.slice A4 x.f4.length c4) ∧ w'.cell? (bd.add (k * 5)) = some (.int .i64 x.f0) ∧ w'.cell? (⟨(bd.add (k * 5)).block, (bd.add (k * 5)).off + 1, none⟩) = some (.string x.f1) ∧ w'.cell? (⟨(bd.add (k * 5)).block, (bd.add (k * 5)).off + 2, none⟩) = some (.int .i64 x.f2) ∧ w'.cell? (⟨(bd.add (k * 5)).block, (bd.add (k * 5)).off + 3, none⟩) = some (.bool x.f3) ∧ w'.cell? (⟨(bd.add (k * 5)).block, (bd.add (k * 5)).off + 4, none⟩) = some (.slice B4 x.f4.length d4) ∧ Below wr.drew.heap.size wr.drew w')) (ds := []) #[fF, fF, fF, fF, fF, fF, fF, fF, fF, fF, fF, fF, fF, fF, fF, fF, fF, fF, fF, fF, fF, fF, fF, fF, fF, fF, fF, fF, fF, fF, fF, fF, fF, fF, fF, fF, fF, fF, fF, fF, fF, fF, fF, fF, fF, fF, fF, fF, fF, fF, fF, fF, fF, fF, fF, fF, fF, fF, fF, fF, fF, fF, fF, fF] (by kernel_rfl) rfl rfl ⟨r0, r1, r2, r3, r4, t0, t1, t2, t3, t4, Below.refl _ _⟩ (fun hHeld => ?_)
   refine pure_ (i := 0) (N := some 17) (v := ?_) (a' := ?_) #[tT, fF, fF, fF, fF, fF, fF, fF, fF, fF, fF, fF, fF, fF, fF, fF, fF, fF, fF, fF, fF, fF, fF, fF, fF, fF, fF, fF, fF, fF, fF, fF, fF, fF, fF, fF, fF, fF, fF, fF, fF, fF, fF, fF, fF, fF, fF, fF, fF, fF, fF, fF, fF, fF, fF, fF, fF, fF, fF, fF, fF, fF, fF, fF] rfl rfl (by kernel_rfl) (fun _ _ _ h => h) (Or.inl ⟨by rfl, ?_⟩) ?_ ?_
   rotate_left
   · intro w'
     go_simp
     with_reducible rfl
   rotate_left
   · simp only [Act.put, sA, sZ, sS, i64_w, i32_w]
     rfl
   refine pure_ (i := 1) (N := some 18) (v := ?_) (a' := ?_) #[tT, tT, fF, fF, fF, fF, fF, fF, fF, fF, fF, fF, fF, fF, fF, fF, fF, fF, fF, fF, fF, fF, fF, fF, fF, fF, fF, fF, fF, fF, fF, fF, fF, fF, fF, fF, fF, fF, fF, fF, fF, fF, fF, fF, fF, fF, fF, fF, fF, fF, fF, fF, fF, fF, fF, fF, fF, fF, fF, fF, fF, fF, fF, fF] rfl rfl (by kernel_rfl) (fun _ _ _ h => h) (Or.inl ⟨by rfl, ?_⟩) ?_ ?_
   rotate_left
   · intro w'
     go_simp
     with_reducible rfl
   rotate_left
   · simp only [Act.put, sA, sZ, sS, i64_w, i32_w]
     rfl
   refine pure_ (i := 2) (N := some 19) (v := ?_) (a' := ?_) #[tT, tT, tT, fF, fF, fF, fF, fF, fF, fF, fF, fF, fF, fF, fF, fF, fF, fF, fF, fF, fF, fF, fF, fF, fF, fF, fF, fF, fF, fF, fF, fF, fF, fF, fF, fF, fF, fF, fF, fF, fF, fF, fF, fF, fF, fF, fF, fF, fF, fF, fF, fF, fF, fF, fF, fF, fF, fF, fF, fF, fF, fF, fF, fF] rfl rfl (by kernel_rfl) (fun _ _ _ h => h) (Or.inl ⟨by rfl, ?_⟩) ?_ ?_
   rotate_left
   · intro w'
     go_simp
     with_reducible rfl
   rotate_left
   · simp only [Act.put, sA, sZ, sS, i64_w, i32_w]
     rfl
   refine pure_ (i := 3) (N := some 20) (v := ?_) (a' := ?_) #[tT, tT, tT, tT, fF, fF, fF, fF, fF, fF, fF, fF, fF, fF, fF, fF, fF, fF, fF, fF, fF, fF, fF, fF, fF, fF, fF, fF, fF, fF, fF, fF, fF, fF, fF, fF, fF, fF, fF, fF, fF, fF, fF, fF, fF, fF, fF, fF, fF, fF, fF, fF, fF, fF, fF, fF, fF, fF, fF, fF, fF, fF, fF, fF] rfl rfl (by kernel_rfl) (fun _ _ _ h => h) (Or.inl ⟨by rfl, ?_⟩) ?_ ?_
   rotate_left
   · intro w'
     go_simp
     with_reducible rfl
   rotate_left
   · simp only [Act.put, sA, sZ, sS, i64_w, i32_w]
     rfl
   refine take_ (i := 4) (N := some 21) (v := ?_) (a' := ?_) #[tT, tT, tT, tT, tT, fF, fF, fF, fF, fF, fF, fF, fF, fF, fF, fF, fF, fF, fF, fF, fF, fF, fF, fF, fF, fF, fF, fF, fF, fF, fF, fF, fF, fF, fF, fF, fF, fF, fF, fF, fF, fF, fF, fF, fF, fF, fF, fF, fF, fF, fF, fF, fF, fF, fF, fF, fF, fF, fF, fF, fF, fF, fF, fF] rfl rfl (by kernel_rfl) (fun _ _ _ h => h) (Or.inl ⟨by rfl, ?_⟩) hHeld ?_ ?_
   rotate_left
   · rintro w' ⟨s0, s1, s2, s3, s4, s5, s6, s7, s8, s9, _⟩
     go_simp
     with_reducible rfl
   rotate_left
   · simp only [Act.put, sA, sZ, sS, i64_w, i32_w]
     rfl
   refine pure_ (i := 5) (N := some 22) (v := ?_) (a' := ?_) #[tT, tT, tT, tT, tT, tT, fF, fF, fF, fF, fF, fF, fF, fF, fF, fF, fF, fF, fF, fF, fF, fF, fF, fF, fF, fF, fF, fF, fF, fF, fF, fF, fF, fF, fF, fF, fF, fF, fF, fF, fF, fF, fF, fF, fF, fF, fF, fF, fF, fF, fF, fF, fF, fF, fF, fF, fF, fF, fF, fF, fF, fF, fF, fF] rfl rfl (by kernel_rfl) (fun _ _ _ h => h) (Or.inl ⟨by rfl, ?_⟩) ?_ ?_
   rotate_left
   · intro w'
     go_simp
     with_reducible rfl
   rotate_left
   · simp only [Act.put, sA, sZ, sS, i64_w, i32_w]
     rfl
   refine pure_ (i := 6) (N := some 23) (v := ?_) (a' := ?_) #[tT, tT, tT, tT, tT, tT, tT, fF, fF, fF, fF, fF, fF, fF, fF, fF, fF, fF, fF, fF, fF, fF, fF, fF, fF, fF, fF, fF, fF, fF, fF, fF, fF, fF, fF, fF, fF, fF, fF, fF, fF, fF, fF, fF, fF, fF, fF, fF, fF, fF, fF, fF, fF, fF, fF, fF, fF, fF, fF, fF, fF, fF, fF, fF] rfl rfl (by kernel_rfl) (fun _ _ _ h => h) (Or.inl ⟨by rfl, ?_⟩) ?_ ?_
   rotate_left
   · intro w'
     go_simp
     with_reducible rfl
   rotate_left
   · simp only [Act.put, sA, sZ, sS, i64_w, i32_w]
     rfl
   refine pure_ (i := 7) (N := some 24) (v := ?_) (a' := ?_) #[tT, tT, tT, tT, tT, tT, tT, tT, fF, fF, fF, fF, fF, fF, fF, fF, fF, fF, fF, fF, fF, fF, fF, fF, fF, fF, fF, fF, fF, fF, fF, fF, fF, fF, fF, fF, fF, fF, fF, fF, fF, fF, fF, fF, fF, fF, fF, fF, fF, fF, fF, fF, fF, fF, fF, fF, fF, fF, fF, fF, fF, fF, fF, fF] rfl rfl (by kernel_rfl) (fun _ _ _ h => h) (Or.inl ⟨by rfl, ?_⟩) ?_ ?_
   rotate_left
   · intro w'
     go_simp
     with_reducible rfl
   rotate_left
   · simp only [Act.put, sA, sZ, sS, i64_w, i32_w]
     rfl
   refine pure_ (i := 8) (N := some 25) (v := ?_) (a' := ?_) #[tT, tT, tT, tT, tT, tT, tT, tT, tT, fF, fF, fF, fF, fF, fF, fF, fF, fF, fF, fF, fF, fF, fF, fF, fF, fF, fF, fF, fF, fF, fF, fF, fF, fF, fF, fF, fF, fF, fF, fF, fF, fF, fF, fF, fF, fF, fF, fF, fF, fF, fF, fF, fF, fF, fF, fF, fF, fF, fF, fF, fF, fF, fF, fF] rfl rfl (by kernel_rfl) (fun _ _ _ h => h) (Or.inl ⟨by rfl, ?_⟩) ?_ ?_
   rotate_left
   · intro w'
     go_simp
     with_reducible rfl
   rotate_left
   · simp only [Act.put, sA, sZ, sS, i64_w, i32_w]
     rfl
   refine take_ (i := 9) (N := some 26) (v := ?_) (a' := ?_) #[tT, tT, tT, tT, tT, tT, tT, tT, tT, tT, fF, fF, fF, fF, fF, fF, fF, fF, fF, fF, fF, fF, fF, fF, fF, fF, fF, fF, fF, fF, fF, fF, fF, fF, fF, fF, fF, fF, fF, fF, fF, fF, fF, fF, fF, fF, fF, fF, fF, fF, fF, fF, fF, fF, fF, fF, fF, fF, fF, fF, fF, fF, fF, fF] rfl rfl (by kernel_rfl) (fun _ _ _ h => h) (Or.inl ⟨by rfl, ?_⟩) hHeld ?_ ?_
   rotate_left
   · rintro w' ⟨s0, s1, s2, s3, s4, s5, s6, s7, s8, s9, _⟩
     go_simp
     with_reducible rfl
   rotate_left
   · simp only [Act.put, sA, sZ, sS, i64_w, i32_w]
     rfl
   refine pure_ (i := 10) (N := some 27) (v := ?_) (a' := ?_) #[tT, tT, tT, tT, tT, tT, tT, tT, tT, tT, tT, fF, fF, fF, fF, fF, fF, fF, fF, fF, fF, fF, fF, fF, fF, fF, fF, fF, fF, fF, fF, fF, fF, fF, fF, fF, fF, fF, fF, fF, fF, fF, fF, fF, fF, fF, fF, fF, fF, fF, fF, fF, fF, fF, fF, fF, fF, fF, fF, fF, fF, fF, fF, fF] rfl rfl (by kernel_rfl) (fun _ _ _ h => h) (Or.inl ⟨by rfl, ?_⟩) ?_ ?_
   rotate_left
   · intro w'
     go_simp
     with_reducible rfl
   rotate_left
   · simp only [Act.put, sA, sZ, sS, i64_w, i32_w]
     rfl
   refine pure_ (i := 11) (N := some 28) (v := ?_) (a' := ?_) #[tT, tT, tT, tT, tT, tT, tT, tT, tT, tT, tT, tT, fF, fF, fF, fF, fF, fF, fF, fF, fF, fF, fF, fF, fF, fF, fF, fF, fF, fF, fF, fF, fF, fF, fF, fF, fF, fF, fF, fF, fF, fF, fF, fF, fF, fF, fF, fF, fF, fF, fF, fF, fF, fF, fF, fF, fF, fF, fF, fF, fF, fF, fF, fF] rfl rfl (by kernel_rfl) (fun _ _ _ h => h) (Or.inl ⟨by rfl, ?_⟩) ?_ ?_
   rotate_left
   · intro w'
     go_simp
     with_reducible rfl
   rotate_left
   · simp only [Act.put, sA, sZ, sS, i64_w, i32_w]
     rfl
   refine pure_ (i := 12) (N := some 29) (v := ?_) (a' := ?_) #[tT, tT, tT, tT, tT, tT, tT, tT, tT, tT, tT, tT, tT, fF, fF, fF, fF, fF, fF, fF, fF, fF, fF, fF, fF, fF, fF, fF, fF, fF, fF, fF, fF, fF, fF, fF, fF, fF, fF, fF, fF, fF, fF, fF, fF, fF, fF, fF, fF, fF, fF, fF, fF, fF, fF, fF, fF, fF, fF, fF, fF, fF, fF, fF] rfl rfl (by kernel_rfl) (fun _ _ _ h => h) (Or.inl ⟨by rfl, ?_⟩) ?_ ?_
   rotate_left
   · intro w'
     go_simp
     with_reducible rfl
   rotate_left
   · simp only [Act.put, sA, sZ, sS, i64_w, i32_w]
     rfl
   refine pure_ (i := 13) (N := some 30) (v := ?_) (a' := ?_) #[tT, tT, tT, tT, tT, tT, tT, tT, tT, tT, tT, tT, tT, tT, fF, fF, fF, fF, fF, fF, fF, fF, fF, fF, fF, fF, fF, fF, fF, fF, fF, fF, fF, fF, fF, fF, fF, fF, fF, fF, fF, fF, fF, fF, fF, fF, fF, fF, fF, fF, fF, fF, fF, fF, fF, fF, fF, fF, fF, fF, fF, fF, fF, fF] rfl rfl (by kernel_rfl) (fun _ _ _ h => h) (Or.inl ⟨by rfl, ?_⟩) ?_ ?_
   rotate_left
   · intro w'
     go_simp
     with_reducible rfl
   rotate_left
   · simp only [Act.put, sA, sZ, sS, i64_w, i32_w]
     rfl
   refine pure_ (i := 14) (N := some 31) (v := ?_) (a' := ?_) #[tT, tT, tT, tT, tT, tT, tT, tT, tT, tT, tT, tT, tT, tT, tT, fF, fF, fF, fF, fF, fF, fF, fF, fF, fF, fF, fF, fF, fF, fF, fF, fF, fF, fF, fF, fF, fF, fF, fF, fF, fF, fF, fF, fF, fF, fF, fF, fF, fF, fF, fF, fF, fF, fF, fF, fF, fF, fF, fF, fF, fF, fF, fF, fF] rfl rfl (by kernel_rfl) (fun _ _ _ h => h) (Or.inl ⟨by rfl, ?_⟩) ?_ ?_
   rotate_left
   · intro w'
     go_simp
     with_reducible rfl
   rotate_left
   · simp only [Act.put, sA, sZ, sS, i64_w, i32_w]
     rfl
   refine pure_ (i := 15) (N := some 32) (v := ?_) (a' := ?_) #[tT, tT, tT, tT, tT, tT, tT, tT, tT, tT, tT, tT, tT, tT, tT, tT, fF, fF, fF, fF, fF, fF, fF, fF, fF, fF, fF, fF, fF, fF, fF, fF, fF, fF, fF, fF, fF, fF, fF, fF, fF, fF, fF, fF, fF, fF, fF, fF, fF, fF, fF, fF, fF, fF, fF, fF, fF, fF, fF, fF, fF, fF, fF, fF] rfl rfl (by kernel_rfl) (fun _ _ _ h => h) (Or.inl ⟨by rfl, ?_⟩) ?_ ?_
   rotate_left
   · intro w'
     go_simp
     with_reducible rfl
   rotate_left
   · simp only [Act.put, sA, sZ, sS, i64_w, i32_w]
     rfl
   refine take_ (i := 16) (N := some 33) (v := ?_) (a' := ?_) #[tT, tT, tT, tT, tT, tT, tT, tT, tT, tT, tT, tT, tT, tT, tT, tT, tT, fF, fF, fF, fF, fF, fF, fF, fF, fF, fF, fF, fF, fF, fF, fF, fF, fF, fF, fF, fF, fF, fF, fF, fF, fF, fF, fF, fF, fF, fF, fF, fF, fF, fF, fF, fF, fF, fF, fF, fF, fF, fF, fF, fF, fF, fF, fF] rfl rfl (by kernel_rfl) (fun _ _ _ h => h) (Or.inl ⟨by rfl, ?_⟩) hHeld ?_ ?_
   rotate_left
   · rintro w' ⟨s0, s1, s2, s3, s4, s5, s6, s7, s8, s9, _⟩
     go_simp
     with_reducible rfl
   rotate_left
   · simp only [Act.put, sA, sZ, sS, i64_w, i32_w]
     rfl
   refine pure_ (i := 17) (N := some 34) (v := ?_) (a' := ?_) #[tT, tT, tT, tT, tT, tT, tT, tT, tT, tT, tT, tT, tT, tT, tT, tT, tT, tT, fF, fF, fF, fF, fF, fF, fF, fF, fF, fF, fF, fF, fF, fF, fF, fF, fF, fF, fF, fF, fF, fF, fF, fF, fF, fF, fF, fF, fF, fF, fF, fF, fF, fF, fF, fF, fF, fF, fF, fF, fF, fF, fF, fF, fF, fF] rfl rfl (by kernel_rfl) (fun _ _ _ h => h) (Or.inl ⟨by rfl, ?_⟩) ?_ ?_
   rotate_left
   · intro w'
     go_simp
     with_reducible rfl
   rotate_left
   · simp only [Act.put, sA, sZ, sS, i64_w, i32_w]
     rfl
   refine pure_ (i := 18) (N := some 35) (v := ?_) (a' := ?_) #[tT, tT, tT, tT, tT, tT, tT, tT, tT, tT, tT, tT, tT, tT, tT, tT, tT, tT, tT, fF, fF, fF, fF, fF, fF, fF, fF, fF, fF, fF, fF, fF, fF, fF, fF, fF, fF, fF, fF, fF, fF, fF, fF, fF, fF, fF, fF, fF, fF, fF, fF, fF, fF, fF, fF, fF, fF, fF, fF, fF, fF, fF, fF, fF] rfl rfl (by kernel_rfl) (fun _ _ _ h => h) (Or.inl ⟨by rfl, ?_⟩) ?_ ?_
   rotate_left
   · intro w'
     go_simp
     with_reducible rfl
   rotate_left
   · simp only [Act.put, sA, sZ, sS, i64_w, i32_w]
     rfl
   refine pure_ (i := 19) (N := some 36) (v := ?_) (a' := ?_) #[tT, tT, tT, tT, tT, tT, tT, tT, tT, tT, tT, tT, tT, tT, tT, tT, tT, tT, tT, tT, fF, fF, fF, fF, fF, fF, fF, fF, fF, fF, fF, fF, fF, fF, fF, fF, fF, fF, fF, fF, fF, fF, fF, fF, fF, fF, fF, fF, fF, fF, fF, fF, fF, fF, fF, fF, fF, fF, fF, fF, fF, fF, fF, fF] rfl rfl (by kernel_rfl) (fun _ _ _ h => h) (Or.inl ⟨by rfl, ?_⟩) ?_ ?_
   rotate_left
   · intro w'
     go_simp
     with_reducible rfl
   rotate_left
   · simp only [Act.put, sA, sZ, sS, i64_w, i32_w]
     rfl
   refine pure_ (i := 20) (N := some 37) (v := ?_) (a' := ?_) #[tT, tT, tT, tT, tT, tT, tT, tT, tT, tT, tT, tT, tT, tT, tT, tT, tT, tT, tT, tT, tT, fF, fF, fF, fF, fF, fF, fF, fF, fF, fF, fF, fF, fF, fF, fF, fF, fF, fF, fF, fF, fF, fF, fF, fF, fF, fF, fF, fF, fF, fF, fF, fF, fF, fF, fF, fF, fF, fF, fF, fF, fF, fF, fF] rfl rfl (by kernel_rfl) (fun _ _ _ h => h) (Or.inl ⟨by rfl, ?_⟩) ?_ ?_
   rotate_left
   · intro w'
     go_simp
     with_reducible rfl
   rotate_left
   · simp only [Act.put, sA, sZ, sS, i64_w, i32_w]
     rfl
   refine take_ (i := 21) (N := some 38) (v := ?_) (a' := ?_) #[tT, tT, tT, tT, tT, tT, tT, tT, tT, tT, tT, tT, tT, tT, tT, tT, tT, tT, tT, tT, tT, tT, fF, fF, fF, fF, fF, fF, fF, fF, fF, fF, fF, fF, fF, fF, fF, fF, fF, fF, fF, fF, fF, fF, fF, fF, fF, fF, fF, fF, fF, fF, fF, fF, fF, fF, fF, fF, fF, fF, fF, fF, fF, fF] rfl rfl (by kernel_rfl) (fun _ _ _ h => h) (Or.inl ⟨by rfl, ?_⟩) hHeld ?_ ?_
   rotate_left
   · rintro w' ⟨s0, s1, s2, s3, s4, s5, s6, s7, s8, s9, _⟩
     go_simp
     with_reducible rfl
   rotate_left
   · simp only [Act.put, sA, sZ, sS, i64_w, i32_w]
     rfl
   refine pure_ (i := 22) (N := some 39) (v := ?_) (a' := ?_) #[tT, tT, tT, tT, tT, tT, tT, tT, tT, tT, tT, tT, tT, tT, tT, tT, tT, tT, tT, tT, tT, tT, tT, fF, fF, fF, fF, fF, fF, fF, fF, fF, fF, fF, fF, fF, fF, fF, fF, fF, fF, fF, fF, fF, fF, fF, fF, fF, fF, fF, fF, fF, fF, fF, fF, fF, fF, fF, fF, fF, fF, fF, fF, fF] rfl rfl (by kernel_rfl) (fun _ _ _ h => h) (Or.inl ⟨by rfl, ?_⟩) ?_ ?_
   rotate_left
   · intro w'
     go_simp
     with_reducible rfl
   rotate_left
   · simp only [Act.put, sA, sZ, sS, i64_w, i32_w]
     rfl
   refine pure_ (i := 23) (N := some 40) (v := ?_) (a' := ?_) #[tT, tT, tT, tT, tT, tT, tT, tT, tT, tT, tT, tT, tT, tT, tT, tT, tT, tT, tT, tT, tT, tT, tT, tT, fF, fF, fF, fF, fF, fF, fF, fF, fF, fF, fF, fF, fF, fF, fF, fF, fF, fF, fF, fF, fF, fF, fF, fF, fF, fF, fF, fF, fF, fF, fF, fF, fF, fF, fF, fF, fF, fF, fF, fF] rfl rfl (by kernel_rfl) (fun _ _ _ h => h) (Or.inl ⟨by rfl, ?_⟩) ?_ ?_
   rotate_left
   · intro w'
     go_simp
     with_reducible rfl
   rotate_left
   · simp only [Act.put, sA, sZ, sS, i64_w, i32_w]
     rfl
   refine pure_ (i := 24) (N := some 41) (v := ?_) (a' := ?_) #[tT, tT, tT, tT, tT, tT, tT, tT, tT, tT, tT, tT, tT, tT, tT, tT, tT, tT, tT, tT, tT, tT, tT, tT, tT, fF, fF, fF, fF, fF, fF, fF, fF, fF, fF, fF, fF, fF, fF, fF, fF, fF, fF, fF, fF, fF, fF, fF, fF, fF, fF, fF, fF, fF, fF, fF, fF, fF, fF, fF, fF, fF, fF, fF] rfl rfl (by kernel_rfl) (fun _ _ _ h => h) (Or.inl ⟨by rfl, ?_⟩) ?_ ?_
   rotate_left
   · intro w'
     go_simp
     with_reducible rfl
   rotate_left
   · simp only [Act.put, sA, sZ, sS, i64_w, i32_w]
     rfl
   refine pure_ (i := 25) (N := some 42) (v := ?_) (a' := ?_) #[tT, tT, tT, tT, tT, tT, tT, tT, tT, tT, tT, tT, tT, tT, tT, tT, tT, tT, tT, tT, tT, tT, tT, tT, tT, tT, fF, fF, fF, fF, fF, fF, fF, fF, fF, fF, fF, fF, fF, fF, fF, fF, fF, fF, fF, fF, fF, fF, fF, fF, fF, fF, fF, fF, fF, fF, fF, fF, fF, fF, fF, fF, fF, fF] rfl rfl (by kernel_rfl) (fun _ _ _ h => h) (Or.inl ⟨by rfl, ?_⟩) ?_ ?_
   rotate_left
   · intro w'
     go_simp
     with_reducible rfl
   rotate_left
   · simp only [Act.put, sA, sZ, sS, i64_w, i32_w]
     rfl
   refine pure_ (i := 26) (N := some 43) (v := ?_) (a' := ?_) #[tT, tT, tT, tT, tT, tT, tT, tT, tT, tT, tT, tT, tT, tT, tT, tT, tT, tT, tT, tT, tT, tT, tT, tT, tT, tT, tT, fF, fF, fF, fF, fF, fF, fF, fF, fF, fF, fF, fF, fF, fF, fF, fF, fF, fF, fF, fF, fF, fF, fF, fF, fF, fF, fF, fF, fF, fF, fF, fF, fF, fF, fF, fF, fF] rfl rfl (by kernel_rfl) (fun _ _ _ h => h) (Or.inl ⟨by rfl, ?_⟩) ?_ ?_
   rotate_left
   · intro w'
     go_simp
     with_reducible rfl
   rotate_left
   · simp only [Act.put, sA, sZ, sS, i64_w, i32_w]
     rfl
   refine pure_ (i := 27) (N := some 44) (v := ?_) (a' := ?_) #[tT, tT, tT, tT, tT, tT, tT, tT, tT, tT, tT, tT, tT, tT, tT, tT, tT, tT, tT, tT, tT, tT, tT, tT, tT, tT, tT, tT, fF, fF, fF, fF, fF, fF, fF, fF, fF, fF, fF, fF, fF, fF, fF, fF, fF, fF, fF, fF, fF, fF, fF, fF, fF, fF, fF, fF, fF, fF, fF, fF, fF, fF, fF, fF] rfl rfl (by kernel_rfl) (fun _ _ _ h => h) (Or.inl ⟨by rfl, ?_⟩) ?_ ?_
   rotate_left
   · intro w'
     go_simp
     with_reducible rfl
   rotate_left
   · simp only [Act.put, sA, sZ, sS, i64_w, i32_w]
     rfl
   refine pure_ (i := 28) (N := some 45) (v := ?_) (a' := ?_) #[tT, tT, tT, tT, tT, tT, tT, tT, tT, tT, tT, tT, tT, tT, tT, tT, tT, tT, tT, tT, tT, tT, tT, tT, tT, tT, tT, tT, tT, fF, fF, fF, fF, fF, fF, fF, fF, fF, fF, fF, fF, fF, fF, fF, fF, fF, fF, fF, fF, fF, fF, fF, fF, fF, fF, fF, fF, fF, fF, fF, fF, fF, fF, fF] rfl rfl (by kernel_rfl) (fun _ _ _ h => h) (Or.inl ⟨by rfl, ?_⟩) ?_ ?_
   rotate_left
   · intro w'
     go_simp
     with_reducible rfl
   rotate_left
   · simp only [Act.put, sA, sZ, sS, i64_w, i32_w]
     rfl
   refine take_ (i := 29) (N := some 46) (v := ?_) (a' := ?_) #[tT, tT, tT, tT, tT, tT, tT, tT, tT, tT, tT, tT, tT, tT, tT, tT, tT, tT, tT, tT, tT, tT, tT, tT, tT, tT, tT, tT, tT, tT, fF, fF, fF, fF, fF, fF, fF, fF, fF, fF, fF, fF, fF, fF, fF, fF, fF, fF, fF, fF, fF, fF, fF, fF, fF, fF, fF, fF, fF, fF, fF, fF, fF, fF] rfl rfl (by kernel_rfl) (fun _ _ _ h => h) (Or.inl ⟨by rfl, ?_⟩) hHeld ?_ ?_
   rotate_left
   · rintro w' ⟨s0, s1, s2, s3, s4, s5, s6, s7, s8, s9, _⟩
     go_simp
     with_reducible rfl
   rotate_left
   · simp only [Act.put, sA, sZ, sS, i64_w, i32_w]
     rfl
   refine pure_ (i := 30) (N := some 47) (v := ?_) (a' := ?_) #[tT, tT, tT, tT, tT, tT, tT, tT, tT, tT, tT, tT, tT, tT, tT, tT, tT, tT, tT, tT, tT, tT, tT, tT, tT, tT, tT, tT, tT, tT, tT, fF, fF, fF, fF, fF, fF, fF, fF, fF, fF, fF, fF, fF, fF, fF, fF, fF, fF, fF, fF, fF, fF, fF, fF, fF, fF, fF, fF, fF, fF, fF, fF, fF] rfl rfl (by kernel_rfl) (fun _ _ _ h => h) (Or.inl ⟨by rfl, ?_⟩) ?_ ?_
   rotate_left
   · intro w'
     go_simp
     with_reducible rfl
   rotate_left
   · simp only [Act.put, sA, sZ, sS, i64_w, i32_w]
     rfl
   refine pure_ (i := 31) (N := some 48) (v := ?_) (a' := ?_) #[tT, tT, tT, tT, tT, tT, tT, tT, tT, tT, tT, tT, tT, tT, tT, tT, tT, tT, tT, tT, tT, tT, tT, tT, tT, tT, tT, tT, tT, tT, tT, tT, fF, fF, fF, fF, fF, fF, fF, fF, fF, fF, fF, fF, fF, fF, fF, fF, fF, fF, fF, fF, fF, fF, fF, fF, fF, fF, fF, fF, fF, fF, fF, fF] rfl rfl (by kernel_rfl) (fun _ _ _ h => h) (Or.inl ⟨by rfl, ?_⟩) ?_ ?_
   rotate_left
   · intro w'
     go_simp
     with_reducible rfl
   rotate_left
   · simp only [Act.put, sA, sZ, sS, i64_w, i32_w]
     rfl
   refine pure_ (i := 32) (N := some 49) (v := ?_) (a' := ?_) #[tT, tT, tT, tT, tT, tT, tT, tT, tT, tT, tT, tT, tT, tT, tT, tT, tT, tT, tT, tT, tT, tT, tT, tT, tT, tT, tT, tT, tT, tT, tT, tT, tT, fF, fF, fF, fF, fF, fF, fF, fF, fF, fF, fF, fF, fF, fF, fF, fF, fF, fF, fF, fF, fF, fF, fF, fF, fF, fF, fF, fF, fF, fF, fF] rfl rfl (by kernel_rfl) (fun _ _ _ h => h) (Or.inl ⟨by rfl, ?_⟩) ?_ ?_
   rotate_left
   · intro w'
     go_simp
     with_reducible rfl
   rotate_left
   · simp only [Act.put, sA, sZ, sS, i64_w, i32_w]
     rfl
   refine pure_ (i := 33) (N := some 50) (v := ?_) (a' := ?_) #[tT, tT, tT, tT, tT, tT, tT, tT, tT, tT, tT, tT, tT, tT, tT, tT, tT, tT, tT, tT, tT, tT, tT, tT, tT, tT, tT, tT, tT, tT, tT, tT, tT, tT, fF, fF, fF, fF, fF, fF, fF, fF, fF, fF, fF, fF, fF, fF, fF, fF, fF, fF, fF, fF, fF, fF, fF, fF, fF, fF, fF, fF, fF, fF] rfl rfl (by kernel_rfl) (fun _ _ _ h => h) (Or.inl ⟨by rfl, ?_⟩) ?_ ?_
   rotate_left
   · intro w'
     go_simp
     with_reducible rfl
   rotate_left
   · simp only [Act.put, sA, sZ, sS, i64_w, i32_w]
     rfl
   refine take_ (i := 34) (N := some 51) (v := ?_) (a' := ?_) #[tT, tT, tT, tT, tT, tT, tT, tT, tT, tT, tT, tT, tT, tT, tT, tT, tT, tT, tT, tT, tT, tT, tT, tT, tT, tT, tT, tT, tT, tT, tT, tT, tT, tT, tT, fF, fF, fF, fF, fF, fF, fF, fF, fF, fF, fF, fF, fF, fF, fF, fF, fF, fF, fF, fF, fF, fF, fF, fF, fF, fF, fF, fF, fF] rfl rfl (by kernel_rfl) (fun _ _ _ h => h) (Or.inl ⟨by rfl, ?_⟩) hHeld ?_ ?_
   rotate_left
   · rintro w' ⟨s0, s1, s2, s3, s4, s5, s6, s7, s8, s9, _⟩
     go_simp
     with_reducible rfl
   rotate_left
   · simp only [Act.put, sA, sZ, sS, i64_w, i32_w]
     rfl
   refine pure_ (i := 35) (N := some 52) (v := ?_) (a' := ?_) #[tT, tT, tT, tT, tT, tT, tT, tT, tT, tT, tT, tT, tT, tT, tT, tT, tT, tT, tT, tT, tT, tT, tT, tT, tT, tT, tT, tT, tT, tT, tT, tT, tT, tT, tT, tT, fF, fF, fF, fF, fF, fF, fF, fF, fF, fF, fF, fF, fF, fF, fF, fF, fF, fF, fF, fF, fF, fF, fF, fF, fF, fF, fF, fF] rfl rfl (by kernel_rfl) (fun _ _ _ h => h) (Or.inl ⟨by rfl, ?_⟩) ?_ ?_
   rotate_left
   · intro w'
     go_simp
     with_reducible rfl
   rotate_left
   · simp only [Act.put, sA, sZ, sS, i64_w, i32_w]
     rfl
   refine pure_ (i := 36) (N := some 53) (v := ?_) (a' := ?_) #[tT, tT, tT, tT, tT, tT, tT, tT, tT, tT, tT, tT, tT, tT, tT, tT, tT, tT, tT, tT, tT, tT, tT, tT, tT, tT, tT, tT, tT, tT, tT, tT, tT, tT, tT, tT, tT, fF, fF, fF, fF, fF, fF, fF, fF, fF, fF, fF, fF, fF, fF, fF, fF, fF, fF, fF, fF, fF, fF, fF, fF, fF, fF, fF] rfl rfl (by kernel_rfl) (fun _ _ _ h => h) (Or.inl ⟨by rfl, ?_⟩) ?_ ?_
   rotate_left
   · intro w'
     go_simp
     with_reducible rfl
   rotate_left
   · simp only [Act.put, sA, sZ, sS, i64_w, i32_w]
     rfl
   refine pure_ (i := 37) (N := some 54) (v := ?_) (a' := ?_) #[tT, tT, tT, tT, tT, tT, tT, tT, tT, tT, tT, tT, tT, tT, tT, tT, tT, tT, tT, tT, tT, tT, tT, tT, tT, tT, tT, tT, tT, tT, tT, tT, tT, tT, tT, tT, tT, tT, fF, fF, fF, fF, fF, fF, fF, fF, fF, fF, fF, fF, fF, fF, fF, fF, fF, fF, fF, fF, fF, fF, fF, fF, fF, fF] rfl rfl (by kernel_rfl) (fun _ _ _ h => h) (Or.inl ⟨by rfl, ?_⟩) ?_ ?_
   rotate_left
   · intro w'
     go_simp
     with_reducible rfl
   rotate_left
   · simp only [Act.put, sA, sZ, sS, i64_w, i32_w]
     rfl
   refine pure_ (i := 38) (N := some 55) (v := ?_) (a' := ?_) #[tT, tT, tT, tT, tT, tT, tT, tT, tT, tT, tT, tT, tT, tT, tT, tT, tT, tT, tT, tT, tT, tT, tT, tT, tT, tT, tT, tT, tT, tT, tT, tT, tT, tT, tT, tT, tT, tT, tT, fF, fF, fF, fF, fF, fF, fF, fF, fF, fF, fF, fF, fF, fF, fF, fF, fF, fF, fF, fF, fF, fF, fF, fF, fF] rfl rfl (by kernel_rfl) (fun _ _ _ h => h) (Or.inl ⟨by rfl, ?_⟩) ?_ ?_
   rotate_left
   · intro w'
     go_simp
     with_reducible rfl
   rotate_left
   · simp only [Act.put, sA, sZ, sS, i64_w, i32_w]
     rfl
   refine pure_ (i := 39) (N := some 56) (v := ?_) (a' := ?_) #[tT, tT, tT, tT, tT, tT, tT, tT, tT, tT, tT, tT, tT, tT, tT, tT, tT, tT, tT, tT, tT, tT, tT, tT, tT, tT, tT, tT, tT, tT, tT, tT, tT, tT, tT, tT, tT, tT, tT, tT, fF, fF, fF, fF, fF, fF, fF, fF, fF, fF, fF, fF, fF, fF, fF, fF, fF, fF, fF, fF, fF, fF, fF, fF] rfl rfl (by kernel_rfl) (fun _ _ _ h => h) (Or.inl ⟨by rfl, ?_⟩) ?_ ?_
   rotate_left
   · intro w'
     go_simp
     with_reducible rfl
   rotate_left
   · simp only [Act.put, sA, sZ, sS, i64_w, i32_w]
     rfl
   refine pure_ (i := 40) (N := some 57) (v := ?_) (a' := ?_) #[tT, tT, tT, tT, tT, tT, tT, tT, tT, tT, tT, tT, tT, tT, tT, tT, tT, tT, tT, tT, tT, tT, tT, tT, tT, tT, tT, tT, tT, tT, tT, tT, tT, tT, tT, tT, tT, tT, tT, tT, tT, fF, fF, fF, fF, fF, fF, fF, fF, fF, fF, fF, fF, fF, fF, fF, fF, fF, fF, fF, fF, fF, fF, fF] rfl rfl (by kernel_rfl) (fun _ _ _ h => h) (Or.inl ⟨by rfl, ?_⟩) ?_ ?_
   rotate_left
   · intro w'
     go_simp
     with_reducible rfl
   rotate_left
   · simp only [Act.put, sA, sZ, sS, i64_w, i32_w]
     rfl
   refine pure_ (i := 41) (N := some 58) (v := ?_) (a' := ?_) #[tT, tT, tT, tT, tT, tT, tT, tT, tT, tT, tT, tT, tT, tT, tT, tT, tT, tT, tT, tT, tT, tT, tT, tT, tT, tT, tT, tT, tT, tT, tT, tT, tT, tT, tT, tT, tT, tT, tT, tT, tT, tT, fF, fF, fF, fF, fF, fF, fF, fF, fF, fF, fF, fF, fF, fF, fF, fF, fF, fF, fF, fF, fF, fF] rfl rfl (by kernel_rfl) (fun _ _ _ h => h) (Or.inl ⟨by rfl, ?_⟩) ?_ ?_
   rotate_left
   · intro w'
     go_simp
     with_reducible rfl
   rotate_left
   · simp only [Act.put, sA, sZ, sS, i64_w, i32_w]
     rfl
   refine take_ (i := 42) (N := some 59) (v := ?_) (a' := ?_) #[tT, tT, tT, tT, tT, tT, tT, tT, tT, tT, tT, tT, tT, tT, tT, tT, tT, tT, tT, tT, tT, tT, tT, tT, tT, tT, tT, tT, tT, tT, tT, tT, tT, tT, tT, tT, tT, tT, tT, tT, tT, tT, tT, fF, fF, fF, fF, fF, fF, fF, fF, fF, fF, fF, fF, fF, fF, fF, fF, fF, fF, fF, fF, fF] rfl rfl (by kernel_rfl) (fun _ _ _ h => h) (Or.inl ⟨by rfl, ?_⟩) hHeld ?_ ?_
   rotate_left
   · rintro w' ⟨s0, s1, s2, s3, s4, s5, s6, s7, s8, s9, _⟩
     go_simp
     with_reducible rfl
   rotate_left
   · simp only [Act.put, sA, sZ, sS, i64_w, i32_w]
     rfl
   refine pure_ (i := 43) (N := some 60) (v := ?_) (a' := ?_) #[tT, tT, tT, tT, tT, tT, tT, tT, tT, tT, tT, tT, tT, tT, tT, tT, tT, tT, tT, tT, tT, tT, tT, tT, tT, tT, tT, tT, tT, tT, tT, tT, tT, tT, tT, tT, tT, tT, tT, tT, tT, tT, tT, tT, fF, fF, fF, fF, fF, fF, fF, fF, fF, fF, fF, fF, fF, fF, fF, fF, fF, fF, fF, fF] rfl rfl (by kernel_rfl) (fun _ _ _ h => h) (Or.inl ⟨by rfl, ?_⟩) ?_ ?_
   rotate_left
   · intro w'
     go_simp
     with_reducible rfl
   rotate_left
   · simp only [Act.put, sA, sZ, sS, i64_w, i32_w]
     rfl
   refine pure_ (i := 44) (N := some 61) (v := ?_) (a' := ?_) #[tT, tT, tT, tT, tT, tT, tT, tT, tT, tT, tT, tT, tT, tT, tT, tT, tT, tT, tT, tT, tT, tT, tT, tT, tT, tT, tT, tT, tT, tT, tT, tT, tT, tT, tT, tT, tT, tT, tT, tT, tT, tT, tT, tT, tT, fF, fF, fF, fF, fF, fF, fF, fF, fF, fF, fF, fF, fF, fF, fF, fF, fF, fF, fF] rfl rfl (by kernel_rfl) (fun _ _ _ h => h) (Or.inl ⟨by rfl, ?_⟩) ?_ ?_
   rotate_left
   · intro w'
     go_simp
     with_reducible rfl
   rotate_left
   · simp only [Act.put, sA, sZ, sS, i64_w, i32_w]
     rfl
   refine pure_ (i := 45) (N := some 62) (v := ?_) (a' := ?_) #[tT, tT, tT, tT, tT, tT, tT, tT, tT, tT, tT, tT, tT, tT, tT, tT, tT, tT, tT, tT, tT, tT, tT, tT, tT, tT, tT, tT, tT, tT, tT, tT, tT, tT, tT, tT, tT, tT, tT, tT, tT, tT, tT, tT, tT, tT, fF, fF, fF, fF, fF, fF, fF, fF, fF, fF, fF, fF, fF, fF, fF, fF, fF, fF] rfl rfl (by kernel_rfl) (fun _ _ _ h => h) (Or.inl ⟨by rfl, ?_⟩) ?_ ?_
   rotate_left
   · intro w'
     go_simp
     with_reducible rfl
   rotate_left
   · simp only [Act.put, sA, sZ, sS, i64_w, i32_w]
     rfl
   refine pure_ (i := 46) (N := some 63) (v := ?_) (a' := ?_) #[tT, tT, tT, tT, tT, tT, tT, tT, tT, tT, tT, tT, tT, tT, tT, tT, tT, tT, tT, tT, tT, tT, tT, tT, tT, tT, tT, tT, tT, tT, tT, tT, tT, tT, tT, tT, tT, tT, tT, tT, tT, tT, tT, tT, tT, tT, tT, fF, fF, fF, fF, fF, fF, fF, fF, fF, fF, fF, fF, fF, fF, fF, fF, fF] rfl rfl (by kernel_rfl) (fun _ _ _ h => h) (Or.inl ⟨by rfl, ?_⟩) ?_ ?_
   rotate_left
   · intro w'
     go_simp
     with_reducible rfl
   rotate_left
   · simp only [Act.put, sA, sZ, sS, i64_w, i32_w]
     rfl
   refine take_ (i := 47) (N := some 64) (v := ?_) (a' := ?_) #[tT, tT, tT, tT, tT, tT, tT, tT, tT, tT, tT, tT, tT, tT, tT, tT, tT, tT, tT, tT, tT, tT, tT, tT, tT, tT, tT, tT, tT, tT, tT, tT, tT, tT, tT, tT, tT, tT, tT, tT, tT, tT, tT, tT, tT, tT, tT, tT, fF, fF, fF, fF, fF, fF, fF, fF, fF, fF, fF, fF, fF, fF, fF, fF] rfl rfl (by kernel_rfl) (fun _ _ _ h => h) (Or.inl ⟨by rfl, ?_⟩) hHeld ?_ ?_
   rotate_left
   · rintro w' ⟨s0, s1, s2, s3, s4, s5, s6, s7, s8, s9, _⟩
     go_simp
     with_reducible rfl
   rotate_left
   · simp only [Act.put, sA, sZ, sS, i64_w, i32_w]
     rfl
   refine pure_ (i := 48) (N := some 65) (v := ?_) (a' := ?_) #[tT, tT, tT, tT, tT, tT, tT, tT, tT, tT, tT, tT, tT, tT, tT, tT, tT, tT, tT, tT, tT, tT, tT, tT, tT, tT, tT, tT, tT, tT, tT, tT, tT, tT, tT, tT, tT, tT, tT, tT, tT, tT, tT, tT, tT, tT, tT, tT, tT, fF, fF, fF, fF, fF, fF, fF, fF, fF, fF, fF, fF, fF, fF, fF] rfl rfl (by kernel_rfl) (fun _ _ _ h => h) (Or.inl ⟨by rfl, ?_⟩) ?_ ?_
   rotate_left
   · intro w'
     go_simp
     with_reducible rfl
   rotate_left
   · simp only [Act.put, sA, sZ, sS, i64_w, i32_w]
     rfl
   refine pure_ (i := 49) (N := some 66) (v := ?_) (a' := ?_) #[tT, tT, tT, tT, tT, tT, tT, tT, tT, tT, tT, tT, tT, tT, tT, tT, tT, tT, tT, tT, tT, tT, tT, tT, tT, tT, tT, tT, tT, tT, tT, tT, tT, tT, tT, tT, tT, tT, tT, tT, tT, tT, tT, tT, tT, tT, tT, tT, tT, tT, fF, fF, fF, fF, fF, fF, fF, fF, fF, fF, fF, fF, fF, fF] rfl rfl (by kernel_rfl) (fun _ _ _ h => h) (Or.inl ⟨by rfl, ?_⟩) ?_ ?_
   rotate_left
   · intro w'
     go_simp
     with_reducible rfl
   rotate_left
   · simp only [Act.put, sA, sZ, sS, i64_w, i32_w]
     rfl
   refine pure_ (i := 50) (N := some 67) (v := ?_) (a' := ?_) #[tT, tT, tT, tT, tT, tT, tT, tT, tT, tT, tT, tT, tT, tT, tT, tT, tT, tT, tT, tT, tT, tT, tT, tT, tT, tT, tT, tT, tT, tT, tT, tT, tT, tT, tT, tT, tT, tT, tT, tT, tT, tT, tT, tT, tT, tT, tT, tT, tT, tT, tT, fF, fF, fF, fF, fF, fF, fF, fF, fF, fF, fF, fF, fF] rfl rfl (by kernel_rfl) (fun _ _ _ h => h) (Or.inl ⟨by rfl, ?_⟩) ?_ ?_
   rotate_left
   · intro w'
     go_simp
     with_reducible rfl
   rotate_left
   · simp only [Act.put, sA, sZ, sS, i64_w, i32_w]
     rfl
   refine pure_ (i := 51) (N := some 68) (v := ?_) (a' := ?_) #[tT, tT, tT, tT, tT, tT, tT, tT, tT, tT, tT, tT, tT, tT, tT, tT, tT, tT, tT, tT, tT, tT, tT, tT, tT, tT, tT, tT, tT, tT, tT, tT, tT, tT, tT, tT, tT, tT, tT, tT, tT, tT, tT, tT, tT, tT, tT, tT, tT, tT, tT, tT, fF, fF, fF, fF, fF, fF, fF, fF, fF, fF, fF, fF] rfl rfl (by kernel_rfl) (fun _ _ _ h => h) (Or.inl ⟨by rfl, ?_⟩) ?_ ?_
   rotate_left
   · intro w'
     go_simp
     with_reducible rfl
   rotate_left
   · simp only [Act.put, sA, sZ, sS, i64_w, i32_w]
     rfl
   refine pure_ (i := 52) (N := some 69) (v := ?_) (a' := ?_) #[tT, tT, tT, tT, tT, tT, tT, tT, tT, tT, tT, tT, tT, tT, tT, tT, tT, tT, tT, tT, tT, tT, tT, tT, tT, tT, tT, tT, tT, tT, tT, tT, tT, tT, tT, tT, tT, tT, tT, tT, tT, tT, tT, tT, tT, tT, tT, tT, tT, tT, tT, tT, tT, fF, fF, fF, fF, fF, fF, fF, fF, fF, fF, fF] rfl rfl (by kernel_rfl) (fun _ _ _ h => h) (Or.inl ⟨by rfl, ?_⟩) ?_ ?_
   rotate_left
   · intro w'
     go_simp
     with_reducible rfl
   rotate_left
   · simp only [Act.put, sA, sZ, sS, i64_w, i32_w]
     rfl
   refine pure_ (i := 53) (N := some 70) (v := ?_) (a' := ?_) #[tT, tT, tT, tT, tT, tT, tT, tT, tT, tT, tT, tT, tT, tT, tT, tT, tT, tT, tT, tT, tT, tT, tT, tT, tT, tT, tT, tT, tT, tT, tT, tT, tT, tT, tT, tT, tT, tT, tT, tT, tT, tT, tT, tT, tT, tT, tT, tT, tT, tT, tT, tT, tT, tT, fF, fF, fF, fF, fF, fF, fF, fF, fF, fF] rfl rfl (by kernel_rfl) (fun _ _ _ h => h) (Or.inl ⟨by rfl, ?_⟩) ?_ ?_
   rotate_left
   · intro w'
     go_simp
     with_reducible rfl
   rotate_left
   · simp only [Act.put, sA, sZ, sS, i64_w, i32_w]
     rfl
   refine pure_ (i := 54) (N := some 71) (v := ?_) (a' := ?_) #[tT, tT, tT, tT, tT, tT, tT, tT, tT, tT, tT, tT, tT, tT, tT, tT, tT, tT, tT, tT, tT, tT, tT, tT, tT, tT, tT, tT, tT, tT, tT, tT, tT, tT, tT, tT, tT, tT, tT, tT, tT, tT, tT, tT, tT, tT, tT, tT, tT, tT, tT, tT, tT, tT, tT, fF, fF, fF, fF, fF, fF, fF, fF, fF] rfl rfl (by kernel_rfl) (fun _ _ _ h => h) (Or.inl ⟨by rfl, ?_⟩) ?_ ?_
   rotate_left
   · intro w'
     go_simp
     with_reducible rfl
   rotate_left
   · simp only [Act.put, sA, sZ, sS, i64_w, i32_w]
     rfl
   refine take_ (i := 55) (N := some 72) (v := ?_) (a' := ?_) #[tT, tT, tT, tT, tT, tT, tT, tT, tT, tT, tT, tT, tT, tT, tT, tT, tT, tT, tT, tT, tT, tT, tT, tT, tT, tT, tT, tT, tT, tT, tT, tT, tT, tT, tT, tT, tT, tT, tT, tT, tT, tT, tT, tT, tT, tT, tT, tT, tT, tT, tT, tT, tT, tT, tT, tT, fF, fF, fF, fF, fF, fF, fF, fF] rfl rfl (by kernel_rfl) (fun _ _ _ h => h) (Or.inl ⟨by rfl, ?_⟩) hHeld ?_ ?_
   rotate_left
   · rintro w' ⟨s0, s1, s2, s3, s4, s5, s6, s7, s8, s9, _⟩
     go_simp
     with_reducible rfl
   rotate_left
   · simp only [Act.put, sA, sZ, sS, i64_w, i32_w]
     rfl
   refine pure_ (i := 56) (N := some 73) (v := ?_) (a' := ?_) #[tT, tT, tT, tT, tT, tT, tT, tT, tT, tT, tT, tT, tT, tT, tT, tT, tT, tT, tT, tT, tT, tT, tT, tT, tT, tT, tT, tT, tT, tT, tT, tT, tT, tT, tT, tT, tT, tT, tT, tT, tT, tT, tT, tT, tT, tT, tT, tT, tT, tT, tT, tT, tT, tT, tT, tT, tT, fF, fF, fF, fF, fF, fF, fF] rfl rfl (by kernel_rfl) (fun _ _ _ h => h) (Or.inl ⟨by rfl, ?_⟩) ?_ ?_
   rotate_left
   · intro w'
     go_simp
     with_reducible rfl
   rotate_left
   · simp only [Act.put, sA, sZ, sS, i64_w, i32_w]
     rfl
   refine pure_ (i := 57) (N := some 74) (v := ?_) (a' := ?_) #[tT, tT, tT, tT, tT, tT, tT, tT, tT, tT, tT, tT, tT, tT, tT, tT, tT, tT, tT, tT, tT, tT, tT, tT, tT, tT, tT, tT, tT, tT, tT, tT, tT, tT, tT, tT, tT, tT, tT, tT, tT, tT, tT, tT, tT, tT, tT, tT, tT, tT, tT, tT, tT, tT, tT, tT, tT, tT, fF, fF, fF, fF, fF, fF] rfl rfl (by kernel_rfl) (fun _ _ _ h => h) (Or.inl ⟨by rfl, ?_⟩) ?_ ?_
   rotate_left
   · intro w'
     go_simp
     with_reducible rfl
   rotate_left
   · simp only [Act.put, sA, sZ, sS, i64_w, i32_w]
     rfl
   refine pure_ (i := 58) (N := some 75) (v := ?_) (a' := ?_) #[tT, tT, tT, tT, tT, tT, tT, tT, tT, tT, tT, tT, tT, tT, tT, tT, tT, tT, tT, tT, tT, tT, tT, tT, tT, tT, tT, tT, tT, tT, tT, tT, tT, tT, tT, tT, tT, tT, tT, tT, tT, tT, tT, tT, tT, tT, tT, tT, tT, tT, tT, tT, tT, tT, tT, tT, tT, tT, tT, fF, fF, fF, fF, fF] rfl rfl (by kernel_rfl) (fun _ _ _ h => h) (Or.inl ⟨by rfl, ?_⟩) ?_ ?_
   rotate_left
   · intro w'
     go_simp
     with_reducible rfl
   rotate_left
   · simp only [Act.put, sA, sZ, sS, i64_w, i32_w]
     rfl
   refine pure_ (i := 59) (N := some 76) (v := ?_) (a' := ?_) #[tT, tT, tT, tT, tT, tT, tT, tT, tT, tT, tT, tT, tT, tT, tT, tT, tT, tT, tT, tT, tT, tT, tT, tT, tT, tT, tT, tT, tT, tT, tT, tT, tT, tT, tT, tT, tT, tT, tT, tT, tT, tT, tT, tT, tT, tT, tT, tT, tT, tT, tT, tT, tT, tT, tT, tT, tT, tT, tT, tT, fF, fF, fF, fF] rfl rfl (by kernel_rfl) (fun _ _ _ h => h) (Or.inl ⟨by rfl, ?_⟩) ?_ ?_
   rotate_left
   · intro w'
     go_simp
     with_reducible rfl
   rotate_left
   · simp only [Act.put, sA, sZ, sS, i64_w, i32_w]
     rfl
   refine take_ (i := 60) (N := some 77) (v := ?_) (a' := ?_) #[tT, tT, tT, tT, tT, tT, tT, tT, tT, tT, tT, tT, tT, tT, tT, tT, tT, tT, tT, tT, tT, tT, tT, tT, tT, tT, tT, tT, tT, tT, tT, tT, tT, tT, tT, tT, tT, tT, tT, tT, tT, tT, tT, tT, tT, tT, tT, tT, tT, tT, tT, tT, tT, tT, tT, tT, tT, tT, tT, tT, tT, fF, fF, fF] rfl rfl (by kernel_rfl) (fun _ _ _ h => h) (Or.inl ⟨by rfl, ?_⟩) hHeld ?_ ?_
   rotate_left
   · rintro w' ⟨s0, s1, s2, s3, s4, s5, s6, s7, s8, s9, _⟩
     go_simp
     with_reducible rfl
   rotate_left
   · simp only [Act.put, sA, sZ, sS, i64_w, i32_w]
     rfl
   refine one_ (i := 61) (N := some 78) #[tT, tT, tT, tT, tT, tT, tT, tT, tT, tT, tT, tT, tT, tT, tT, tT, tT, tT, tT, tT, tT, tT, tT, tT, tT, tT, tT, tT, tT, tT, tT, tT, tT, tT, tT, tT, tT, tT, tT, tT, tT, tT, tT, tT, tT, tT, tT, tT, tT, tT, tT, tT, tT, tT, tT, tT, tT, tT, tT, tT, tT, tT, fF, fF] rfl rfl (by kernel_rfl) (by decide) (fun K hK => ?_)
   refine goes_ Tryz.func62 (by kernel_rfl) rfl #[.slice A4 x.f4.length c4, .slice B4 x.f4.length d4] (by rfl) rfl rfl (by simp only [List.map_toArray, List.map_cons, List.map_nil]; rfl) ?_
   refine (SameVals_eq x.f4 A4 B4 c4 d4 wr.drew HFX.out (Kd.C_below HG4.out.1 HDR.out) (Kd.C_below HG4.out.2 HDR.out)).mono ?_
   rintro e9 w9 ⟨rfl, hb9⟩
   refine ⟨_, rfl, ?_⟩
   refine hK.out _ _ (HSS w9 hb9) fun hHeld => ?_
   clear hK K
   refine norm_ (a' := ?_) ?_ ?_
   rotate_left
   · show Act.put _ (some 78) _ = _
     simp only [Act.put, sA, sZ, sS, i64_w, i32_w]
     rfl
   refine pure_ (i := 62) (N := some 79) (v := ?_) (a' := ?_) #[tT, tT, tT, tT, tT, tT, tT, tT, tT, tT, tT, tT, tT, tT, tT, tT, tT, tT, tT, tT, tT, tT, tT, tT, tT, tT, tT, tT, tT, tT, tT, tT, tT, tT, tT, tT, tT, tT, tT, tT, tT, tT, tT, tT, tT, tT, tT, tT, tT, tT, tT, tT, tT, tT, tT, tT, tT, tT, tT, tT, tT, tT, tT, fF] rfl rfl (by kernel_rfl) (fun _ _ _ h => h) (Or.inl ⟨by rfl, ?_⟩) ?_ ?_
   rotate_left
   · intro w'
     go_simp
     with_reducible rfl
   rotate_left
   · simp only [Act.put, sA, sZ, sS, i64_w, i32_w]
     rfl
   refine pure_ (i := 63) (N := some 80) (v := ?_) (a' := ?_) #[tT, tT, tT, tT, tT, tT, tT, tT, tT, tT, tT, tT, tT, tT, tT, tT, tT, tT, tT, tT, tT, tT, tT, tT, tT, tT, tT, tT, tT, tT, tT, tT, tT, tT, tT, tT, tT, tT, tT, tT, tT, tT, tT, tT, tT, tT, tT, tT, tT, tT, tT, tT, tT, tT, tT, tT, tT, tT, tT, tT, tT, tT, tT, tT] rfl rfl (by kernel_rfl) (fun _ _ _ h => h) (Or.inl ⟨by rfl, ?_⟩) ?_ ?_
   rotate_left
   · intro w'
     go_simp
     with_reducible rfl
   rotate_left
   · simp only [Act.put, sA, sZ, sS, i64_w, i32_w]
     rfl
   refine done_ (by kernel_rfl) ?_
   have HB9 := Aside0.mk (HBW.out.trans ((HDR.out.trans (hb9.mono HDR.out.size)).mono HBW.out.size))
   clear hb9 hHeld HSS hdr
   go_wp2
   go_roundg k1
   case measure => omega
   case rel => exact ⟨k + 1, by omega, by go_num, HB9⟩
set_option maxRecDepth 100000 in
set_option maxHeartbeats 8000000 in
theorem Same_eq (l : List Ev) (A B : Option Addr) (c d : Nat) (w : World) (hl : l.length ≤ 1000000000000) (hf : ∀ x ∈ l, fitsE x) (ga : k39.C w A l.length l) (gb : k39.C w B l.length l) :
 Calls Tryz.prog 12 #[.slice A l.length c, .slice B l.length d] w fun e w' => e = .returned (.bool true) ∧ Below w.heap.size w w' := by
 have HA := Aside0.mk ga
 have HB := Aside0.mk gb
 have HL := Aside0.mk hl
 have HF := Aside0.mk hf
 have hlI : (l.length : Int) ≤ 1000000000000 := by omega
 clear ga gb hl hf
 go_enter Tryz.func12, Tryz.ntmps12
 go_wp2
 go_loopg [5] l.length (fun kq v5 w2 => ∃ k : Nat, k + kq = l.length ∧ v5 = .int .i64 k ∧ Aside0 (Below w.heap.size w w2))
 case atStart => exact ⟨0, by omega, rfl, Aside0.mk (Below.refl _ _)⟩
 case round =>
  obtain ⟨k, hk, rfl, HBW⟩ := hrel
  cases gk with
  | zero =>
   have hge : ¬ ((k : Nat) : Int) < (l.length : Int) := by omega
   go_wp2
   go_ret
   exact ⟨rfl, HBW.out⟩
  | succ k1 =>
   have hlt : ((k : Nat) : Int) < (l.length : Int) := by omega
   have hlt' : k < l.length := by omega
   have HFX := Aside0.mk (HF.out _ (List.getElem_mem hlt'))
   obtain ⟨ad, A4, c4, e, r0, r1, r2, l4, g4⟩ := at_T39 (Kd.C_below HA.out HBW.out) k (by omega) hlt
   cases e
   obtain ⟨bd, B4, d4, e, t0, t1, t2, m4, q4⟩ := at_T39 (Kd.C_below HB.out HBW.out) k (by omega) hlt
   cases e
   have hrd : rd_T39 l k = l[k] := by simp [rd_T39, List.getD, List.getElem?_eq_getElem hlt']
   rw [hrd] at r0 r1 r2 g4 t0 t1 t2 q4
   rw [Int.toNat_natCast] at r0 r1 r2 t0 t1 t2
   have HG4 := Aside0.mk (And.intro g4 q4)
   clear hrd l4 m4 g4 q4
   generalize l[k] = x at *
   have hk9 : (k : Int) ≤ 1000000000000 := by omega
   go_wp2
   have hdr : Below wr.heap.size wr wr.drew := ⟨rfl, rfl, rfl, Nat.le_refl _, fun _ _ => rfl⟩
   have HDR := Aside0.mk hdr
   have HSS := fun w' (hb : Below wr.drew.heap.size wr.drew w') => (show (fun w' => w'.cell? (ad.add (k * 3)) = some (.int .i64 x.f0) ∧ w'.cell? (⟨(ad.add (k * 3)).block, (ad.add (k * 3)).off + 1, none⟩) = some (.int .i64 x.f1) ∧ w'.cell? (⟨(ad.add (k * 3)).block, (ad.add (k * 3)).off + 2, none⟩) = some (.slice A4 x.f2.length c4) ∧ w'.cell? (bd.add (k * 3)) = some (.int .i64 x.f0) ∧ w'.cell? (⟨(bd.add (k * 3)).block, (bd.add (k * 3)).off + 1, none⟩) = some (.int .i64 x.f1) ∧ w'.cell? (⟨(bd.add (k * 3)).block, (bd.add (k * 3)).off + 2, none⟩) = some (.slice B4 x.f2.length d4) ∧ Below wr.drew.heap.size wr.drew w') w' from ⟨cell_below' hb (cell_below' hdr r0), cell_below' hb (cell_below' hdr r1), cell_below' hb (cell_below' hdr r2), cell_below' hb (cell_below' hdr t0), cell_below' hb (cell_below' hdr t1), cell_below' hb (cell_below' hdr t2), hb⟩)
   refine start_ (n := 38) (S := (fun w' => w'.cell? (ad.add (k * 3)) = some (.int .i64 x.f0) ∧ w'.cell? (⟨(ad.add (k * 3)).block, (ad.add (k * 3)).off + 1, none⟩) = some (.int .i64 x.f1) ∧ w'.cell? (⟨(ad.add (k * 3)).block, (ad.add (k * 3)).off + 2, none⟩) = some (.slice A4 x.f2.length c4) ∧ w'.cell? (bd.add (k * 3)) = some (.int .i64 x.f0) ∧ w'.cell? (⟨(bd.add (k * 3)).block, (bd.add (k * 3)).off + 1, none⟩) = some (.int .i64 x.f1) ∧ w'.cell? (⟨(bd.add (k * 3)).block, (bd.add (k * 3)).off + 2, none⟩) = some (.slice B4 x.f2.length d4) ∧ Below wr.drew.heap.size wr.drew w')) (ds := []) #[fF, fF, fF, fF, fF, fF, fF, fF, fF, fF, fF, fF, fF, fF, fF, fF, fF, fF, fF, fF, fF, fF, fF, fF, fF, fF, fF, fF, fF, fF, fF, fF, fF, fF, fF, fF, fF, fF] (by kernel_rfl) rfl rfl ⟨r0, r1, r2, t0, t1, t2, Below.refl _ _⟩ (fun hHeld => ?_)
   refine pure_ (i := 0) (N := some 17) (v := ?_) (a' := ?_) #[tT, fF, fF, fF, fF, fF, fF, fF, fF, fF, fF, fF, fF, fF, fF, fF, fF, fF, fF, fF, fF, fF, fF, fF, fF, fF, fF, fF, fF, fF, fF, fF, fF, fF, fF, fF, fF, fF] rfl rfl (by kernel_rfl) (fun _ _ _ h => h) (Or.inl ⟨by rfl, ?_⟩) ?_ ?_
   rotate_left
   · intro w'
     go_simp
     with_reducible rfl
   rotate_left
   · simp only [Act.put, sA, sZ, sS, i64_w, i32_w]
     rfl
   refine pure_ (i := 1) (N := some 18) (v := ?_) (a' := ?_) #[tT, tT, fF, fF, fF, fF, fF, fF, fF, fF, fF, fF, fF, fF, fF, fF, fF, fF, fF, fF, fF, fF, fF, fF, fF, fF, fF, fF, fF, fF, fF, fF, fF, fF, fF, fF, fF, fF] rfl rfl (by kernel_rfl) (fun _ _ _ h => h) (Or.inl ⟨by rfl, ?_⟩) ?_ ?_
   rotate_left
   · intro w'
     go_simp
     with_reducible rfl
   rotate_left
   · simp only [Act.put, sA, sZ, sS, i64_w, i32_w]
     rfl
   refine pure_ (i := 2) (N := some 19) (v := ?_) (a' := ?_) #[tT, tT, tT, fF, fF, fF, fF, fF, fF, fF, fF, fF, fF, fF, fF, fF, fF, fF, fF, fF, fF, fF, fF, fF, fF, fF, fF, fF, fF, fF, fF, fF, fF, fF, fF, fF, fF, fF] rfl rfl (by kernel_rfl) (fun _ _ _ h => h) (Or.inl ⟨by rfl, ?_⟩) ?_ ?_
   rotate_left
   · intro w'
     go_simp
     with_reducible rfl
   rotate_left
   · simp only [Act.put, sA, sZ, sS, i64_w, i32_w]
     rfl
   refine pure_ (i := 3) (N := some 20) (v := ?_) (a' := ?_) #[tT, tT, tT, tT, fF, fF, fF, fF, fF, fF, fF, fF, fF, fF, fF, fF, fF, fF, fF, fF, fF, fF, fF, fF, fF, fF, fF, fF, fF, fF, fF, fF, fF, fF, fF, fF, fF, fF] rfl rfl (by kernel_rfl) (fun _ _ _ h => h) (Or.inl ⟨by rfl, ?_⟩) ?_ ?_
   rotate_left
   · intro w'
     go_simp
     with_reducible rfl
   rotate_left
   · simp only [Act.put, sA, sZ, sS, i64_w, i32_w]
     rfl
   refine take_ (i := 4) (N := some 21) (v := ?_) (a' := ?_) #[tT, tT, tT, tT, tT, fF, fF, fF, fF, fF, fF, fF, fF, fF, fF, fF, fF, fF, fF, fF, fF, fF, fF, fF, fF, fF, fF, fF, fF, fF, fF, fF, fF, fF, fF, fF, fF, fF] rfl rfl (by kernel_rfl) (fun _ _ _ h => h) (Or.inl ⟨by rfl, ?_⟩) hHeld ?_ ?_
   rotate_left
   · rintro w' ⟨s0, s1, s2, s3, s4, s5, _⟩
     go_simp
     with_reducible rfl
   rotate_left
   · simp only [Act.put, sA, sZ, sS, i64_w, i32_w]
     rfl
   refine pure_ (i := 5) (N := some 22) (v := ?_) (a' := ?_) #[tT, tT, tT, tT, tT, tT, fF, fF, fF, fF, fF, fF, fF, fF, fF, fF, fF, fF, fF, fF, fF, fF, fF, fF, fF, fF, fF, fF, fF, fF, fF, fF, fF, fF, fF, fF, fF, fF] rfl rfl (by kernel_rfl) (fun _ _ _ h => h) (Or.inl ⟨by rfl, ?_⟩) ?_ ?_
   rotate_left
   · intro w'
     go_simp
     with_reducible rfl
   rotate_left
   · simp only [Act.put, sA, sZ, sS, i64_w, i32_w]
     rfl
   refine pure_ (i := 6) (N := some 23) (v := ?_) (a' := ?_) #[tT, tT, tT, tT, tT, tT, tT, fF, fF, fF, fF, fF, fF, fF, fF, fF, fF, fF, fF, fF, fF, fF, fF, fF, fF, fF, fF, fF, fF, fF, fF, fF, fF, fF, fF, fF, fF, fF] rfl rfl (by kernel_rfl) (fun _ _ _ h => h) (Or.inl ⟨by rfl, ?_⟩) ?_ ?_
   rotate_left
   · intro w'
     go_simp
     with_reducible rfl
   rotate_left
   · simp only [Act.put, sA, sZ, sS, i64_w, i32_w]
     rfl
   refine pure_ (i := 7) (N := some 24) (v := ?_) (a' := ?_) #[tT, tT, tT, tT, tT, tT, tT, tT, fF, fF, fF, fF, fF, fF, fF, fF, fF, fF, fF, fF, fF, fF, fF, fF, fF, fF, fF, fF, fF, fF, fF, fF, fF, fF, fF, fF, fF, fF] rfl rfl (by kernel_rfl) (fun _ _ _ h => h) (Or.inl ⟨by rfl, ?_⟩) ?_ ?_
   rotate_left
   · intro w'
     go_simp
     with_reducible rfl
   rotate_left
   · simp only [Act.put, sA, sZ, sS, i64_w, i32_w]
     rfl
   refine pure_ (i := 8) (N := some 25) (v := ?_) (a' := ?_) #[tT, tT, tT, tT, tT, tT, tT, tT, tT, fF, fF, fF, fF, fF, fF, fF, fF, fF, fF, fF, fF, fF, fF, fF, fF, fF, fF, fF, fF, fF, fF, fF, fF, fF, fF, fF, fF, fF] rfl rfl (by kernel_rfl) (fun _ _ _ h => h) (Or.inl ⟨by rfl, ?_⟩) ?_ ?_
   rotate_left
   · intro w'
     go_simp
     with_reducible rfl
   rotate_left
   · simp only [Act.put, sA, sZ, sS, i64_w, i32_w]
     rfl
   refine take_ (i := 9) (N := some 26) (v := ?_) (a' := ?_) #[tT, tT, tT, tT, tT, tT, tT, tT, tT, tT, fF, fF, fF, fF, fF, fF, fF, fF, fF, fF, fF, fF, fF, fF, fF, fF, fF, fF, fF, fF, fF, fF, fF, fF, fF, fF, fF, fF] rfl rfl (by kernel_rfl) (fun _ _ _ h => h) (Or.inl ⟨by rfl, ?_⟩) hHeld ?_ ?_
   rotate_left
   · rintro w' ⟨s0, s1, s2, s3, s4, s5, _⟩
     go_simp
     with_reducible rfl
   rotate_left
   · simp only [Act.put, sA, sZ, sS, i64_w, i32_w]
     rfl
   refine pure_ (i := 10) (N := some 27) (v := ?_) (a' := ?_) #[tT, tT, tT, tT, tT, tT, tT, tT, tT, tT, tT, fF, fF, fF, fF, fF, fF, fF, fF, fF, fF, fF, fF, fF, fF, fF, fF, fF, fF, fF, fF, fF, fF, fF, fF, fF, fF, fF] rfl rfl (by kernel_rfl) (fun _ _ _ h => h) (Or.inl ⟨by rfl, ?_⟩) ?_ ?_
   rotate_left
   · intro w'
     go_simp
     with_reducible rfl
   rotate_left
   · simp only [Act.put, sA, sZ, sS, i64_w, i32_w]
     rfl
   refine pure_ (i := 11) (N := some 28) (v := ?_) (a' := ?_) #[tT, tT, tT, tT, tT, tT, tT, tT, tT, tT, tT, tT, fF, fF, fF, fF, fF, fF, fF, fF, fF, fF, fF, fF, fF, fF, fF, fF, fF, fF, fF, fF, fF, fF, fF, fF, fF, fF] rfl rfl (by kernel_rfl) (fun _ _ _ h => h) (Or.inl ⟨by rfl, ?_⟩) ?_ ?_
   rotate_left
   · intro w'
     go_simp
     with_reducible rfl
   rotate_left
   · simp only [Act.put, sA, sZ, sS, i64_w, i32_w]
     rfl
   refine pure_ (i := 12) (N := some 29) (v := ?_) (a' := ?_) #[tT, tT, tT, tT, tT, tT, tT, tT, tT, tT, tT, tT, tT, fF, fF, fF, fF, fF, fF, fF, fF, fF, fF, fF, fF, fF, fF, fF, fF, fF, fF, fF, fF, fF, fF, fF, fF, fF] rfl rfl (by kernel_rfl) (fun _ _ _ h => h) (Or.inl ⟨by rfl, ?_⟩) ?_ ?_
   rotate_left
   · intro w'
     go_simp
     with_reducible rfl
   rotate_left
   · simp only [Act.put, sA, sZ, sS, i64_w, i32_w]
     rfl
   refine pure_ (i := 13) (N := some 30) (v := ?_) (a' := ?_) #[tT, tT, tT, tT, tT, tT, tT, tT, tT, tT, tT, tT, tT, tT, fF, fF, fF, fF, fF, fF, fF, fF, fF, fF, fF, fF, fF, fF, fF, fF, fF, fF, fF, fF, fF, fF, fF, fF] rfl rfl (by kernel_rfl) (fun _ _ _ h => h) (Or.inl ⟨by rfl, ?_⟩) ?_ ?_
   rotate_left
   · intro w'
     go_simp
     with_reducible rfl
   rotate_left
   · simp only [Act.put, sA, sZ, sS, i64_w, i32_w]
     rfl
   refine pure_ (i := 14) (N := some 31) (v := ?_) (a' := ?_) #[tT, tT, tT, tT, tT, tT, tT, tT, tT, tT, tT, tT, tT, tT, tT, fF, fF, fF, fF, fF, fF, fF, fF, fF, fF, fF, fF, fF, fF, fF, fF, fF, fF, fF, fF, fF, fF, fF] rfl rfl (by kernel_rfl) (fun _ _ _ h => h) (Or.inl ⟨by rfl, ?_⟩) ?_ ?_
   rotate_left
   · intro w'
     go_simp
     with_reducible rfl
   rotate_left
   · simp only [Act.put, sA, sZ, sS, i64_w, i32_w]
     rfl
   refine pure_ (i := 15) (N := some 32) (v := ?_) (a' := ?_) #[tT, tT, tT, tT, tT, tT, tT, tT, tT, tT, tT, tT, tT, tT, tT, tT, fF, fF, fF, fF, fF, fF, fF, fF, fF, fF, fF, fF, fF, fF, fF, fF, fF, fF, fF, fF, fF, fF] rfl rfl (by kernel_rfl) (fun _ _ _ h => h) (Or.inl ⟨by rfl, ?_⟩) ?_ ?_
   rotate_left
   · intro w'
     go_simp
     with_reducible rfl
   rotate_left
   · simp only [Act.put, sA, sZ, sS, i64_w, i32_w]
     rfl
   refine take_ (i := 16) (N := some 33) (v := ?_) (a' := ?_) #[tT, tT, tT, tT, tT, tT, tT, tT, tT, tT, tT, tT, tT, tT, tT, tT, tT, fF, fF, fF, fF, fF, fF, fF, fF, fF, fF, fF, fF, fF, fF, fF, fF, fF, fF, fF, fF, fF] rfl rfl (by kernel_rfl) (fun _ _ _ h => h) (Or.inl ⟨by rfl, ?_⟩) hHeld ?_ ?_
   rotate_left
   · rintro w' ⟨s0, s1, s2, s3, s4, s5, _⟩
     go_simp
     with_reducible rfl
   rotate_left
   · simp only [Act.put, sA, sZ, sS, i64_w, i32_w]
     rfl
   refine pure_ (i := 17) (N := some 34) (v := ?_) (a' := ?_) #[tT, tT, tT, tT, tT, tT, tT, tT, tT, tT, tT, tT, tT, tT, tT, tT, tT, tT, fF, fF, fF, fF, fF, fF, fF, fF, fF, fF, fF, fF, fF, fF, fF, fF, fF, fF, fF, fF] rfl rfl (by kernel_rfl) (fun _ _ _ h => h) (Or.inl ⟨by rfl, ?_⟩) ?_ ?_
   rotate_left
   · intro w'
     go_simp
     with_reducible rfl
   rotate_left
   · simp only [Act.put, sA, sZ, sS, i64_w, i32_w]
     rfl
   refine pure_ (i := 18) (N := some 35) (v := ?_) (a' := ?_) #[tT, tT, tT, tT, tT, tT, tT, tT, tT, tT, tT, tT, tT, tT, tT, tT, tT, tT, tT, fF, fF, fF, fF, fF, fF, fF, fF, fF, fF, fF, fF, fF, fF, fF, fF, fF, fF, fF] rfl rfl (by kernel_rfl) (fun _ _ _ h => h) (Or.inl ⟨by rfl, ?_⟩) ?_ ?_
   rotate_left
   · intro w'
     go_simp
     with_reducible rfl
   rotate_left
   · simp only [Act.put, sA, sZ, sS, i64_w, i32_w]
     rfl
   refine pure_ (i := 19) (N := some 36) (v := ?_) (a' := ?_) #[tT, tT, tT, tT, tT, tT, tT, tT, tT, tT, tT, tT, tT, tT, tT, tT, tT, tT, tT, tT, fF, fF, fF, fF, fF, fF, fF, fF, fF, fF, fF, fF, fF, fF, fF, fF, fF, fF] rfl rfl (by kernel_rfl) (fun _ _ _ h => h) (Or.inl ⟨by rfl, ?_⟩) ?_ ?_
   rotate_left
   · intro w'
     go_simp
     with_reducible rfl
   rotate_left
   · simp only [Act.put, sA, sZ, sS, i64_w, i32_w]
     rfl
   refine pure_ (i := 20) (N := some 37) (v := ?_) (a' := ?_) #[tT, tT, tT, tT, tT, tT, tT, tT, tT, tT, tT, tT, tT, tT, tT, tT, tT, tT, tT, tT, tT, fF, fF, fF, fF, fF, fF, fF, fF, fF, fF, fF, fF, fF, fF, fF, fF, fF] rfl rfl (by kernel_rfl) (fun _ _ _ h => h) (Or.inl ⟨by rfl, ?_⟩) ?_ ?_
   rotate_left
   · intro w'
     go_simp
     with_reducible rfl
   rotate_left
   · simp only [Act.put, sA, sZ, sS, i64_w, i32_w]
     rfl
   refine take_ (i := 21) (N := some 38) (v := ?_) (a' := ?_) #[tT, tT, tT, tT, tT, tT, tT, tT, tT, tT, tT, tT, tT, tT, tT, tT, tT, tT, tT, tT, tT, tT, fF, fF, fF, fF, fF, fF, fF, fF, fF, fF, fF, fF, fF, fF, fF, fF] rfl rfl (by kernel_rfl) (fun _ _ _ h => h) (Or.inl ⟨by rfl, ?_⟩) hHeld ?_ ?_
   rotate_left
   · rintro w' ⟨s0, s1, s2, s3, s4, s5, _⟩
     go_simp
     with_reducible rfl
   rotate_left
   · simp only [Act.put, sA, sZ, sS, i64_w, i32_w]
     rfl
   refine pure_ (i := 22) (N := some 39) (v := ?_) (a' := ?_) #[tT, tT, tT, tT, tT, tT, tT, tT, tT, tT, tT, tT, tT, tT, tT, tT, tT, tT, tT, tT, tT, tT, tT, fF, fF, fF, fF, fF, fF, fF, fF, fF, fF, fF, fF, fF, fF, fF] rfl rfl (by kernel_rfl) (fun _ _ _ h => h) (Or.inl ⟨by rfl, ?_⟩) ?_ ?_
   rotate_left
   · intro w'
     go_simp
     with_reducible rfl
   rotate_left
   · simp only [Act.put, sA, sZ, sS, i64_w, i32_w]
     rfl
   refine pure_ (i := 23) (N := some 40) (v := ?_) (a' := ?_) #[tT, tT, tT, tT, tT, tT, tT, tT, tT, tT, tT, tT, tT, tT, tT, tT, tT, tT, tT, tT, tT, tT, tT, tT, fF, fF, fF, fF, fF, fF, fF, fF, fF, fF, fF, fF, fF, fF] rfl rfl (by kernel_rfl) (fun _ _ _ h => h) (Or.inl ⟨by rfl, ?_⟩) ?_ ?_
   rotate_left
   · intro w'
     go_simp
     with_reducible rfl
   rotate_left
   · simp only [Act.put, sA, sZ, sS, i64_w, i32_w]
     rfl
   refine pure_ (i := 24) (N := some 41) (v := ?_) (a' := ?_) #[tT, tT, tT, tT, tT, tT, tT, tT, tT, tT, tT, tT, tT, tT, tT, tT, tT, tT, tT, tT, tT, tT, tT, tT, tT, fF, fF, fF, fF, fF, fF, fF, fF, fF, fF, fF, fF, fF] rfl rfl (by kernel_rfl) (fun _ _ _ h => h) (Or.inl ⟨by rfl, ?_⟩) ?_ ?_
   rotate_left
   · intro w'
     go_simp
     with_reducible rfl
   rotate_left
   · simp only [Act.put, sA, sZ, sS, i64_w, i32_w]
     rfl
   refine pure_ (i := 25) (N := some 42) (v := ?_) (a' := ?_) #[tT, tT, tT, tT, tT, tT, tT, tT, tT, tT, tT, tT, tT, tT, tT, tT, tT, tT, tT, tT, tT, tT, tT, tT, tT, tT, fF, fF, fF, fF, fF, fF, fF, fF, fF, fF, fF, fF] rfl rfl (by kernel_rfl) (fun _ _ _ h => h) (Or.inl ⟨by rfl, ?_⟩) ?_ ?_
   rotate_left
   · intro w'
     go_simp
     with_reducible rfl
   rotate_left
   · simp only [Act.put, sA, sZ, sS, i64_w, i32_w]
     rfl
   refine pure_ (i := 26) (N := some 43) (v := ?_) (a' := ?_) #[tT, tT, tT, tT, tT, tT, tT, tT, tT, tT, tT, tT, tT, tT, tT, tT, tT, tT, tT, tT, tT, tT, tT, tT, tT, tT, tT, fF, fF, fF, fF, fF, fF, fF, fF, fF, fF, fF] rfl rfl (by kernel_rfl) (fun _ _ _ h => h) (Or.inl ⟨by rfl, ?_⟩) ?_ ?_
   rotate_left
   · intro w'
     go_simp
     with_reducible rfl
   rotate_left
   · simp only [Act.put, sA, sZ, sS, i64_w, i32_w]
     rfl
   refine pure_ (i := 27) (N := some 44) (v := ?_) (a' := ?_) #[tT, tT, tT, tT, tT, tT, tT, tT, tT, tT, tT, tT, tT, tT, tT, tT, tT, tT, tT, tT, tT, tT, tT, tT, tT, tT, tT, tT, fF, fF, fF, fF, fF, fF, fF, fF, fF, fF] rfl rfl (by kernel_rfl) (fun _ _ _ h => h) (Or.inl ⟨by rfl, ?_⟩) ?_ ?_
   rotate_left
   · intro w'
     go_simp
     with_reducible rfl
   rotate_left
   · simp only [Act.put, sA, sZ, sS, i64_w, i32_w]
     rfl
   refine pure_ (i := 28) (N := some 45) (v := ?_) (a' := ?_) #[tT, tT, tT, tT, tT, tT, tT, tT, tT, tT, tT, tT, tT, tT, tT, tT, tT, tT, tT, tT, tT, tT, tT, tT, tT, tT, tT, tT, tT, fF, fF, fF, fF, fF, fF, fF, fF, fF] rfl rfl (by kernel_rfl) (fun _ _ _ h => h) (Or.inl ⟨by rfl, ?_⟩) ?_ ?_
   rotate_left
   · intro w'
     go_simp
     with_reducible rfl
   rotate_left
   · simp only [Act.put, sA, sZ, sS, i64_w, i32_w]
     rfl
   refine take_ (i := 29) (N := some 46) (v := ?_) (a' := ?_) #[tT, tT, tT, tT, tT, tT, tT, tT, tT, tT, tT, tT, tT, tT, tT, tT, tT, tT, tT, tT, tT, tT, tT, tT, tT, tT, tT, tT, tT, tT, fF, fF, fF, fF, fF, fF, fF, fF] rfl rfl (by kernel_rfl) (fun _ _ _ h => h) (Or.inl ⟨by rfl, ?_⟩) hHeld ?_ ?_
   rotate_left
   · rintro w' ⟨s0, s1, s2, s3, s4, s5, _⟩
     go_simp
     with_reducible rfl
   rotate_left
   · simp only [Act.put, sA, sZ, sS, i64_w, i32_w]
     rfl
   refine pure_ (i := 30) (N := some 47) (v := ?_) (a' := ?_) #[tT, tT, tT, tT, tT, tT, tT, tT, tT, tT, tT, tT, tT, tT, tT, tT, tT, tT, tT, tT, tT, tT, tT, tT, tT, tT, tT, tT, tT, tT, tT, fF, fF, fF, fF, fF, fF, fF] rfl rfl (by kernel_rfl) (fun _ _ _ h => h) (Or.inl ⟨by rfl, ?_⟩) ?_ ?_
   rotate_left
   · intro w'
     go_simp
     with_reducible rfl
   rotate_left
   · simp only [Act.put, sA, sZ, sS, i64_w, i32_w]
     rfl
   refine pure_ (i := 31) (N := some 48) (v := ?_) (a' := ?_) #[tT, tT, tT, tT, tT, tT, tT, tT, tT, tT, tT, tT, tT, tT, tT, tT, tT, tT, tT, tT, tT, tT, tT, tT, tT, tT, tT, tT, tT, tT, tT, tT, fF, fF, fF, fF, fF, fF] rfl rfl (by kernel_rfl) (fun _ _ _ h => h) (Or.inl ⟨by rfl, ?_⟩) ?_ ?_
   rotate_left
   · intro w'
     go_simp
     with_reducible rfl
   rotate_left
   · simp only [Act.put, sA, sZ, sS, i64_w, i32_w]
     rfl
   refine pure_ (i := 32) (N := some 49) (v := ?_) (a' := ?_) #[tT, tT, tT, tT, tT, tT, tT, tT, tT, tT, tT, tT, tT, tT, tT, tT, tT, tT, tT, tT, tT, tT, tT, tT, tT, tT, tT, tT, tT, tT, tT, tT, tT, fF, fF, fF, fF, fF] rfl rfl (by kernel_rfl) (fun _ _ _ h => h) (Or.inl ⟨by rfl, ?_⟩) ?_ ?_
   rotate_left
   · intro w'
     go_simp
     with_reducible rfl
   rotate_left
   · simp only [Act.put, sA, sZ, sS, i64_w, i32_w]
     rfl
   refine pure_ (i := 33) (N := some 50) (v := ?_) (a' := ?_) #[tT, tT, tT, tT, tT, tT, tT, tT, tT, tT, tT, tT, tT, tT, tT, tT, tT, tT, tT, tT, tT, tT, tT, tT, tT, tT, tT, tT, tT, tT, tT, tT, tT, tT, fF, fF, fF, fF] rfl rfl (by kernel_rfl) (fun _ _ _ h => h) (Or.inl ⟨by rfl, ?_⟩) ?_ ?_
   rotate_left
   · intro w'
     go_simp
     with_reducible rfl
   rotate_left
   · simp only [Act.put, sA, sZ, sS, i64_w, i32_w]
     rfl
   refine take_ (i := 34) (N := some 51) (v := ?_) (a' := ?_) #[tT, tT, tT, tT, tT, tT, tT, tT, tT, tT, tT, tT, tT, tT, tT, tT, tT, tT, tT, tT, tT, tT, tT, tT, tT, tT, tT, tT, tT, tT, tT, tT, tT, tT, tT, fF, fF, fF] rfl rfl (by kernel_rfl) (fun _ _ _ h => h) (Or.inl ⟨by rfl, ?_⟩) hHeld ?_ ?_
   rotate_left
   · rintro w' ⟨s0, s1, s2, s3, s4, s5, _⟩
     go_simp
     with_reducible rfl
   rotate_left
   · simp only [Act.put, sA, sZ, sS, i64_w, i32_w]
     rfl
   refine one_ (i := 35) (N := some 52) #[tT, tT, tT, tT, tT, tT, tT, tT, tT, tT, tT, tT, tT, tT, tT, tT, tT, tT, tT, tT, tT, tT, tT, tT, tT, tT, tT, tT, tT, tT, tT, tT, tT, tT, tT, tT, fF, fF] rfl rfl (by kernel_rfl) (by decide) (fun K hK => ?_)
   refine goes_ Tryz.func25 (by kernel_rfl) rfl #[.slice A4 x.f2.length c4, .slice B4 x.f2.length d4] (by rfl) rfl rfl (by simp only [List.map_toArray, List.map_cons, List.map_nil]; rfl) ?_
   refine (SameCalls_eq x.f2 A4 B4 c4 d4 wr.drew HFX.out.1 HFX.out.2 (Kd.C_below HG4.out.1 HDR.out) (Kd.C_below HG4.out.2 HDR.out)).mono ?_
   rintro e9 w9 ⟨rfl, hb9⟩
   refine ⟨_, rfl, ?_⟩
   refine hK.out _ _ (HSS w9 hb9) fun hHeld => ?_
   clear hK K
   refine norm_ (a' := ?_) ?_ ?_
   rotate_left
   · show Act.put _ (some 52) _ = _
     simp only [Act.put, sA, sZ, sS, i64_w, i32_w]
     rfl
   refine pure_ (i := 36) (N := some 53) (v := ?_) (a' := ?_) #[tT, tT, tT, tT, tT, tT, tT, tT, tT, tT, tT, tT, tT, tT, tT, tT, tT, tT, tT, tT, tT, tT, tT, tT, tT, tT, tT, tT, tT, tT, tT, tT, tT, tT, tT, tT, tT, fF] rfl rfl (by kernel_rfl) (fun _ _ _ h => h) (Or.inl ⟨by rfl, ?_⟩) ?_ ?_
   rotate_left
   · intro w'
     go_simp
     with_reducible rfl
   rotate_left
   · simp only [Act.put, sA, sZ, sS, i64_w, i32_w]
     rfl
   refine pure_ (i := 37) (N := some 54) (v := ?_) (a' := ?_) #[tT, tT, tT, tT, tT, tT, tT, tT, tT, tT, tT, tT, tT, tT, tT, tT, tT, tT, tT, tT, tT, tT, tT, tT, tT, tT, tT, tT, tT, tT, tT, tT, tT, tT, tT, tT, tT, tT] rfl rfl (by kernel_rfl) (fun _ _ _ h => h) (Or.inl ⟨by rfl, ?_⟩) ?_ ?_
   rotate_left
   · intro w'
     go_simp
     with_reducible rfl
   rotate_left
   · simp only [Act.put, sA, sZ, sS, i64_w, i32_w]
     rfl
   refine done_ (by kernel_rfl) ?_
   have HB9 := Aside0.mk (HBW.out.trans ((HDR.out.trans (hb9.mono HDR.out.size)).mono HBW.out.size))
   clear hb9 hHeld HSS hdr
   go_wp2
   go_roundg k1
   case measure => omega
   case rel => exact ⟨k + 1, by omega, by go_num, HB9⟩
end Go.Proofs.YtamcicojockhpaaGreatDoor.Wi
end
section
set_option linter.unusedVariables false
set_option linter.unusedSimpArgs false
namespace Go.Proofs.YtamcicojockhpaaGreatDoor.Wi
open Go.RowKit Go.Proofs.YtamcicojockhpaaGreatDoorW.PrintWords Go.Proofs.YtamcicojockhpaaGreatDoorW.PrintLast Go.Proofs.YtamcicojockhpaaGreatDoorW.PrintMore
open Go.Proofs.YtamcicojockhpaaGreatDoor.Lx Go.Proofs.YtamcicojockhpaaGreatDoor.PS Go.Proofs.YtamcicojockhpaaGreatDoor.Tr
def lineA : ByteArray := ⟨#[123, 34, 112, 34, 58, 48, 44, 34, 116, 34, 58, 34, 111, 107, 34, 44, 34, 102, 34, 58, 91, 91, 34, 119, 34, 44, 34, 120, 34, 44, 49, 93, 44, 91, 34, 114, 34, 44, 34, 121, 34, 44, 110, 117, 108, 108, 93, 93, 125, 10]⟩
def evA : Ev := ⟨0, 1, [⟨1, ⟨#[120]⟩, 1, false, []⟩, ⟨5, ⟨#[121]⟩, 0, true, []⟩]⟩
theorem events_A : eventsR lineA.data.toList = ([evA], 0, 0) := by kernel_rfl
theorem print_A : printE [evA] = (lineA.data.toList, 0) := by kernel_rfl
theorem check_A : checkR [⟨0, 9, []⟩] = 1 := by kernel_rfl
theorem fitsE_A : ∀ e ∈ [evA], fitsE e := by
 intro e he
 rw [List.mem_singleton.1 he]
 exact ⟨by decide, by decide⟩
theorem numsE_A : ∀ e ∈ [evA], numsE e := by
 intro e he
 rw [List.mem_singleton.1 he]
 refine ⟨⟨by decide, by decide⟩, ?_⟩
 intro c hc
 simp only [evA, List.mem_cons, List.not_mem_nil, or_false] at hc
 rcases hc with rfl | rfl <;> exact ⟨⟨by decide, by decide⟩, fun n hn => by cases hn⟩
set_option maxRecDepth 100000 in
set_option maxHeartbeats 4000000 in
theorem alive_calls (m : Int) (w : World) (hm : w.cell? ⟨2, 0, none⟩ = some (.int .i64 m)) (hlw : ∀ w1, Below w.heap.size w w1 → LW w1) :
 Calls Tryz.prog 9 #[] w fun e w' => e = .returned (.bool true) ∧ Below w.heap.size w w' := by
 have HLW := Aside0.mk hlw
 have HEV := Aside0.mk (Events_calls lineA m w (by decide) hm (fun w1 h => (hlw w1 h).te))
 rw [events_A] at HEV
 clear hm hlw
 go_enter Tryz.func9, Tryz.ntmps9
 go_wp2_with fail
 refine HEV.out.mono ?_
 clear HEV
 rintro e w1 ⟨hb1, v2, rfl, hr⟩
 obtain ⟨A, c, e2, lc, gc⟩ := Kd.R_reads hr
 have e2' : v2 = .slice A 1 c := e2
 subst e2'
 clear e2
 have hx1 : Below w1.heap.size w1 (w1.alloc (.cells #[.int .i64 0, .int .i64 0] 26 (0, 0))) := (Below.refl _ _).alloc (Nat.le_refl _) _
 have HX1 := Aside0.mk (hb1.trans (hx1.mono hb1.size))
 have GC := Aside0.mk (Kd.C_below gc hx1)
 have NF := Aside0.mk (blk_new w1 (.cells #[.int .i64 0, .int .i64 0] 26 (0, 0)))
 clear hb1 hr gc hx1
 go_wp2_with fail
 generalize w1.alloc (.cells #[.int .i64 0, .int .i64 0] 26 (0, 0)) = X1 at *
 refine (Print_calls [evA] A c X1 (by decide) fitsE_A numsE_A GC.out (fun w9 h => HLW.out w9 (HX1.out.trans (h.mono HX1.out.size)))).mono ?_
 rw [print_A]
 rintro e w2 ⟨rfl, hb2⟩
 have HX2 := Aside0.mk (HX1.out.trans (hb2.mono HX1.out.size))
 have NF2 := Aside0.mk ((hb2.block _ (blk_lt NF.out)).trans NF.out)
 obtain ⟨ad, A2, c2, e', x0, x1, x2, l2, g2⟩ := at_T39 (Kd.C_below GC.out hb2) (0 : Int) (by decide) (by decide)
 cases e'
 rw [show rd_T39 [evA] (0 : Int) = evA from rfl] at x0 x1 x2 l2 g2
 obtain ⟨ac, A4, c4, e', y0, y1, y2, y3, y4, l4, g4⟩ := at_T43 g2 (1 : Int) (by decide) (by decide)
 cases e'
 rw [show rd_T43 evA.f2 (1 : Int) = ⟨5, ⟨#[121]⟩, 0, true, []⟩ from rfl] at y3
 have x2' := x2
 rw [show ad.add ((0 : Int).toNat * 3) = ad by show ad.add 0 = ad; unfold Addr.add; split <;> simp_all] at x2'
 have y3' : w2.cell? ⟨ac.block, ac.off + 8, none⟩ = some (.bool true) := y3
 have x2'' : w2.cell? ⟨ad.block, ad.off + 2, none⟩ = some (.slice (some ac) 2 c2) := x2'
 have f0 := blk_cell NF2.out 0
 clear x0 x1 x2 x2' l2 g2 y0 y1 y2 y3 y4 l4 g4 hb2
 have hc2 : (1 : Int) < 2 := by decide
 have hLA : (⟨lineA.data.toList.toArray⟩ : ByteArray) = lineA := rfl
 rw [hLA]
 unfold lineA
 go_wp2_with fail
 have ne := blk_new w2 (.cells #[.int .i64 0, .int .i64 9, .slice none 0 0] 39 (0, 0))
 have HX3 := Aside0.mk (HX2.out.trans (((Below.refl w2.heap.size w2).alloc (Nat.le_refl _) (.cells #[.int .i64 0, .int .i64 9, .slice none 0 0] 39 (0, 0))).mono HX2.out.size))
 have RE : k39.R 39 (w2.alloc (.cells #[.int .i64 0, .int .i64 9, .slice none 0 0] 39 (0, 0))) 0 (fun _ => True) (.slice (some ⟨w2.heap.size, 0, none⟩) 1 1) [⟨0, 9, []⟩] :=
  ⟨fun _ _ => trivial, [.int .i64 0, .int .i64 9, .slice none 0 0], ⟨rfl, .inr ⟨w2.heap.size, 1, _, rfl, Nat.zero_le _, ne, Nat.le_refl _, by decide, rfl, rfl⟩⟩, Reps.c3 (k39_mkM _ 0 _ (⟨0, 9, []⟩ : Ev) (Kd.R_nil _ _ _ _ _)) (Reps.none _ _)⟩
 obtain ⟨A9, c9, e9, l9, g9⟩ := Kd.R_reads RE
 cases e9
 refine (Check_calls [⟨0, 9, []⟩] (some ⟨w2.heap.size, 0, none⟩) 1 _ (by decide) (by intro e he; rw [List.mem_singleton.1 he]; exact ⟨by decide, fun c hc => by cases hc⟩) g9).mono ?_
 rw [check_A]
 rintro e w4 ⟨rfl, hb4⟩
 have HX4 := Aside0.mk (HX3.out.trans (hb4.mono HX3.out.size))
 clear hb4 RE g9 ne
 go_wp2
 go_ret
 exact ⟨rfl, HX4.out⟩
end Go.Proofs.YtamcicojockhpaaGreatDoor.Wi
end
section
set_option linter.unusedVariables false
set_option linter.unusedSimpArgs false
namespace Go.Proofs.YtamcicojockhpaaGreatDoor.Wi
open Go.RowKit
open Go.Proofs.YtamcicojockhpaaGreatDoor.Lx Go.Proofs.YtamcicojockhpaaGreatDoor.PS Go.Proofs.YtamcicojockhpaaGreatDoor.Tr
theorem badE_cases {e : Ev} (h : badE e = false) : 0 ≤ e.f1 ∧ e.f1 ≤ 3 ∧ e.f2.length ≤ 16 ∧ ∀ c ∈ e.f2, soundC c e.f1 = true := by
 simp only [badE, Bool.or_eq_false_iff, decide_eq_false_iff_not, List.any_eq_false, Bool.not_eq_true', Bool.not_eq_false] at h
 exact ⟨by omega, by omega, by omega, h.2.2.2⟩
end Go.Proofs.YtamcicojockhpaaGreatDoor.Wi
end
section
set_option linter.unusedVariables false
set_option linter.unusedSimpArgs false
namespace Go.Proofs.YtamcicojockhpaaGreatDoor.Wi
open Go.ChangeShapes Go.WideShapes Go.ChangeAt Go.RowKit
open Go.Proofs.YtamcicojockhpaaGreatDoor.Opn Go.Proofs.YtamcicojockhpaaGreatDoorW.PrintWords
open Go.Proofs.YtamcicojockhpaaGreatDoor.Lx Go.Proofs.YtamcicojockhpaaGreatDoor.PS Go.Proofs.YtamcicojockhpaaGreatDoor.Tr
theorem laid_at {P : Program} {W : World} {name : String} {g : Nat} {t : TypeId} (hg : P.globalNamed name = some g) (hty : (P.globals[g]?).map (·.type) = some t) :
 ∀ {laid : List (String × DataW Unit)} {ps : List MemPlace} {d : DataW Unit}, DataW.LaidVars P W laid ps → (name, d) ∈ laid → ∃ cs fuel p, W.var? P name = some cs ∧ DataW.trod (fun _ => ()) P W 0 (fun _ => true) false fuel t cs.toList = some (d, p)
 | [], _, _, _, h => by cases h
 | (nm, d0) :: r, ps, d, hL, h => by
  obtain ⟨g', t', cs, fuel, p, q, hg', ht', hvar, hdd, hrest, _⟩ := hL
  rcases List.mem_cons.1 h with e0 | h
  · cases e0
    obtain rfl := Option.some.inj (hg.symm.trans hg')
    obtain rfl := Option.some.inj (hty.symm.trans ht')
    exact ⟨cs, fuel, p, hvar, hdd⟩
  · exact laid_at hg hty hrest h
theorem var_cell {P : Program} {W : World} {name : String} {g : Nat} {cs : Array Value} (hg : P.globalNamed name = some g) (h : W.var? P name = some cs) (j : Nat) : W.cell? ⟨g, j, none⟩ = cs[j]? := by
 unfold World.var? at h
 rw [hg, Option.bind_some] at h
 unfold World.cell?
 cases hh : W.heap[g]? with
 | none => rw [hh] at h; cases h
 | some o =>
  rw [hh] at h
  cases o with
  | cells c t f => cases h; rfl
  | _ => cases h
theorem err_laid {W : World} {laid : List (String × DataW Unit)} {ps : List MemPlace} {name : String} {g : Nat} {tn : String} {d : DataW Unit} (hg : Tryz.prog.globalNamed name = some g) (hty : (Tryz.prog.globals[g]?).map (·.type) = some 68)
 (h : DataW.LaidVars Tryz.prog W laid ps) (hm : (name, .iface tn d) ∈ laid) : ∃ ev, W.cell? ⟨g, 0, none⟩ = some ev ∧ (ev = .nilIface ∨ ∃ te pe, ev = .iface te pe) := by
 obtain ⟨cs, fuel, p, hv, ht⟩ := laid_at hg hty h hm
 obtain ⟨_, u, v, hcs, _, _⟩ := iface_of_trod Tryz.underlying68 ht
 refine ⟨.iface u v, ?_, .inr ⟨_, _, rfl⟩⟩
 rw [var_cell hg hv]
 have : cs = #[.iface u v] := by
  apply Array.ext'
  exact hcs
 rw [this]
 rfl
def deB : List Int := [0, 1, 56, 2, 57, 49, 28, 3, 61, 58, 42, 50, 38, 29, 17, 4, 62, 47, 59, 36, 45, 43, 51, 22, 53, 39, 33, 30, 24, 18, 12, 5, 63, 55, 48, 27, 60, 41, 37, 16, 46, 35, 44, 21, 52, 32, 23, 11, 54, 26, 40, 15, 34, 20, 31, 10, 25, 14, 19, 9, 13, 8, 7, 6]
set_option maxRecDepth 100000 in
theorem lw_of {W : World} {laid : List (String × DataW Unit)} (hp : (laid.filter fun x => x.2.handleName?.isSome) = []) (h : laidMetH Tryz.prog laid W)
 (h1 : ("internal/strconv.uint64pow10", Rows.laid_internal_strconv_uint64pow10) ∈ laid) (h2 : ("math/bits.deBruijn64tab", Rows.laid_math_bits_deBruijn64tab) ∈ laid) (h3 : ("strconv.ErrRange", Rows.laid_strconv_ErrRange) ∈ laid) (h4 : ("strconv.ErrSyntax", Rows.laid_strconv_ErrSyntax) ∈ laid) : LW W := by
 unfold laidMetH at h
 rw [hp] at h
 obtain ⟨ps, hL, _⟩ := h
 refine ⟨⟨err_laid (name := "strconv.ErrSyntax") (by kernel_rfl) (by kernel_rfl) hL h4, err_laid (name := "strconv.ErrRange") (by kernel_rfl) (by kernel_rfl) hL h3⟩, ?_, ?_⟩
 · have ht : Lib.TabIs Tryz.prog W "math/bits.deBruijn64tab" .u8 deB := laid_mem (g := 7) (t := 205) (e := 5) (n := 64) (by kernel_rfl) (by kernel_rfl) Tryz.underlying205 Tryz.underlying5 (by kernel_rfl) (by kernel_rfl) hL ⟨_, h2, rfl⟩
   exact (var_cell (name := "math/bits.deBruijn64tab") (by kernel_rfl) ht 15).trans rfl
 · exact laid_mem (g := 3) (t := 190) (e := 177) (n := 20) (by kernel_rfl) (by kernel_rfl) Tryz.underlying190 Tryz.underlying177 (by kernel_rfl) (by kernel_rfl) hL ⟨_, h1, rfl⟩
set_option maxRecDepth 100000 in
theorem arg_text {H : Type} {enc : TypeId × Value → H} {W : World} {base : Nat} {sp : Nat → Bool} {held : Bool} {v : Value} {x : DataW H} {ps : List MemPlace} {r : Reach} {b0 : Nat} (hval : Value.okWide Tryz.prog W r b0 9 v) (h : DataW.Trod enc Tryz.prog W base sp held 9 v x ps) : ∃ s : ByteArray, v = .string s ∧ s.size + 1 ≤ Rows.uptoBulk x := by
 obtain ⟨s0, rfl⟩ := okWide_string Tryz.underlying9 hval
 obtain ⟨s, he, _, hs⟩ := open_arg (opens_string Tryz.underlying9) h
 have he' : Value.string s0 = .string s := by
  have : [Value.string s0] = [Value.string s] := he
  simpa using this
 cases he'
 exact ⟨_, rfl, hs⟩
theorem ml_of {W : World} (h : W.ShapedOpen Tryz.prog) : ∃ m, W.cell? ⟨2, 0, none⟩ = some (.int .i64 m) := Go.Proofs.cell_of_shapedOpen_int (zero := #[.int .i64 0]) (t := 3) h (of_decide_eq_true (by kernel_rfl)) (by kernel_rfl) rfl (by kernel_rfl) (by kernel_rfl) Tryz.underlying3
theorem gPow : ∃ g, Tryz.prog.globalNamed "internal/strconv.uint64pow10" = some g := by
 have h : (Tryz.prog.globalNamed "internal/strconv.uint64pow10").isSome = true := by kernel_rfl
 exact Option.isSome_iff_exists.1 h
theorem p10_below {w w' : World} (h : P10 w) (hb : Below w.heap.size w w') : P10 w' := by
 obtain ⟨g, hg⟩ := gPow
 unfold P10 Lib.TabIs World.var? at h ⊢
 rw [hg] at h ⊢
 simp only [Option.bind_some] at h ⊢
 have hlt : g < w.heap.size := by
  rcases Nat.lt_or_ge g w.heap.size with h' | h'
  · exact h'
  · rw [Array.getElem?_eq_none h'] at h; cases h
 rw [hb.block g hlt]
 exact h
theorem lw_below {w w' : World} (h : LW w) (hb : Below w.heap.size w w') : LW w' := ⟨h.te.below hb, h.deb.below hb, p10_below h.p10 hb⟩
end Go.Proofs.YtamcicojockhpaaGreatDoor.Wi
end
section
set_option linter.unusedVariables false
set_option linter.unusedSimpArgs false
namespace Go.Proofs.YtamcicojockhpaaGreatDoor.Wi
open Go.RowKit
open Go.Proofs.YtamcicojockhpaaGreatDoor.Lx Go.Proofs.YtamcicojockhpaaGreatDoor.PS Go.Proofs.YtamcicojockhpaaGreatDoor.Tr
theorem chkC_some {c d : Cl} {ev : Int} (h : chkC c ev = some d) : d = c ∧ soundC c ev = true := by
 unfold chkC at h
 split at h
 · rename_i hs
   exact ⟨(Option.some.inj h).symm, hs⟩
 · cases h
theorem nums_f1 {d : Nat} {x : V} (h : numsR d x) : numOk x.f1 := by
 cases d with
 | zero => exact h
 | succ d => exact h.1
theorem nums_z : ∀ d : Nat, numsR d zV
 | 0 => ⟨by decide, by decide⟩
 | d + 1 => ⟨⟨by decide, by decide⟩, fun y hy => by cases hy⟩
theorem nums_getD {d : Nat} {x : V} (h : numsR (d + 1) x) (i : Nat) : numsR d (x.f3.getD i zV) := by
 rw [List.getD_eq_getElem?_getD]
 cases hi : x.f3[i]? with
 | none => exact nums_z d
 | some y => exact h.2 y (List.mem_of_getElem? hi)
theorem vals_nums {k : Int} {v : V} {d : Nat} (h : numsR (d + 1) v) : ∀ n ∈ (valsR k v).1, numOk n := by
 intro n hn
 unfold valsR at hn
 split at hn
 · split at hn
   · obtain ⟨y, hy, rfl⟩ := List.mem_map.1 hn
     exact nums_f1 (h.2 y hy)
   · cases hn
 · split at hn
   · rw [List.mem_singleton.1 hn]
     exact nums_f1 h
   · split at hn <;> cases hn
theorem callR_sound {x : V} {K : Int} {c : Cl} {d : Nat} (hn : numsR (d + 2) x) (h : callR x K = some c) : soundC c K = true ∧ numOk c.f2 ∧ ∀ n ∈ c.f4, numOk n := by
 have h0 : numOk 0 := ⟨by decide, by decide⟩
 unfold callR at h
 split at h
 · cases h
 · split at h
   · cases h
   · split at h
     · cases h
     · split at h
       · split at h
         · cases h
         · obtain ⟨rfl, hs⟩ := chkC_some h
           exact ⟨hs, nums_f1 (nums_getD hn 2), fun n hm => by cases hm⟩
       · split at h
         · split at h
           · cases h
           · split at h
             · obtain ⟨rfl, hs⟩ := chkC_some h
               exact ⟨hs, h0, vals_nums (nums_getD hn 2)⟩
             · cases h
         · split at h
           · cases h
           · obtain ⟨rfl, hs⟩ := chkC_some h
             exact ⟨hs, h0, fun n hm => by cases hm⟩
theorem kup_lt (s : ByteArray) : ∀ k : Nat, kup s k < (k : Int)
 | 0 => by show (-1 : Int) < 0; decide
 | k + 1 => by
  show (if kindT k = s then (k : Int) else kup s k) < _
  have := kup_lt s k
  split <;> omega
def goodE (e : Ev) : Prop := badE e = false ∧ numsE e ∧ fitsE e
theorem eventR_good {v : V} {e : Ev} (hv : Ok 8 v) (h : eventR v = some e) : goodE e := by
 have hg : ∀ s, numsR 7 (getR v s).1 := by
  intro s
  unfold getR
  split
  · split
    · exact nums_getD hv.n _
    · exact nums_z 7
  · exact nums_z 7
 unfold eventR evF at h
 split at h
 · rename_i hc
   obtain ⟨_, _, _, _, _, _, _, h16⟩ := hc
   split at h
   · cases h
   · rename_i hk
     obtain ⟨cs, hcs, rfl⟩ := Option.map_eq_some_iff.1 h
     unfold callsR at hcs
     split at hcs
     · have hcs' := Option.some.inj hcs
       have hkl := kup_lt (getR v ⟨#[116]⟩).1.f2 4
       have hmem : ∀ c ∈ cs, ∃ x ∈ (getR v ⟨#[102]⟩).1.f3, callR x (kup (getR v ⟨#[116]⟩).1.f2 4) = some c := by
        intro c hc
        rw [← hcs'] at hc
        exact List.mem_filterMap.1 hc
       have hlen : cs.length ≤ 16 := by
        rw [← hcs']
        exact Nat.le_trans (List.length_filterMap_le _ _) h16
       have hs : ∀ c ∈ cs, soundC c (kup (getR v ⟨#[116]⟩).1.f2 4) = true ∧ numOk c.f2 ∧ ∀ n ∈ c.f4, numOk n := by
        intro c hc
        obtain ⟨x, hx, hcx⟩ := hmem c hc
        exact callR_sound (d := 4) ((hg ⟨#[102]⟩).2 x hx) hcx
       refine ⟨?_, ⟨nums_f1 (hg ⟨#[112]⟩), fun c hc => (hs c hc).2⟩, ?_⟩
       · simp only [badE, Bool.or_eq_false_iff, decide_eq_false_iff_not, List.any_eq_false, Bool.not_eq_true', Bool.not_eq_false]
         exact ⟨hk, by omega, by omega, fun c hc => by simpa using (hs c hc).1⟩
       · exact ⟨by show cs.length ≤ _; omega, fun c hc => by have := (sound_len (hs c hc).1).2.1; omega⟩
     · cases hcs
 · cases h
theorem run_inv : ∀ (ps : List (List UInt8)) (fr : Nat) (acc : List Ev), (∀ e ∈ acc, goodE e) → acc.length ≤ 256 →
 (∀ fr' acc', ps.foldl stepE (.go fr acc) = .go fr' acc' → (∀ e ∈ acc', goodE e) ∧ acc'.length ≤ 256) ∧
 ∀ c a, ps.foldl stepE (.go fr acc) = .stop c a → c ≠ 0 ∧ a + 1 ≤ fr + frOf ps
 | [], fr, acc, hg, hl => ⟨fun fr' acc' h => by cases h; exact ⟨hg, hl⟩, fun c a h => by cases h⟩
 | p :: ps, fr, acc, hg, hl => by
  have hf : frOf (p :: ps) = p.length + 1 + frOf ps := rfl
  rw [List.foldl_cons, hf]
  have stopc : ∀ c a, c ≠ 0 → a ≤ fr + p.length → (∀ fr' acc', ps.foldl stepE (.stop c a) = .go fr' acc' → (∀ e ∈ acc', goodE e) ∧ acc'.length ≤ 256) ∧
   ∀ c' a', ps.foldl stepE (.stop c a) = .stop c' a' → c' ≠ 0 ∧ a' + 1 ≤ fr + (p.length + 1 + frOf ps) := by
   intro c a hc ha
   rw [stop_foldl]
   exact ⟨fun _ _ h => (by cases h), fun c' a' h => (by cases h; exact ⟨hc, by omega⟩)⟩
  have goc : ∀ acc1, (∀ e ∈ acc1, goodE e) → acc1.length ≤ 256 → (∀ fr' acc', ps.foldl stepE (.go (fr + p.length + 1) acc1) = .go fr' acc' → (∀ e ∈ acc', goodE e) ∧ acc'.length ≤ 256) ∧
   ∀ c' a', ps.foldl stepE (.go (fr + p.length + 1) acc1) = .stop c' a' → c' ≠ 0 ∧ a' + 1 ≤ fr + (p.length + 1 + frOf ps) := by
   intro acc1 h1 h2
   have ih := run_inv ps (fr + p.length + 1) acc1 h1 h2
   exact ⟨ih.1, fun c' a' h => ⟨(ih.2 c' a' h).1, by have := (ih.2 c' a' h).2; omega⟩⟩
  rw [stepE]
  obtain ⟨v, c, a, hpr⟩ : ∃ v c a, parseR p = (v, c, a) := ⟨_, _, _, rfl⟩
  have hpc := parse_cases p v c a hpr
  rw [hpr]
  split
  · exact goc acc hg hl
  · split
    · rename_i hc
      rcases hpc with h | h
      · exact absurd h.1 hc
      · exact stopc c (fr + a) hc (by omega)
    · rename_i hc
      have hok : Ok 8 v := by
       rcases hpc with h | h
       · exact h.2.2
       · exact absurd h.1 hc
      cases hev : eventR v with
      | none =>
       simp only [hev]
       exact stopc 20 fr (by decide) (by omega)
      | some e =>
       simp only [hev]
       split
       · exact stopc 2 fr (by decide) (by omega)
       · rename_i h256
         refine goc (acc ++ [e]) ?_ (by rw [List.length_append, List.length_singleton]; omega)
         intro y hy
         rcases List.mem_append.1 hy with h | h
         · exact hg y h
         · rw [List.mem_singleton.1 h]
           exact eventR_good hok hev
theorem events_cases (s : List UInt8) (l : List Ev) (c a : Nat) (h : eventsR s = (l, c, a)) :
 (c = 0 ∧ a = 0 ∧ l.length ≤ 256 ∧ (∀ e ∈ l, goodE e) ∧ checkR l = 0) ∨ (c ≠ 0 ∧ l = [] ∧ a ≤ s.length) := by
 unfold eventsR at h
 split at h
 · cases h
   exact .inr ⟨by decide, rfl, Nat.zero_le _⟩
 · have inv := run_inv (splitL s) 0 [] (fun _ h => by cases h) (Nat.zero_le _)
   have hr : runE (splitL s) = (splitL s).foldl stepE (.go 0 []) := rfl
   cases hst : runE (splitL s) with
   | go fr acc =>
    rw [hst] at h
    have h' : (acc, 0, 0) = (l, c, a) := h
    cases h'
    have hi := inv.1 fr _ (hr.symm.trans hst)
    refine .inl ⟨rfl, rfl, hi.2, hi.1, ?_⟩
    unfold checkR
    rw [if_neg]
    rw [not_or]
    refine ⟨by omega, ?_⟩
    intro ha
    obtain ⟨e, he, hb⟩ := List.any_eq_true.1 ha
    rw [(hi.1 e he).1] at hb
    cases hb
   | stop c' a' =>
    rw [hst] at h
    have h' : (([] : List Ev), c', a') = (l, c, a) := h
    cases h'
    have hi := inv.2 c a (hr.symm.trans hst)
    rw [fr_split] at hi
    exact .inr ⟨hi.1, rfl, by omega⟩
end Go.Proofs.YtamcicojockhpaaGreatDoor.Wi
end
section
set_option linter.unusedVariables false
set_option linter.unusedSimpArgs false
namespace Go.Proofs.YtamcicojockhpaaGreatDoor.Wi
open Go.RowKit
open Go.Proofs.YtamcicojockhpaaGreatDoor.Lx Go.Proofs.YtamcicojockhpaaGreatDoor.PS Go.Proofs.YtamcicojockhpaaGreatDoor.Tr
theorem splitL_app (t : List UInt8) : ∀ s : List UInt8, splitL (s ++ 10 :: t) = splitL s ++ splitL t
 | [] => by
  show splitL (10 :: t) = [[]] ++ splitL t
  rw [splitL, if_pos rfl]
  rfl
 | c :: r => by
  have ih := splitL_app t r
  show splitL (c :: (r ++ 10 :: t)) = splitL (c :: r) ++ splitL t
  rw [splitL, splitL, ih]
  split
  · rfl
  · have hne := splitL_ne r
    cases hr : splitL r with
    | nil => exact absurd hr hne
    | cons x xs => rfl
theorem go_step {fr : Nat} {acc : List Ev} {p : List UInt8} {ps : List (List UInt8)} {fr' : Nat} {acc' : List Ev} (h : (p :: ps).foldl stepE (.go fr acc) = .go fr' acc') :
 (stepE (.go fr acc) p = .go (fr + p.length + 1) acc ∧ (∀ f a, stepE (.go f a) p = .go (f + p.length + 1) a) ∧ ps.foldl stepE (.go (fr + p.length + 1) acc) = .go fr' acc') ∨
 ∃ e, (∀ f a, a.length ≠ 256 → stepE (.go f a) p = .go (f + p.length + 1) (a ++ [e])) ∧ ps.foldl stepE (.go (fr + p.length + 1) (acc ++ [e])) = .go fr' acc' := by
 rw [List.foldl_cons] at h
 by_cases hb : blankL p = true
 · have q : ∀ f a, stepE (.go f a) p = .go (f + p.length + 1) a := fun f a => by rw [stepE, if_pos hb]
   rw [q] at h
   exact .inl ⟨q _ _, q, h⟩
 · by_cases hc : (parseR p).2.1 ≠ 0
   · rw [stepE, if_neg hb, if_pos hc, stop_foldl] at h
     cases h
   · cases hev : eventR (parseR p).1 with
     | none =>
      rw [stepE, if_neg hb, if_neg hc] at h
      simp only [hev, stop_foldl] at h
      cases h
     | some e =>
      have q : ∀ f a, a.length ≠ 256 → stepE (.go f a) p = .go (f + p.length + 1) (a ++ [e]) := fun f a ha => by
       rw [stepE, if_neg hb, if_neg hc]
       simp only [hev]
       rw [if_neg ha]
      by_cases ha : acc.length = 256
      · rw [stepE, if_neg hb, if_neg hc] at h
        simp only [hev] at h
        rw [if_pos ha, stop_foldl] at h
        cases h
      · rw [q _ _ ha] at h
        exact .inr ⟨e, q, h⟩
theorem go_len : ∀ (ps : List (List UInt8)) (fr : Nat) (acc : List Ev) (fr' : Nat) (acc' : List Ev), ps.foldl stepE (.go fr acc) = .go fr' acc' → acc.length ≤ acc'.length
 | [], fr, acc, fr', acc', h => by cases h; exact Nat.le_refl _
 | p :: ps, fr, acc, fr', acc', h => by
  rcases go_step h with ⟨_, _, h⟩ | ⟨e, _, h⟩
  · exact go_len ps _ _ _ _ h
  · have := go_len ps _ _ _ _ h
    rw [List.length_append, List.length_singleton] at this
    omega
theorem go_shift (pre : List Ev) : ∀ (ps : List (List UInt8)) (fr : Nat) (acc : List Ev) (fr' : Nat) (acc' : List Ev) (f2 : Nat), ps.foldl stepE (.go fr acc) = .go fr' acc' → pre.length + acc'.length ≤ 256 →
 ∃ f3, ps.foldl stepE (.go f2 (pre ++ acc)) = .go f3 (pre ++ acc')
 | [], fr, acc, fr', acc', f2, h, _ => by cases h; exact ⟨f2, rfl⟩
 | p :: ps, fr, acc, fr', acc', f2, h, hl => by
  rw [List.foldl_cons]
  rcases go_step h with ⟨_, q, h⟩ | ⟨e, q, h⟩
  · rw [q]
    exact go_shift pre ps _ _ _ _ _ h hl
  · have := go_len ps _ _ _ _ h
    rw [List.length_append, List.length_singleton] at this
    rw [q _ _ (by rw [List.length_append]; omega), List.append_assoc]
    exact go_shift pre ps _ _ _ _ _ h hl
theorem events_go {s : List UInt8} {l : List Ev} (h : eventsR s = (l, 0, 0)) : ∃ fr, runE (splitL s) = .go fr l := by
 unfold eventsR at h
 split at h
 · cases h
 · have inv := run_inv (splitL s) 0 [] (fun _ h => by cases h) (Nat.zero_le _)
   cases hst : runE (splitL s) with
   | go fr acc =>
    rw [hst] at h
    have h' : (acc, 0, 0) = (l, 0, 0) := h
    cases h'
    exact ⟨fr, rfl⟩
   | stop c a =>
    rw [hst] at h
    have h' : (([] : List Ev), c, a) = (l, 0, 0) := h
    have hi := (inv.2 c a hst).1
    cases h'
    exact absurd rfl hi
theorem lines_pure (s t : List UInt8) (l m : List Ev) (hs : eventsR s = (l, 0, 0)) (ht : eventsR t = (m, 0, 0)) (hlen : s.length + t.length + 4 ≤ 65536) (hn : l.length + m.length ≤ 256) :
 eventsR (s ++ ([10, 32, 9, 10] ++ t)) = (l ++ m, 0, 0) := by
 obtain ⟨f1, h1⟩ := events_go hs
 obtain ⟨f2, h2⟩ := events_go ht
 have hsp : splitL (s ++ ([10, 32, 9, 10] ++ t)) = splitL s ++ ([32, 9] :: splitL t) := by
  have e1 : s ++ ([10, 32, 9, 10] ++ t) = s ++ 10 :: ([32, 9] ++ 10 :: t) := rfl
  rw [e1, splitL_app, splitL_app]
  rfl
 unfold eventsR
 rw [if_neg (by simp; omega), hsp]
 unfold runE at h1 h2 ⊢
 rw [List.foldl_append, h1, List.foldl_cons, stepE, if_pos (by decide)]
 obtain ⟨f3, h3⟩ := go_shift l (splitL t) 0 [] f2 m (f1 + ([32, 9] : List UInt8).length + 1) h2 hn
 rw [List.append_nil] at h3
 rw [h3]
 rfl
end Go.Proofs.YtamcicojockhpaaGreatDoor.Wi
end
section
namespace Go.Proofs.YtamcicojockhpaaGreatDoor.PS
open Go.RowKit Go.Proofs.YtamcicojockhpaaGreatDoorW.PrintWords Go.Proofs.YtamcicojockhpaaGreatDoorW.PrintLast Go.Proofs.YtamcicojockhpaaGreatDoorW.PrintMore
attribute [local go_sem] max2_int min2_int max_two min_two max_three min_three max_four min_four   -- for this text's walks alone
set_option linter.unusedVariables false
set_option linter.unusedSimpArgs false
mutual
def assizeref03_Copy.l0 : Nat → List (S39) → List (S39) → Int → Option ((List (S39)))
 | 0, _, _, _ => none
 | k + 1, x0, x3, x4 => if x4 < (x0.length : Int) then (if 0 ≤ x4 then (assizeref03_Copy.l1 k x0 x3 x4 0 ((rd_T39 x0 x4).f0) ((rd_T39 x0 x4).f1) ([] : List (S43))) else (none)) else (some x3)
def assizeref03_Copy.l1 : Nat → List (S39) → List (S39) → Int → Int → Int → Int → List (S43) → Option ((List (S39)))
 | 0, _, _, _, _, _, _, _ => none
 | k + 1, x0, x3, x4, x6, x120000, x120001, x120002 => if 0 ≤ x4 then (if x4 < (x0.length : Int) then (if x6 < (((rd_T39 x0 x4).f2).length : Int) then (if 0 ≤ x6 then ((some (([] : List Int) : List Int)).bind fun y124 => (if y124.length + ((rd_T43 ((rd_T39 x0 x4).f2) x6).f4).length < 17592186044416 then (if x120002.length < 2199023255552 then (assizeref03_Copy.l1 k x0 x3 x4 (wrap64 (x6 + 1)) x120000 x120001 (x120002 ++ [(⟨(rd_T43 ((rd_T39 x0 x4).f2) x6).f0, (rd_T43 ((rd_T39 x0 x4).f2) x6).f1, (rd_T43 ((rd_T39 x0 x4).f2) x6).f2, (rd_T43 ((rd_T39 x0 x4).f2) x6).f3, (y124 ++ ((rd_T43 ((rd_T39 x0 x4).f2) x6).f4))⟩ : S43)])) else (none)) else (none))) else (none)) else (if x3.length < 3518437208883 then (assizeref03_Copy.l0 k x0 (x3 ++ [(⟨x120000, x120001, x120002⟩ : S39)]) (wrap64 (x4 + 1))) else (none))) else (none)) else (none)
end
def assizeref03_Copy.f (k : Nat) (l0 : List (S39)) : Option ((List (S39))) := assizeref03_Copy.l0 k l0 ([] : List (S39)) 0
def assizeref03_Copy.T5 : Bool × List (List Nat × List Nat) := (true, [([], []), ([], []), ([0, 1], [0, 1]), ([2], [2]), ([3], [3]), ([], []), ([], []), ([5, 6], [5, 6]), ([7], [7]), ([8], [8]), ([4, 9], [4, 9]), ([], []), ([11, 10, 0, 1, 2, 3, 4, 5, 6, 7, 8, 9, 10, 11], [10, 11])])
def assizeref03_Copy.B5 : List Nat := [0, 0, 3, 7, 15, 0, 0, 96, 224, 480, 1023, 0, 4095]
theorem assizeref03_Copy.tab5 : rtab .any (opsOf Tryz.f13 5) = assizeref03_Copy.T5 := by kernel_rfl
theorem assizeref03_Copy.bits5 : waitsOk assizeref03_Copy.T5.2 assizeref03_Copy.B5 = true := by kernel_rfl
set_option maxHeartbeats 8000000 in
set_option maxRecDepth 100000 in
theorem assizeref03_Copy.calls (k : Nat) (A0 : Option Addr) (c0 : Nat) (l0 : List (S39)) (r : List (S39)) (w : World) (hr0 : Kd.C k39 w A0 l0.length l0) (hc0 : l0.length ≤ c0) (h : assizeref03_Copy.f k l0 = some r) :
 Calls Tryz.prog 13 #[.slice A0 l0.length c0] w fun e w' => ∃ v0_ : Value, e = .returned (v0_) ∧ Kd.R k39 39 w' w.heap.size (fun _ => True) v0_ r ∧ Below w.heap.size w w' := by
 have hu39 := Tryz.underlying39
 have hu43 := Tryz.underlying43
 have HR0 := Aside0.mk hr0
 have HC0 := Aside0.mk hc0
 clear hr0 hc0
 have HB := Aside0.mk (Below.refl w.heap.size w)
 have H : (assizeref03_Copy.l0 k l0 ([] : List (S39)) 0) = some r := h
 clear h
 have H' := Aside0.mk H
 clear H
 go_enter Tryz.func13, Tryz.ntmps13
 go_wp2
 go_loopg [3, 4] k (fun kq v3 v4 w' => ∃ (x3_1 : List (S39)) (x4_1 : Int), v4 = .int .i64 x4_1 ∧ Aside0 (assizeref03_Copy.l0 kq l0 x3_1 x4_1 = some r) ∧ Aside0 (kq ≤ k) ∧ Aside0 (Kd.R k39 39 w' w.heap.size (fun _ => True) v3 x3_1) ∧ Aside0 (Below w.heap.size w w'))
 case atStart => exact ⟨(([] : List (S39))), (0), (by first | rfl | (simp; done) | (simp [*]; done)), H', ⟨Nat.le_refl _⟩, ⟨by first | exact Kd.R_nil _ _ _ _ _ | exact Kd.N_nil _ _ _ _ _ | exact Kd.V_nil _ _ _ _ _ | exact Kd.Q_nil _ _ _ _ _ | exact Kd.S_nil _ _ _ _ _⟩, ⟨by repeat (first | (with_reducible first | exact HB.out | apply below_alloc | apply pw_below_drewN | apply below_drew1) | exact HB.out)⟩⟩
 case round =>
  clear H'
  try clear c1
  obtain ⟨x3_1, x4_1, rfl, HA, HK1, HO_3, HB⟩ := hrel
  cases gk with
  | zero => exact absurd HA.out (by simp [assizeref03_Copy.l0])
  | succ k1 =>
   have H := HA.out
   clear HA
   simp only [assizeref03_Copy.l0] at H
   by_cases c2 : x4_1 < (l0.length : Int)
   · rw [if_pos c2] at H
     have c2b0 : decide (x4_1 < (l0.length : Int)) = true := decide_eq_true c2
     clear c2
     by_cases c3 : 0 ≤ x4_1
     · rw [if_pos c3] at H
       have c3b0 : decide (0 ≤ x4_1) = true := decide_eq_true c3
       clear c3
       have H' := Aside0.mk H
       clear H
       try go_wp2
       have n0_ := Aside0.mk (Kd.R_drew HO_3.out)
       have n1_ := Aside0.mk (below_drew1 HB.out)
       clear HO_3
       clear HB
       have HO_3 := n0_
       have HB := n1_
       clear n0_ n1_
       have p117 : 0 ≤ (x4_1 : Int) := of_decide_eq_true (by first | (with_reducible assumption) | assumption)
       have q117 : x4_1 < (l0.length : Int) := of_decide_eq_true (by first | (with_reducible assumption) | assumption)
       obtain ⟨ad117, A117_2, c117_2, e117, hx117_0, hx117_1, hx117_2, hl117_2, hi117_2⟩ := at_T39 HR0.out x4_1 p117 q117
       have hw117_2 := hx117_2
       have hw117_1 := hx117_1
       have hw117_0 := hx117_0
       cases e117
       replace hx117_0 := (HB.out.cell (World.block_lt_of_cell? w _ hx117_0)).trans hx117_0
       replace hx117_1 := (HB.out.cell (World.block_lt_of_cell? w _ hx117_1)).trans hx117_1
       replace hx117_2 := (HB.out.cell (World.block_lt_of_cell? w _ hx117_2)).trans hx117_2
       have HR117_2 := Aside0.mk hi117_2
       have HC117_2 := Aside0.mk hl117_2
       clear hi117_2 hl117_2
       replace p117 := eq_true p117
       replace q117 := eq_true q117
       have p118 : 0 ≤ (x4_1 : Int) := of_decide_eq_true (by first | (with_reducible assumption) | assumption)
       have q118 : x4_1 < (l0.length : Int) := of_decide_eq_true (by first | (with_reducible assumption) | assumption)
       obtain ⟨ad118, A118_2, c118_2, e118, hx118_0, hx118_1, hx118_2, hl118_2, hi118_2⟩ := at_T39 HR0.out x4_1 p118 q118
       have hw118_2 := hx118_2
       have hw118_1 := hx118_1
       have hw118_0 := hx118_0
       obtain rfl : ad117 = ad118 := (by injection e118)
       replace hx118_0 := (HB.out.cell (World.block_lt_of_cell? w _ hx118_0)).trans hx118_0
       replace hx118_1 := (HB.out.cell (World.block_lt_of_cell? w _ hx118_1)).trans hx118_1
       replace hx118_2 := (HB.out.cell (World.block_lt_of_cell? w _ hx118_2)).trans hx118_2
       have HR118_2 := Aside0.mk hi118_2
       have HC118_2 := Aside0.mk hl118_2
       clear hi118_2 hl118_2
       replace p118 := eq_true p118
       replace q118 := eq_true q118
       have ea_ := Option.some.inj (hx117_2.symm.trans hx118_2)
       injection ea_ with ea_ en_ ec_
       subst ea_
       subst ec_
       clear en_
       refine start_ (n := 13) (S := fun w' => w'.cell? (ad117.add ((x4_1).toNat * 3)) = some (.int .i64 ((rd_T39 l0 x4_1).f0)) ∧ w'.cell? ⟨(ad117.add ((x4_1).toNat * 3)).block, (ad117.add ((x4_1).toNat * 3)).off + 1, none⟩ = some (.int .i64 ((rd_T39 l0 x4_1).f1)) ∧ w'.cell? ⟨(ad117.add ((x4_1).toNat * 3)).block, (ad117.add ((x4_1).toNat * 3)).off + 2, none⟩ = some (.slice A117_2 ((rd_T39 l0 x4_1).f2).length c117_2) ∧ w'.cell? (ad117.add ((x4_1).toNat * 3)) = some (.int .i64 ((rd_T39 l0 x4_1).f0)) ∧ w'.cell? ⟨(ad117.add ((x4_1).toNat * 3)).block, (ad117.add ((x4_1).toNat * 3)).off + 1, none⟩ = some (.int .i64 ((rd_T39 l0 x4_1).f1)) ∧ w'.cell? ⟨(ad117.add ((x4_1).toNat * 3)).block, (ad117.add ((x4_1).toNat * 3)).off + 2, none⟩ = some (.slice A117_2 ((rd_T39 l0 x4_1).f2).length c117_2)) (ds := []) #[fF, fF, fF, fF, fF, fF, fF, fF, fF, fF, fF, fF, fF] (by kernel_rfl) rfl rfl ⟨((HB.out.cell (World.block_lt_of_cell? w _ hw117_0)).trans hw117_0), ((HB.out.cell (World.block_lt_of_cell? w _ hw117_1)).trans hw117_1), ((HB.out.cell (World.block_lt_of_cell? w _ hw117_2)).trans hw117_2), ((HB.out.cell (World.block_lt_of_cell? w _ hw118_0)).trans hw118_0), ((HB.out.cell (World.block_lt_of_cell? w _ hw118_1)).trans hw118_1), ((HB.out.cell (World.block_lt_of_cell? w _ hw118_2)).trans hw118_2)⟩ (fun hHeld => ?_); refine with_tabW assizeref03_Copy.tab5 assizeref03_Copy.bits5 (fun HT_ HW_ => ?_)
       generalize wr.drew = w4 at HO_3 HB HR117_2 HR118_2 hx117_0 hx117_1 hx117_2 hx118_0 hx118_1 hx118_2 hHeld ⊢
       refine pure_ (i := 0) (N := some 14) (v := ?_) (a' := ?_) #[tT, fF, fF, fF, fF, fF, fF, fF, fF, fF, fF, fF, fF] rfl rfl (any_of HT_.out (by kernel_rfl)) (fun _ _ _ h => h) (Or.inl ⟨by rfl, ?_⟩) ?_ ?_
       rotate_left
       · intro w'
         go_simp
         with_reducible rfl
       rotate_left
       · simp only [Act.put, sA, sZ, sS, i64_w, i32_w]
         rfl
       refine pure_ (i := 1) (N := some 15) (v := ?_) (a' := ?_) #[tT, tT, fF, fF, fF, fF, fF, fF, fF, fF, fF, fF, fF] rfl rfl (any_of HT_.out (by kernel_rfl)) (fun _ _ _ h => h) (Or.inl ⟨by rfl, ?_⟩) ?_ ?_
       rotate_left
       · intro w'
         go_simp
         with_reducible rfl
       rotate_left
       · simp only [Act.put, sA, sZ, sS, i64_w, i32_w]
         rfl
       refine pure_ (i := 2) (N := some 16) (v := ?_) (a' := ?_) #[tT, tT, tT, fF, fF, fF, fF, fF, fF, fF, fF, fF, fF] rfl rfl (any_of HT_.out (by kernel_rfl)) (fun _ _ _ h => h) (Or.inl ⟨by rfl, ?_⟩) ?_ ?_
       rotate_left
       · intro w'
         go_simp
         with_reducible rfl
       rotate_left
       · simp only [Act.put, sA, sZ, sS, i64_w, i32_w]
         rfl
       refine pure_ (i := 3) (N := some 17) (v := ?_) (a' := ?_) #[tT, tT, tT, tT, fF, fF, fF, fF, fF, fF, fF, fF, fF] rfl rfl (any_of HT_.out (by kernel_rfl)) (fun _ _ _ h => h) (Or.inl ⟨by rfl, ?_⟩) ?_ ?_
       rotate_left
       · intro w'
         go_simp
         with_reducible rfl
       rotate_left
       · simp only [Act.put, sA, sZ, sS, i64_w, i32_w]
         rfl
       refine pure_ (i := 5) (N := some 19) (v := ?_) (a' := ?_) #[tT, tT, tT, tT, fF, tT, fF, fF, fF, fF, fF, fF, fF] rfl rfl (any_of HT_.out (by kernel_rfl)) (fun _ _ _ h => h) (Or.inl ⟨by rfl, ?_⟩) ?_ ?_
       rotate_left
       · intro w'
         go_simp
         with_reducible rfl
       rotate_left
       · simp only [Act.put, sA, sZ, sS, i64_w, i32_w]
         rfl
       refine pure_ (i := 6) (N := some 20) (v := ?_) (a' := ?_) #[tT, tT, tT, tT, fF, tT, tT, fF, fF, fF, fF, fF, fF] rfl rfl (any_of HT_.out (by kernel_rfl)) (fun _ _ _ h => h) (Or.inl ⟨by rfl, ?_⟩) ?_ ?_
       rotate_left
       · intro w'
         go_simp
         with_reducible rfl
       rotate_left
       · simp only [Act.put, sA, sZ, sS, i64_w, i32_w]
         rfl
       refine pure_ (i := 7) (N := some 21) (v := ?_) (a' := ?_) #[tT, tT, tT, tT, fF, tT, tT, tT, fF, fF, fF, fF, fF] rfl rfl (any_of HT_.out (by kernel_rfl)) (fun _ _ _ h => h) (Or.inl ⟨by rfl, ?_⟩) ?_ ?_
       rotate_left
       · intro w'
         go_simp
         with_reducible rfl
       rotate_left
       · simp only [Act.put, sA, sZ, sS, i64_w, i32_w]
         rfl
       refine pure_ (i := 8) (N := some 22) (v := ?_) (a' := ?_) #[tT, tT, tT, tT, fF, tT, tT, tT, tT, fF, fF, fF, fF] rfl rfl (any_of HT_.out (by kernel_rfl)) (fun _ _ _ h => h) (Or.inl ⟨by rfl, ?_⟩) ?_ ?_
       rotate_left
       · intro w'
         go_simp
         with_reducible rfl
       rotate_left
       · simp only [Act.put, sA, sZ, sS, i64_w, i32_w]
         rfl
       refine take_ (i := 4) (N := some 18) (v := ?_) (a' := ?_) #[tT, tT, tT, tT, tT, tT, tT, tT, tT, fF, fF, fF, fF] rfl rfl (take_ofW HT_.out HW_.out (by kernel_rfl)) (fun _ _ _ h => h) (Or.inl ⟨by rfl, ?_⟩) hHeld ?_ ?_
       rotate_left
       · rintro w' ⟨s0, s1, s2, s3, s4, s5⟩
         go_simp
         with_reducible rfl
       rotate_left
       · simp only [Act.put, sA, sZ, sS, i64_w, i32_w]
         rfl
       refine take_ (i := 9) (N := some 23) (v := ?_) (a' := ?_) #[tT, tT, tT, tT, tT, tT, tT, tT, tT, tT, fF, fF, fF] rfl rfl (take_ofW HT_.out HW_.out (by kernel_rfl)) (fun _ _ _ h => h) (Or.inl ⟨by rfl, ?_⟩) hHeld ?_ ?_
       rotate_left
       · rintro w' ⟨s0, s1, s2, s3, s4, s5⟩
         go_simp
         with_reducible rfl
       rotate_left
       · simp only [Act.put, sA, sZ, sS, i64_w, i32_w]
         rfl
       refine pure_ (i := 10) (N := some 24) (v := ?_) (a' := ?_) #[tT, tT, tT, tT, tT, tT, tT, tT, tT, tT, tT, fF, fF] rfl rfl (any_of HT_.out (by kernel_rfl)) (fun _ _ _ h => h) (Or.inl ⟨by rfl, ?_⟩) ?_ ?_
       rotate_left
       · intro w'
         go_simp
         with_reducible rfl
       rotate_left
       · simp only [Act.put, sA, sZ, sS, i64_w, i32_w]
         rfl
       refine one_ (i := 11) (N := some 5) #[tT, tT, tT, tT, tT, tT, tT, tT, tT, tT, tT, tT, fF] rfl rfl (one_of HT_.out (by kernel_rfl)) (by decide) (fun K hK => ?_)
       refine box_step ?hg (N := 5) ?hd (cs := #[.int .i64 0, .int .i64 0, .slice none 0 0]) (t := 39) ?hr ?_; (case hd => rfl); (case hg => rfl); (case hr => first | (go_simp; done) | (go_simp; rfl))
       intro gb119 hg w5 hbox hb
       have n0_ := Aside0.mk (Kd.R_below (Kd.R_elderB (by (with_reducible repeat (first | apply Kd.R_alloc | apply Kd.R_drewN | apply Kd.R_drew)); exact HO_3.out) gb119 (Nat.le_of_eq hg.symm)) hb)
       have n1_ := Aside0.mk (below_step (by repeat (first | (with_reducible first | exact HB.out | apply below_alloc | apply pw_below_drewN | apply below_drew1) | exact HB.out)) hb)
       have n2_ := Aside0.mk (hbox)
       have n3_ := Aside0.mk ((by rw [hg]; exact (below_size (by repeat (first | (with_reducible first | exact HB.out | apply below_alloc | apply pw_below_drewN | apply below_drew1) | exact HB.out))) : w.heap.size ≤ gb119))
       have n4_ := Aside0.mk ((by rw [hg]; exact (below_size (by repeat (first | (with_reducible first | exact HB.out | apply below_alloc | apply pw_below_drewN | apply below_drew1) | exact HB.out))) : w.heap.size ≤ gb119))
       clear HO_3
       clear HB
       have HO_3 := n0_
       have HB := n1_
       have BK119 := n2_
       have GW119 := n3_
       have GE119 := n4_
       clear n0_ n1_ n2_ n3_ n4_
       clear hb hbox hg
       refine hK.out _ _ ⟨((HB.out.cell (World.block_lt_of_cell? w _ hw117_0)).trans hw117_0), ((HB.out.cell (World.block_lt_of_cell? w _ hw117_1)).trans hw117_1), ((HB.out.cell (World.block_lt_of_cell? w _ hw117_2)).trans hw117_2), ((HB.out.cell (World.block_lt_of_cell? w _ hw118_0)).trans hw118_0), ((HB.out.cell (World.block_lt_of_cell? w _ hw118_1)).trans hw118_1), ((HB.out.cell (World.block_lt_of_cell? w _ hw118_2)).trans hw118_2)⟩ (fun hHeld => ?_)
       clear hK K
       refine norm_ (a' := ?_) ?_ ?_
       rotate_left
       · show Act.put _ (some 5) _ = _
         simp only [Act.put, sA, sZ, sS, i64_w, i32_w]
         rfl
       refine one_ (i := 12) (N := none) #[tT, tT, tT, tT, tT, tT, tT, tT, tT, tT, tT, tT, tT] rfl rfl (one_of HT_.out (by kernel_rfl)) (by decide) (fun K hK => ?_)
       have hs6 : w5.cell? ⟨gb119, 0, none⟩ = some (.int .i64 0) := (blk_cell BK119.out 0).trans rfl
       have hfs6 := blk_frozen BK119.out 0
       have hs7 : w5.cell? ⟨gb119, 1, none⟩ = some (.int .i64 0) := (blk_cell BK119.out 1).trans rfl
       have hfs7 := blk_frozen BK119.out 1
       have hs8 : w5.cell? ⟨gb119, 2, none⟩ = some (.slice none 0 0) := (blk_cell BK119.out 2).trans rfl
       have hfs8 := blk_frozen BK119.out 2
       refine skip_ (w1 := ?_) (by rfl) rfl ?_ ?_
       rotate_left
       · go_simp
         rfl
       refine hK.out _ _ ⟨((cell_far (p := ⟨gb119, _, none⟩) (by first | exact Nat.ne_of_lt (Nat.lt_of_lt_of_le (by have := World.block_lt_of_cell? _ _ hw117_0; first | rwa [add_block] at this | exact this) GW119.out) | (rw [add_block]; exact Nat.ne_of_lt (Nat.lt_of_lt_of_le (by have := World.block_lt_of_cell? _ _ hw117_0; first | rwa [add_block] at this | exact this) GW119.out)) | (show (Addr.add _ _).block ≠ _; rw [add_block]; exact Nat.ne_of_lt (Nat.lt_of_lt_of_le (by have := World.block_lt_of_cell? _ _ hw117_0; first | rwa [add_block] at this | exact this) GW119.out)) | (dsimp only; exact Nat.ne_of_lt (Nat.lt_of_lt_of_le (by have := World.block_lt_of_cell? _ _ hw117_0; first | rwa [add_block] at this | exact this) GW119.out))) _).trans (((cell_far (p := ⟨gb119, _, none⟩) (by first | exact Nat.ne_of_lt (Nat.lt_of_lt_of_le (by have := World.block_lt_of_cell? _ _ hw117_0; first | rwa [add_block] at this | exact this) GW119.out) | (rw [add_block]; exact Nat.ne_of_lt (Nat.lt_of_lt_of_le (by have := World.block_lt_of_cell? _ _ hw117_0; first | rwa [add_block] at this | exact this) GW119.out)) | (show (Addr.add _ _).block ≠ _; rw [add_block]; exact Nat.ne_of_lt (Nat.lt_of_lt_of_le (by have := World.block_lt_of_cell? _ _ hw117_0; first | rwa [add_block] at this | exact this) GW119.out)) | (dsimp only; exact Nat.ne_of_lt (Nat.lt_of_lt_of_le (by have := World.block_lt_of_cell? _ _ hw117_0; first | rwa [add_block] at this | exact this) GW119.out))) _).trans (((cell_far (p := ⟨gb119, _, none⟩) (by first | exact Nat.ne_of_lt (Nat.lt_of_lt_of_le (by have := World.block_lt_of_cell? _ _ hw117_0; first | rwa [add_block] at this | exact this) GW119.out) | (rw [add_block]; exact Nat.ne_of_lt (Nat.lt_of_lt_of_le (by have := World.block_lt_of_cell? _ _ hw117_0; first | rwa [add_block] at this | exact this) GW119.out)) | (show (Addr.add _ _).block ≠ _; rw [add_block]; exact Nat.ne_of_lt (Nat.lt_of_lt_of_le (by have := World.block_lt_of_cell? _ _ hw117_0; first | rwa [add_block] at this | exact this) GW119.out)) | (dsimp only; exact Nat.ne_of_lt (Nat.lt_of_lt_of_le (by have := World.block_lt_of_cell? _ _ hw117_0; first | rwa [add_block] at this | exact this) GW119.out))) _).trans (hHeld.1)))))), ((cell_far (p := ⟨gb119, _, none⟩) (by first | exact Nat.ne_of_lt (Nat.lt_of_lt_of_le (by have := World.block_lt_of_cell? _ _ hw117_1; first | rwa [add_block] at this | exact this) GW119.out) | (rw [add_block]; exact Nat.ne_of_lt (Nat.lt_of_lt_of_le (by have := World.block_lt_of_cell? _ _ hw117_1; first | rwa [add_block] at this | exact this) GW119.out)) | (show (Addr.add _ _).block ≠ _; rw [add_block]; exact Nat.ne_of_lt (Nat.lt_of_lt_of_le (by have := World.block_lt_of_cell? _ _ hw117_1; first | rwa [add_block] at this | exact this) GW119.out)) | (dsimp only; exact Nat.ne_of_lt (Nat.lt_of_lt_of_le (by have := World.block_lt_of_cell? _ _ hw117_1; first | rwa [add_block] at this | exact this) GW119.out))) _).trans (((cell_far (p := ⟨gb119, _, none⟩) (by first | exact Nat.ne_of_lt (Nat.lt_of_lt_of_le (by have := World.block_lt_of_cell? _ _ hw117_1; first | rwa [add_block] at this | exact this) GW119.out) | (rw [add_block]; exact Nat.ne_of_lt (Nat.lt_of_lt_of_le (by have := World.block_lt_of_cell? _ _ hw117_1; first | rwa [add_block] at this | exact this) GW119.out)) | (show (Addr.add _ _).block ≠ _; rw [add_block]; exact Nat.ne_of_lt (Nat.lt_of_lt_of_le (by have := World.block_lt_of_cell? _ _ hw117_1; first | rwa [add_block] at this | exact this) GW119.out)) | (dsimp only; exact Nat.ne_of_lt (Nat.lt_of_lt_of_le (by have := World.block_lt_of_cell? _ _ hw117_1; first | rwa [add_block] at this | exact this) GW119.out))) _).trans (((cell_far (p := ⟨gb119, _, none⟩) (by first | exact Nat.ne_of_lt (Nat.lt_of_lt_of_le (by have := World.block_lt_of_cell? _ _ hw117_1; first | rwa [add_block] at this | exact this) GW119.out) | (rw [add_block]; exact Nat.ne_of_lt (Nat.lt_of_lt_of_le (by have := World.block_lt_of_cell? _ _ hw117_1; first | rwa [add_block] at this | exact this) GW119.out)) | (show (Addr.add _ _).block ≠ _; rw [add_block]; exact Nat.ne_of_lt (Nat.lt_of_lt_of_le (by have := World.block_lt_of_cell? _ _ hw117_1; first | rwa [add_block] at this | exact this) GW119.out)) | (dsimp only; exact Nat.ne_of_lt (Nat.lt_of_lt_of_le (by have := World.block_lt_of_cell? _ _ hw117_1; first | rwa [add_block] at this | exact this) GW119.out))) _).trans (hHeld.2.1)))))), ((cell_far (p := ⟨gb119, _, none⟩) (by first | exact Nat.ne_of_lt (Nat.lt_of_lt_of_le (by have := World.block_lt_of_cell? _ _ hw117_2; first | rwa [add_block] at this | exact this) GW119.out) | (rw [add_block]; exact Nat.ne_of_lt (Nat.lt_of_lt_of_le (by have := World.block_lt_of_cell? _ _ hw117_2; first | rwa [add_block] at this | exact this) GW119.out)) | (show (Addr.add _ _).block ≠ _; rw [add_block]; exact Nat.ne_of_lt (Nat.lt_of_lt_of_le (by have := World.block_lt_of_cell? _ _ hw117_2; first | rwa [add_block] at this | exact this) GW119.out)) | (dsimp only; exact Nat.ne_of_lt (Nat.lt_of_lt_of_le (by have := World.block_lt_of_cell? _ _ hw117_2; first | rwa [add_block] at this | exact this) GW119.out))) _).trans (((cell_far (p := ⟨gb119, _, none⟩) (by first | exact Nat.ne_of_lt (Nat.lt_of_lt_of_le (by have := World.block_lt_of_cell? _ _ hw117_2; first | rwa [add_block] at this | exact this) GW119.out) | (rw [add_block]; exact Nat.ne_of_lt (Nat.lt_of_lt_of_le (by have := World.block_lt_of_cell? _ _ hw117_2; first | rwa [add_block] at this | exact this) GW119.out)) | (show (Addr.add _ _).block ≠ _; rw [add_block]; exact Nat.ne_of_lt (Nat.lt_of_lt_of_le (by have := World.block_lt_of_cell? _ _ hw117_2; first | rwa [add_block] at this | exact this) GW119.out)) | (dsimp only; exact Nat.ne_of_lt (Nat.lt_of_lt_of_le (by have := World.block_lt_of_cell? _ _ hw117_2; first | rwa [add_block] at this | exact this) GW119.out))) _).trans (((cell_far (p := ⟨gb119, _, none⟩) (by first | exact Nat.ne_of_lt (Nat.lt_of_lt_of_le (by have := World.block_lt_of_cell? _ _ hw117_2; first | rwa [add_block] at this | exact this) GW119.out) | (rw [add_block]; exact Nat.ne_of_lt (Nat.lt_of_lt_of_le (by have := World.block_lt_of_cell? _ _ hw117_2; first | rwa [add_block] at this | exact this) GW119.out)) | (show (Addr.add _ _).block ≠ _; rw [add_block]; exact Nat.ne_of_lt (Nat.lt_of_lt_of_le (by have := World.block_lt_of_cell? _ _ hw117_2; first | rwa [add_block] at this | exact this) GW119.out)) | (dsimp only; exact Nat.ne_of_lt (Nat.lt_of_lt_of_le (by have := World.block_lt_of_cell? _ _ hw117_2; first | rwa [add_block] at this | exact this) GW119.out))) _).trans (hHeld.2.2.1)))))), ((cell_far (p := ⟨gb119, _, none⟩) (by first | exact Nat.ne_of_lt (Nat.lt_of_lt_of_le (by have := World.block_lt_of_cell? _ _ hw118_0; first | rwa [add_block] at this | exact this) GW119.out) | (rw [add_block]; exact Nat.ne_of_lt (Nat.lt_of_lt_of_le (by have := World.block_lt_of_cell? _ _ hw118_0; first | rwa [add_block] at this | exact this) GW119.out)) | (show (Addr.add _ _).block ≠ _; rw [add_block]; exact Nat.ne_of_lt (Nat.lt_of_lt_of_le (by have := World.block_lt_of_cell? _ _ hw118_0; first | rwa [add_block] at this | exact this) GW119.out)) | (dsimp only; exact Nat.ne_of_lt (Nat.lt_of_lt_of_le (by have := World.block_lt_of_cell? _ _ hw118_0; first | rwa [add_block] at this | exact this) GW119.out))) _).trans (((cell_far (p := ⟨gb119, _, none⟩) (by first | exact Nat.ne_of_lt (Nat.lt_of_lt_of_le (by have := World.block_lt_of_cell? _ _ hw118_0; first | rwa [add_block] at this | exact this) GW119.out) | (rw [add_block]; exact Nat.ne_of_lt (Nat.lt_of_lt_of_le (by have := World.block_lt_of_cell? _ _ hw118_0; first | rwa [add_block] at this | exact this) GW119.out)) | (show (Addr.add _ _).block ≠ _; rw [add_block]; exact Nat.ne_of_lt (Nat.lt_of_lt_of_le (by have := World.block_lt_of_cell? _ _ hw118_0; first | rwa [add_block] at this | exact this) GW119.out)) | (dsimp only; exact Nat.ne_of_lt (Nat.lt_of_lt_of_le (by have := World.block_lt_of_cell? _ _ hw118_0; first | rwa [add_block] at this | exact this) GW119.out))) _).trans (((cell_far (p := ⟨gb119, _, none⟩) (by first | exact Nat.ne_of_lt (Nat.lt_of_lt_of_le (by have := World.block_lt_of_cell? _ _ hw118_0; first | rwa [add_block] at this | exact this) GW119.out) | (rw [add_block]; exact Nat.ne_of_lt (Nat.lt_of_lt_of_le (by have := World.block_lt_of_cell? _ _ hw118_0; first | rwa [add_block] at this | exact this) GW119.out)) | (show (Addr.add _ _).block ≠ _; rw [add_block]; exact Nat.ne_of_lt (Nat.lt_of_lt_of_le (by have := World.block_lt_of_cell? _ _ hw118_0; first | rwa [add_block] at this | exact this) GW119.out)) | (dsimp only; exact Nat.ne_of_lt (Nat.lt_of_lt_of_le (by have := World.block_lt_of_cell? _ _ hw118_0; first | rwa [add_block] at this | exact this) GW119.out))) _).trans (hHeld.2.2.2.1)))))), ((cell_far (p := ⟨gb119, _, none⟩) (by first | exact Nat.ne_of_lt (Nat.lt_of_lt_of_le (by have := World.block_lt_of_cell? _ _ hw118_1; first | rwa [add_block] at this | exact this) GW119.out) | (rw [add_block]; exact Nat.ne_of_lt (Nat.lt_of_lt_of_le (by have := World.block_lt_of_cell? _ _ hw118_1; first | rwa [add_block] at this | exact this) GW119.out)) | (show (Addr.add _ _).block ≠ _; rw [add_block]; exact Nat.ne_of_lt (Nat.lt_of_lt_of_le (by have := World.block_lt_of_cell? _ _ hw118_1; first | rwa [add_block] at this | exact this) GW119.out)) | (dsimp only; exact Nat.ne_of_lt (Nat.lt_of_lt_of_le (by have := World.block_lt_of_cell? _ _ hw118_1; first | rwa [add_block] at this | exact this) GW119.out))) _).trans (((cell_far (p := ⟨gb119, _, none⟩) (by first | exact Nat.ne_of_lt (Nat.lt_of_lt_of_le (by have := World.block_lt_of_cell? _ _ hw118_1; first | rwa [add_block] at this | exact this) GW119.out) | (rw [add_block]; exact Nat.ne_of_lt (Nat.lt_of_lt_of_le (by have := World.block_lt_of_cell? _ _ hw118_1; first | rwa [add_block] at this | exact this) GW119.out)) | (show (Addr.add _ _).block ≠ _; rw [add_block]; exact Nat.ne_of_lt (Nat.lt_of_lt_of_le (by have := World.block_lt_of_cell? _ _ hw118_1; first | rwa [add_block] at this | exact this) GW119.out)) | (dsimp only; exact Nat.ne_of_lt (Nat.lt_of_lt_of_le (by have := World.block_lt_of_cell? _ _ hw118_1; first | rwa [add_block] at this | exact this) GW119.out))) _).trans (((cell_far (p := ⟨gb119, _, none⟩) (by first | exact Nat.ne_of_lt (Nat.lt_of_lt_of_le (by have := World.block_lt_of_cell? _ _ hw118_1; first | rwa [add_block] at this | exact this) GW119.out) | (rw [add_block]; exact Nat.ne_of_lt (Nat.lt_of_lt_of_le (by have := World.block_lt_of_cell? _ _ hw118_1; first | rwa [add_block] at this | exact this) GW119.out)) | (show (Addr.add _ _).block ≠ _; rw [add_block]; exact Nat.ne_of_lt (Nat.lt_of_lt_of_le (by have := World.block_lt_of_cell? _ _ hw118_1; first | rwa [add_block] at this | exact this) GW119.out)) | (dsimp only; exact Nat.ne_of_lt (Nat.lt_of_lt_of_le (by have := World.block_lt_of_cell? _ _ hw118_1; first | rwa [add_block] at this | exact this) GW119.out))) _).trans (hHeld.2.2.2.2.1)))))), ((cell_far (p := ⟨gb119, _, none⟩) (by first | exact Nat.ne_of_lt (Nat.lt_of_lt_of_le (by have := World.block_lt_of_cell? _ _ hw118_2; first | rwa [add_block] at this | exact this) GW119.out) | (rw [add_block]; exact Nat.ne_of_lt (Nat.lt_of_lt_of_le (by have := World.block_lt_of_cell? _ _ hw118_2; first | rwa [add_block] at this | exact this) GW119.out)) | (show (Addr.add _ _).block ≠ _; rw [add_block]; exact Nat.ne_of_lt (Nat.lt_of_lt_of_le (by have := World.block_lt_of_cell? _ _ hw118_2; first | rwa [add_block] at this | exact this) GW119.out)) | (dsimp only; exact Nat.ne_of_lt (Nat.lt_of_lt_of_le (by have := World.block_lt_of_cell? _ _ hw118_2; first | rwa [add_block] at this | exact this) GW119.out))) _).trans (((cell_far (p := ⟨gb119, _, none⟩) (by first | exact Nat.ne_of_lt (Nat.lt_of_lt_of_le (by have := World.block_lt_of_cell? _ _ hw118_2; first | rwa [add_block] at this | exact this) GW119.out) | (rw [add_block]; exact Nat.ne_of_lt (Nat.lt_of_lt_of_le (by have := World.block_lt_of_cell? _ _ hw118_2; first | rwa [add_block] at this | exact this) GW119.out)) | (show (Addr.add _ _).block ≠ _; rw [add_block]; exact Nat.ne_of_lt (Nat.lt_of_lt_of_le (by have := World.block_lt_of_cell? _ _ hw118_2; first | rwa [add_block] at this | exact this) GW119.out)) | (dsimp only; exact Nat.ne_of_lt (Nat.lt_of_lt_of_le (by have := World.block_lt_of_cell? _ _ hw118_2; first | rwa [add_block] at this | exact this) GW119.out))) _).trans (((cell_far (p := ⟨gb119, _, none⟩) (by first | exact Nat.ne_of_lt (Nat.lt_of_lt_of_le (by have := World.block_lt_of_cell? _ _ hw118_2; first | rwa [add_block] at this | exact this) GW119.out) | (rw [add_block]; exact Nat.ne_of_lt (Nat.lt_of_lt_of_le (by have := World.block_lt_of_cell? _ _ hw118_2; first | rwa [add_block] at this | exact this) GW119.out)) | (show (Addr.add _ _).block ≠ _; rw [add_block]; exact Nat.ne_of_lt (Nat.lt_of_lt_of_le (by have := World.block_lt_of_cell? _ _ hw118_2; first | rwa [add_block] at this | exact this) GW119.out)) | (dsimp only; exact Nat.ne_of_lt (Nat.lt_of_lt_of_le (by have := World.block_lt_of_cell? _ _ hw118_2; first | rwa [add_block] at this | exact this) GW119.out))) _).trans (hHeld.2.2.2.2.2))))))⟩ (fun hHeld => ?_)
       clear hK K
       refine done_ (done_of HT_.out (by kernel_rfl)) ?_
       try go_wp2
       go_loopg [6] k1 (fun kq v6 w' => ∃ (x6_2 : Int) (x120002_2 : List (S43)) (u120002 : Value), v6 = .int .i64 x6_2 ∧ Aside0 (assizeref03_Copy.l1 kq l0 x3_1 x4_1 x6_2 ((rd_T39 l0 x4_1).f0) ((rd_T39 l0 x4_1).f1) x120002_2 = some r) ∧ Aside0 (kq ≤ k1) ∧ Aside0 (Kd.R k39 39 w' w.heap.size (fun k_ => some k_ ≠ (u120002 : Value).ownBlock ∧ k_ ≠ gb119) u3 x3_1) ∧ Aside0 (Kd.S k43 43 w' w.heap.size (fun _ => True) u120002 x120002_2) ∧ Aside0 (w'.heap[gb119]? = some (.cells #[.int .i64 ((rd_T39 l0 x4_1).f0), .int .i64 ((rd_T39 l0 x4_1).f1), u120002] 39 (0, 0))) ∧ Aside0 (Below w.heap.size w w'))
       case atStart => exact ⟨(0), (([] : List (S43))), (.slice none 0 0), (by first | rfl | (simp; done) | (simp [*]; done)), H', ⟨Nat.le_refl _⟩, ⟨by (with_reducible repeat (first | apply Kd.R_alloc | apply Kd.R_drewN | apply Kd.R_drew)); exact Kd.R_mono (Kd.R_far (p := ⟨gb119, 2, none⟩) (Kd.R_far (p := ⟨gb119, 1, none⟩) (Kd.R_far (p := ⟨gb119, 0, none⟩) (Kd.R_mono HO_3.out (fun k_ hk => (⟨hk, hk.2⟩ : _ ∧ k_ ≠ gb119))) (fun _ hk => hk.2) (.int .i64 ((rd_T39 l0 x4_1).f0))) (fun _ hk => hk.2) (.int .i64 ((rd_T39 l0 x4_1).f1))) (fun _ hk => hk.2) (.slice none 0 0)) (fun _ hk => ⟨(by simp [Value.ownBlock]), hk.1.2⟩)⟩, ⟨by first | exact Kd.S_nil _ _ _ _ _ | exact Kd.N_nil _ _ _ _ _ | exact Kd.V_nil _ _ _ _ _ | exact Kd.Q_nil _ _ _ _ _ | exact Kd.R_nil _ _ _ _ _⟩, ⟨by (with_reducible repeat (first | refine blk_drewN ?_ _ | refine blk_drew ?_ | refine blk_alloc ?_ _)); refine blk_put (cs := #[.int .i64 ((rd_T39 l0 x4_1).f0), .int .i64 ((rd_T39 l0 x4_1).f1), .slice none 0 0]) ?_ 2 _ rfl; (with_reducible repeat (first | refine blk_drewN ?_ _ | refine blk_drew ?_ | refine blk_alloc ?_ _)); refine blk_put (cs := #[.int .i64 ((rd_T39 l0 x4_1).f0), .int .i64 0, .slice none 0 0]) ?_ 1 _ rfl; (with_reducible repeat (first | refine blk_drewN ?_ _ | refine blk_drew ?_ | refine blk_alloc ?_ _)); refine blk_put (cs := #[.int .i64 0, .int .i64 0, .slice none 0 0]) ?_ 0 _ rfl; (with_reducible repeat (first | refine blk_drewN ?_ _ | refine blk_drew ?_ | refine blk_alloc ?_ _)); exact BK119.out⟩, ⟨by repeat (first | (with_reducible first | exact HB.out | apply below_alloc | apply pw_below_drewN | apply below_drew1 | refine below_set ?_ GE119.out) | exact HB.out)⟩⟩
       case round =>
        clear H'
        try clear c1
        try clear p1
        try clear q1
        try clear hx1
        try clear c2
        try clear c2b0
        try clear p2
        try clear c3
        try clear c3b0
        try clear hx117_0
        try clear hx117_1
        try clear hx117_2
        try clear hx118_0
        try clear hx118_1
        try clear hx118_2
        try clear p117
        try clear p118
        try clear q117
        try clear q118
        obtain ⟨x6_2, x120002_2, u120002, rfl, HA, HK2, HO_3, HO_120002, BK119, HB⟩ := hrel
        cases gk with
        | zero => exact absurd HA.out (by simp [assizeref03_Copy.l1])
        | succ k2 =>
         have H := HA.out
         clear HA
         simp only [assizeref03_Copy.l1] at H
         by_cases c9 : 0 ≤ x4_1
         · rw [if_pos c9] at H
           have c9b0 : decide (0 ≤ x4_1) = true := decide_eq_true c9
           clear c9
           by_cases c10 : x4_1 < (l0.length : Int)
           · rw [if_pos c10] at H
             have c10b0 : decide (x4_1 < (l0.length : Int)) = true := decide_eq_true c10
             clear c10
             by_cases c11 : x6_2 < (((rd_T39 l0 x4_1).f2).length : Int)
             · rw [if_pos c11] at H
               have c11b0 : decide (x6_2 < (((rd_T39 l0 x4_1).f2).length : Int)) = true := decide_eq_true c11
               clear c11
               by_cases c12 : 0 ≤ x6_2
               · rw [if_pos c12] at H
                 have c12b0 : decide (0 ≤ x6_2) = true := decide_eq_true c12
                 clear c12
                 obtain ⟨y124, hy124⟩ : ∃ y_ : List Int, y_ = (([] : List Int)) := ⟨_, rfl⟩
                 replace H : (if y124.length + ((rd_T43 ((rd_T39 l0 x4_1).f2) x6_2).f4).length < 17592186044416 then (if x120002_2.length < 2199023255552 then (assizeref03_Copy.l1 k2 l0 x3_1 x4_1 (wrap64 (x6_2 + 1)) ((rd_T39 l0 x4_1).f0) ((rd_T39 l0 x4_1).f1) (x120002_2 ++ [(⟨(rd_T43 ((rd_T39 l0 x4_1).f2) x6_2).f0, (rd_T43 ((rd_T39 l0 x4_1).f2) x6_2).f1, (rd_T43 ((rd_T39 l0 x4_1).f2) x6_2).f2, (rd_T43 ((rd_T39 l0 x4_1).f2) x6_2).f3, (y124 ++ ((rd_T43 ((rd_T39 l0 x4_1).f2) x6_2).f4))⟩ : S43)])) else (none)) else (none)) = some r := by first | (rw [hy124]; with_reducible exact H) | (have H2_ := (Option.bind_some _ _).symm.trans H; rw [hy124]; with_reducible exact H2_) | (have H2_ := (Option.bind_some _ _).symm.trans H; with_reducible exact H2_) | with_reducible exact H | (rw [hy124]; exact H) | exact H
                 have Ny124 := Aside0.mk hy124
                 clear hy124
                 by_cases c13 : y124.length + ((rd_T43 ((rd_T39 l0 x4_1).f2) x6_2).f4).length < 17592186044416
                 · rw [if_pos c13] at H
                   have LMc13 := Aside0.mk c13
                   clear c13
                   obtain ⟨y127, hy127⟩ : ∃ y_ : List Int, y_ = (y124 ++ ((rd_T43 ((rd_T39 l0 x4_1).f2) x6_2).f4)) := ⟨_, rfl⟩
                   replace H : (if x120002_2.length < 2199023255552 then (assizeref03_Copy.l1 k2 l0 x3_1 x4_1 (wrap64 (x6_2 + 1)) ((rd_T39 l0 x4_1).f0) ((rd_T39 l0 x4_1).f1) (x120002_2 ++ [(⟨(rd_T43 ((rd_T39 l0 x4_1).f2) x6_2).f0, (rd_T43 ((rd_T39 l0 x4_1).f2) x6_2).f1, (rd_T43 ((rd_T39 l0 x4_1).f2) x6_2).f2, (rd_T43 ((rd_T39 l0 x4_1).f2) x6_2).f3, y127⟩ : S43)])) else (none)) = some r := by first | (rw [hy127]; with_reducible exact H) | (have H2_ := (Option.bind_some _ _).symm.trans H; rw [hy127]; with_reducible exact H2_) | (have H2_ := (Option.bind_some _ _).symm.trans H; with_reducible exact H2_) | with_reducible exact H | (rw [hy127]; exact H) | exact H
                   have Ny127 := Aside0.mk hy127
                   clear hy127
                   by_cases c14 : x120002_2.length < 2199023255552
                   · rw [if_pos c14] at H
                     have LMc14 := Aside0.mk c14
                     clear c14
                     obtain ⟨y130, hy130⟩ : ∃ y_ : List (S43), y_ = (x120002_2 ++ [(⟨(rd_T43 ((rd_T39 l0 x4_1).f2) x6_2).f0, (rd_T43 ((rd_T39 l0 x4_1).f2) x6_2).f1, (rd_T43 ((rd_T39 l0 x4_1).f2) x6_2).f2, (rd_T43 ((rd_T39 l0 x4_1).f2) x6_2).f3, y127⟩ : S43)]) := ⟨_, rfl⟩
                     replace H : (assizeref03_Copy.l1 k2 l0 x3_1 x4_1 (wrap64 (x6_2 + 1)) ((rd_T39 l0 x4_1).f0) ((rd_T39 l0 x4_1).f1) y130) = some r := by first | (rw [hy130]; with_reducible exact H) | (have H2_ := (Option.bind_some _ _).symm.trans H; rw [hy130]; with_reducible exact H2_) | (have H2_ := (Option.bind_some _ _).symm.trans H; with_reducible exact H2_) | with_reducible exact H | (rw [hy130]; exact H) | exact H
                     have Ny130 := Aside0.mk hy130
                     clear hy130
                     have H' := Aside0.mk H
                     clear H
                     have p120 : 0 ≤ (x4_1 : Int) := of_decide_eq_true (by first | (with_reducible assumption) | assumption)
                     have q120 : x4_1 < (l0.length : Int) := of_decide_eq_true (by first | (with_reducible assumption) | assumption)
                     obtain ⟨ad120, A120_2, c120_2, e120, hx120_0, hx120_1, hx120_2, hl120_2, hi120_2⟩ := at_T39 HR0.out x4_1 p120 q120
                     obtain rfl : ad117 = ad120 := (by injection e120)
                     replace hx120_0 := (HB.out.cell (World.block_lt_of_cell? w _ hx120_0)).trans hx120_0
                     replace hx120_1 := (HB.out.cell (World.block_lt_of_cell? w _ hx120_1)).trans hx120_1
                     replace hx120_2 := (HB.out.cell (World.block_lt_of_cell? w _ hx120_2)).trans hx120_2
                     have HR120_2 := Aside0.mk hi120_2
                     have HC120_2 := Aside0.mk hl120_2
                     clear hi120_2 hl120_2
                     replace p120 := eq_true p120
                     replace q120 := eq_true q120
                     have p121 : 0 ≤ (x4_1 : Int) := of_decide_eq_true (by first | (with_reducible assumption) | assumption)
                     have q121 : x4_1 < (l0.length : Int) := of_decide_eq_true (by first | (with_reducible assumption) | assumption)
                     obtain ⟨ad121, A121_2, c121_2, e121, hx121_0, hx121_1, hx121_2, hl121_2, hi121_2⟩ := at_T39 HR0.out x4_1 p121 q121
                     obtain rfl : ad117 = ad121 := (by injection e121)
                     replace hx121_0 := (HB.out.cell (World.block_lt_of_cell? w _ hx121_0)).trans hx121_0
                     replace hx121_1 := (HB.out.cell (World.block_lt_of_cell? w _ hx121_1)).trans hx121_1
                     replace hx121_2 := (HB.out.cell (World.block_lt_of_cell? w _ hx121_2)).trans hx121_2
                     have HR121_2 := Aside0.mk hi121_2
                     have HC121_2 := Aside0.mk hl121_2
                     clear hi121_2 hl121_2
                     replace p121 := eq_true p121
                     replace q121 := eq_true q121
                     have ea_ := Option.some.inj (hx120_2.symm.trans hx121_2)
                     injection ea_ with ea_ en_ ec_
                     subst ea_
                     subst ec_
                     clear en_
                     have p122 : 0 ≤ (x6_2 : Int) := of_decide_eq_true (by first | (with_reducible assumption) | assumption)
                     have q122 : x6_2 < (((rd_T39 l0 x4_1).f2).length : Int) := of_decide_eq_true (by first | (with_reducible assumption) | assumption)
                     obtain ⟨ad122, A122_4, c122_4, e122, hx122_0, hx122_1, hx122_2, hx122_3, hx122_4, hl122_4, hi122_4⟩ := at_T43 HR121_2.out x6_2 p122 q122
                     cases e122
                     replace hx122_0 := (HB.out.cell (World.block_lt_of_cell? w _ hx122_0)).trans hx122_0
                     replace hx122_1 := (HB.out.cell (World.block_lt_of_cell? w _ hx122_1)).trans hx122_1
                     replace hx122_2 := (HB.out.cell (World.block_lt_of_cell? w _ hx122_2)).trans hx122_2
                     replace hx122_3 := (HB.out.cell (World.block_lt_of_cell? w _ hx122_3)).trans hx122_3
                     replace hx122_4 := (HB.out.cell (World.block_lt_of_cell? w _ hx122_4)).trans hx122_4
                     have HR122_4 := Aside0.mk hi122_4
                     have HC122_4 := Aside0.mk hl122_4
                     clear hi122_4 hl122_4
                     replace p122 := eq_true p122
                     replace q122 := eq_true q122
                     go_wp2_with (first | ((with_reducible refine gate_dst (N := 7) rfl ?_); refine box_event ?hg (N := 7) ?hd (cs := #[.int .i64 0, .string (⟨#[]⟩ : ByteArray), .int .i64 0, .bool false, .slice none 0 0]) (t := 43) ?hr ?_; (case hd => rfl); (case hg => rfl); (case hr => first | (go_simp; done) | (go_simp; rfl)); intro gb123 hg w15 hbox hb; have n0_ := Aside0.mk (Kd.R_below (Kd.R_elderB (by (with_reducible repeat (first | apply Kd.R_alloc | apply Kd.R_drewN | apply Kd.R_drew)); exact HO_3.out) gb123 (Nat.le_of_eq hg.symm)) hb); have n1_ := Aside0.mk (Kd.S_below (Kd.S_elderB (by (with_reducible repeat (first | apply Kd.S_alloc | apply Kd.S_drewN | apply Kd.S_drew)); exact HO_120002.out) gb123 (Nat.le_of_eq hg.symm)) hb); have n2_ := Aside0.mk (blk_below (g := gb119) (o := .cells #[.int .i64 ((rd_T39 l0 x4_1).f0), .int .i64 ((rd_T39 l0 x4_1).f1), u120002] 39 (0, 0)) (by (with_reducible repeat (first | refine blk_drewN ?_ _ | refine blk_drew ?_ | refine blk_alloc ?_ _)); exact BK119.out) hb); have n3_ := Aside0.mk (below_step (by repeat (first | (with_reducible first | exact HB.out | apply below_alloc | apply pw_below_drewN | apply below_drew1 | refine below_set ?_ GE119.out) | exact HB.out)) hb); have n4_ := Aside0.mk (hbox); have n5_ := Aside0.mk ((by rw [hg]; exact (below_size (by repeat (first | (with_reducible first | exact HB.out | apply below_alloc | apply pw_below_drewN | apply below_drew1 | refine below_set ?_ GE119.out) | exact HB.out))) : w.heap.size ≤ gb123)); have n6_ := Aside0.mk ((by rw [hg]; exact (below_size (by repeat (first | (with_reducible first | exact HB.out | apply below_alloc | apply pw_below_drewN | apply below_drew1 | refine below_set ?_ GE119.out) | exact HB.out))) : w.heap.size ≤ gb123)); have n7_ := Aside0.mk ((by rw [hg]; exact Nat.ne_of_lt (blk_lt (g := gb119) (o := .cells #[.int .i64 ((rd_T39 l0 x4_1).f0), .int .i64 ((rd_T39 l0 x4_1).f1), u120002] 39 (0, 0)) (by (with_reducible repeat (first | refine blk_drewN ?_ _ | refine blk_drew ?_ | refine blk_alloc ?_ _)); exact BK119.out)) : gb119 ≠ gb123)); have n8_ := Aside0.mk ((by rw [hg]; exact Nat.ne_of_gt (blk_lt (g := gb119) (o := .cells #[.int .i64 ((rd_T39 l0 x4_1).f0), .int .i64 ((rd_T39 l0 x4_1).f1), u120002] 39 (0, 0)) (by (with_reducible repeat (first | refine blk_drewN ?_ _ | refine blk_drew ?_ | refine blk_alloc ?_ _)); exact BK119.out)) : gb123 ≠ gb119)); clear HO_3; clear HO_120002; clear BK119; clear HB; have HO_3 := n0_; have HO_120002 := n1_; have BK119 := n2_; have HB := n3_; have BK123 := n4_; have GW123 := n5_; have GE123 := n6_; have NB119_123 := n7_; have NB123_119 := n8_; clear n0_ n1_ n2_ n3_ n4_ n5_ n6_ n7_ n8_; clear hb hbox hg; have hnb16 := NB123_119.out; have hnc16 := NB119_123.out; have hcz17_0 : w15.cell? ⟨gb123, 0, none⟩ = some (.int .i64 0) := (blk_cell BK123.out 0).trans rfl; have hcz17_1 : w15.cell? ⟨gb123, 1, none⟩ = some (.string (⟨#[]⟩ : ByteArray)) := (blk_cell BK123.out 1).trans rfl; have hcz17_2 : w15.cell? ⟨gb123, 2, none⟩ = some (.int .i64 0) := (blk_cell BK123.out 2).trans rfl; have hcz17_3 : w15.cell? ⟨gb123, 3, none⟩ = some (.bool false) := (blk_cell BK123.out 3).trans rfl; have hcz17_4 : w15.cell? ⟨gb123, 4, none⟩ = some (.slice none 0 0) := (blk_cell BK123.out 4).trans rfl; have hfz17_0 := blk_frozen BK123.out 0; have hfz17_1 := blk_frozen BK123.out 1; have hfz17_2 := blk_frozen BK123.out 2; have hfz17_3 := blk_frozen BK123.out 3; have hfz17_4 := blk_frozen BK123.out 4) | ((with_reducible refine gate_dst (N := 43) rfl ?_); refine Kd.R_lit (Kd.int .i64) _ 2 ?hg (N := 43) ?hd (xs := ([] : List Int)) (inner := []) (ok := fun _ => True) (okp := fun _ => True) ?hr ?hp (fun _ hk => hk) trivial (Below.refl _ _) (Nat.le_refl _) (by simp) ?_; (case hd => rfl); (case hg => rfl); (case hr => first | (go_simp; done) | (go_simp; rfl)); (case hp => exact (Reps.none _ _)); intro v125 w18 ho19 hb hg_ hnew_; clear hg_ hnew_; (first | rw [← Ny124.out] at ho19 | (simp only [Int.reduceToNat] at ho19; rw [← Ny124.out] at ho19)); have n0_ := Aside0.mk (Kd.R_elder' (by (with_reducible repeat (first | apply Kd.R_alloc | apply Kd.R_drewN | apply Kd.R_drew)); exact (Kd.R_mono (Kd.R_far (p := ⟨gb123, 4, none⟩) (Kd.R_far (p := ⟨gb123, 3, none⟩) (Kd.R_far (p := ⟨gb123, 2, none⟩) (Kd.R_far (p := ⟨gb123, 1, none⟩) (Kd.R_far (p := ⟨gb123, 0, none⟩) (Kd.R_mono HO_3.out (fun k_ hk => (⟨hk, hk.2⟩ : _ ∧ k_ ≠ gb123))) (fun _ hk => hk.2) (.int .i64 ((rd_T43 ((rd_T39 l0 x4_1).f2) x6_2).f0))) (fun _ hk => hk.2) (.string ((rd_T43 ((rd_T39 l0 x4_1).f2) x6_2).f1))) (fun _ hk => hk.2) (.int .i64 ((rd_T43 ((rd_T39 l0 x4_1).f2) x6_2).f2))) (fun _ hk => hk.2) (.bool ((rd_T43 ((rd_T39 l0 x4_1).f2) x6_2).f3))) (fun _ hk => hk.2) (.slice A122_4 ((rd_T43 ((rd_T39 l0 x4_1).f2) x6_2).f4).length c122_4)) (fun _ h_ => h_.1))) (Kd.R_base ho19) hb); have n1_ := Aside0.mk (Kd.S_elder' (by (with_reducible repeat (first | apply Kd.S_alloc | apply Kd.S_drewN | apply Kd.S_drew)); exact (Kd.S_mono (Kd.S_far (p := ⟨gb123, 4, none⟩) (Kd.S_far (p := ⟨gb123, 3, none⟩) (Kd.S_far (p := ⟨gb123, 2, none⟩) (Kd.S_far (p := ⟨gb123, 1, none⟩) (Kd.S_far (p := ⟨gb123, 0, none⟩) (Kd.S_mono HO_120002.out (fun k_ hk => (⟨hk, hk.2⟩ : _ ∧ k_ ≠ gb123))) (fun _ hk => hk.2) (.int .i64 ((rd_T43 ((rd_T39 l0 x4_1).f2) x6_2).f0))) (fun _ hk => hk.2) (.string ((rd_T43 ((rd_T39 l0 x4_1).f2) x6_2).f1))) (fun _ hk => hk.2) (.int .i64 ((rd_T43 ((rd_T39 l0 x4_1).f2) x6_2).f2))) (fun _ hk => hk.2) (.bool ((rd_T43 ((rd_T39 l0 x4_1).f2) x6_2).f3))) (fun _ hk => hk.2) (.slice A122_4 ((rd_T43 ((rd_T39 l0 x4_1).f2) x6_2).f4).length c122_4)) (fun _ h_ => h_.1))) (Kd.R_base ho19) hb); have n2_ := Aside0.mk (Kd.R_lower ho19 (below_size (by repeat (first | (with_reducible first | exact HB.out | apply below_alloc | apply pw_below_drewN | apply below_drew1 | refine below_set ?_ GE119.out | refine below_set ?_ GE123.out) | exact HB.out)))); have n3_ := Aside0.mk (blk_below (g := gb119) (o := .cells #[.int .i64 ((rd_T39 l0 x4_1).f0), .int .i64 ((rd_T39 l0 x4_1).f1), u120002] 39 (0, 0)) (by (with_reducible repeat (first | refine blk_drewN ?_ _ | refine blk_drew ?_ | refine blk_alloc ?_ _)); refine blk_far ?_ NB119_123.out _; (with_reducible repeat (first | refine blk_drewN ?_ _ | refine blk_drew ?_ | refine blk_alloc ?_ _)); refine blk_far ?_ NB119_123.out _; (with_reducible repeat (first | refine blk_drewN ?_ _ | refine blk_drew ?_ | refine blk_alloc ?_ _)); refine blk_far ?_ NB119_123.out _; (with_reducible repeat (first | refine blk_drewN ?_ _ | refine blk_drew ?_ | refine blk_alloc ?_ _)); refine blk_far ?_ NB119_123.out _; (with_reducible repeat (first | refine blk_drewN ?_ _ | refine blk_drew ?_ | refine blk_alloc ?_ _)); refine blk_far ?_ NB119_123.out _; (with_reducible repeat (first | refine blk_drewN ?_ _ | refine blk_drew ?_ | refine blk_alloc ?_ _)); exact BK119.out) hb); have n4_ := Aside0.mk (blk_below (g := gb123) (o := .cells #[.int .i64 ((rd_T43 ((rd_T39 l0 x4_1).f2) x6_2).f0), .string ((rd_T43 ((rd_T39 l0 x4_1).f2) x6_2).f1), .int .i64 ((rd_T43 ((rd_T39 l0 x4_1).f2) x6_2).f2), .bool ((rd_T43 ((rd_T39 l0 x4_1).f2) x6_2).f3), .slice A122_4 ((rd_T43 ((rd_T39 l0 x4_1).f2) x6_2).f4).length c122_4] 43 (0, 0)) (by (with_reducible repeat (first | refine blk_drewN ?_ _ | refine blk_drew ?_ | refine blk_alloc ?_ _)); refine blk_put (cs := #[.int .i64 ((rd_T43 ((rd_T39 l0 x4_1).f2) x6_2).f0), .string ((rd_T43 ((rd_T39 l0 x4_1).f2) x6_2).f1), .int .i64 ((rd_T43 ((rd_T39 l0 x4_1).f2) x6_2).f2), .bool ((rd_T43 ((rd_T39 l0 x4_1).f2) x6_2).f3), .slice none 0 0]) ?_ 4 _ rfl; (with_reducible repeat (first | refine blk_drewN ?_ _ | refine blk_drew ?_ | refine blk_alloc ?_ _)); refine blk_put (cs := #[.int .i64 ((rd_T43 ((rd_T39 l0 x4_1).f2) x6_2).f0), .string ((rd_T43 ((rd_T39 l0 x4_1).f2) x6_2).f1), .int .i64 ((rd_T43 ((rd_T39 l0 x4_1).f2) x6_2).f2), .bool false, .slice none 0 0]) ?_ 3 _ rfl; (with_reducible repeat (first | refine blk_drewN ?_ _ | refine blk_drew ?_ | refine blk_alloc ?_ _)); refine blk_put (cs := #[.int .i64 ((rd_T43 ((rd_T39 l0 x4_1).f2) x6_2).f0), .string ((rd_T43 ((rd_T39 l0 x4_1).f2) x6_2).f1), .int .i64 0, .bool false, .slice none 0 0]) ?_ 2 _ rfl; (with_reducible repeat (first | refine blk_drewN ?_ _ | refine blk_drew ?_ | refine blk_alloc ?_ _)); refine blk_put (cs := #[.int .i64 ((rd_T43 ((rd_T39 l0 x4_1).f2) x6_2).f0), .string (⟨#[]⟩ : ByteArray), .int .i64 0, .bool false, .slice none 0 0]) ?_ 1 _ rfl; (with_reducible repeat (first | refine blk_drewN ?_ _ | refine blk_drew ?_ | refine blk_alloc ?_ _)); refine blk_put (cs := #[.int .i64 0, .string (⟨#[]⟩ : ByteArray), .int .i64 0, .bool false, .slice none 0 0]) ?_ 0 _ rfl; (with_reducible repeat (first | refine blk_drewN ?_ _ | refine blk_drew ?_ | refine blk_alloc ?_ _)); exact BK123.out) hb); have n5_ := Aside0.mk (below_step (by repeat (first | (with_reducible first | exact HB.out | apply below_alloc | apply pw_below_drewN | apply below_drew1 | refine below_set ?_ GE119.out | refine below_set ?_ GE123.out) | exact HB.out)) hb); clear HO_3; clear HO_120002; clear BK119; clear BK123; clear HB; have HO_3 := n0_; have HO_120002 := n1_; have HO126 := n2_; have BK119 := n3_; have BK123 := n4_; have HB := n5_; clear n0_ n1_ n2_ n3_ n4_ n5_; clear hb ho19; have hcz20_0 : w18.cell? ⟨gb123, 0, none⟩ = some (.int .i64 ((rd_T43 ((rd_T39 l0 x4_1).f2) x6_2).f0)) := (blk_cell BK123.out 0).trans rfl; have hcz20_1 : w18.cell? ⟨gb123, 1, none⟩ = some (.string ((rd_T43 ((rd_T39 l0 x4_1).f2) x6_2).f1)) := (blk_cell BK123.out 1).trans rfl; have hcz20_2 : w18.cell? ⟨gb123, 2, none⟩ = some (.int .i64 ((rd_T43 ((rd_T39 l0 x4_1).f2) x6_2).f2)) := (blk_cell BK123.out 2).trans rfl; have hcz20_3 : w18.cell? ⟨gb123, 3, none⟩ = some (.bool ((rd_T43 ((rd_T39 l0 x4_1).f2) x6_2).f3)) := (blk_cell BK123.out 3).trans rfl; have hcz20_4 : w18.cell? ⟨gb123, 4, none⟩ = some (.slice A122_4 ((rd_T43 ((rd_T39 l0 x4_1).f2) x6_2).f4).length c122_4) := (blk_cell BK123.out 4).trans rfl; have hfz20_0 := blk_frozen BK123.out 0; have hfz20_1 := blk_frozen BK123.out 1; have hfz20_2 := blk_frozen BK123.out 2; have hfz20_3 := blk_frozen BK123.out 3; have hfz20_4 := blk_frozen BK123.out 4) | ((with_reducible refine gate_builtin (b := .append) (xs := #[.tmp 43, .tmp 45]) rfl ?_); at_builtin; refine Kd.R_append_rows (Kd.int .i64) (w0 := w) w.heap.size rfl (.tmp 43) (.tmp 45) 41 2 (.int .i64 0) 8 rfl Tryz.underlying41 info2 rfl (by decide) (by omega) v125 y124 ((rd_T43 ((rd_T39 l0 x4_1).f2) x6_2).f4) _ _ _ (fun _ => True) (fun _ => False) rfl rfl ?aO ?aR (fun _ _ h => h) (fun _ h => h.elim) ?aF ?aB ?aS ?aL ?_; (case aR => repeat (first | exact (Kd.C_below HR122_4.out HB.out) | (with_reducible refine Kd.C_alloc ?_ _) | (with_reducible refine Kd.C_drewN ?_ _) | (with_reducible refine Kd.C_drew ?_))); (case aB => exact (by repeat (first | (with_reducible first | exact HB.out | apply below_alloc | apply pw_below_drewN | apply below_drew1 | refine below_set ?_ GE119.out | refine below_set ?_ GE123.out) | exact HB.out))); (case aF => exact (fun _ _ => trivial)); (case aO => exact (by (with_reducible repeat (first | apply Kd.R_alloc | apply Kd.R_drewN | apply Kd.R_drew)); exact HO126.out)); (case aS => exact (below_size (by repeat (first | (with_reducible first | exact HB.out | apply below_alloc | apply pw_below_drewN | apply below_drew1 | refine below_set ?_ GE119.out | refine below_set ?_ GE123.out) | exact HB.out)))); (case aL => have := LMc13.out; omega); intro v128 w21 ho hb hg hat; rw [← Ny127.out] at ho; have n0_ := Aside0.mk (Kd.R_after (ok := (fun k_ => some k_ ≠ (u120002 : Value).ownBlock ∧ k_ ≠ gb119 ∧ k_ ≠ gb123)) (by (with_reducible repeat (first | apply Kd.R_alloc | apply Kd.R_drewN | apply Kd.R_drew)); exact Kd.R_mono HO_3.out (fun _ hk => ⟨⟨hk.1.1.1, ⟨hk.1.1.2, hk.1.2⟩⟩, hk.2⟩)) hg hat); have n1_ := Aside0.mk (Kd.S_after (ok := (fun k_ => k_ ≠ gb123)) (by (with_reducible repeat (first | apply Kd.S_alloc | apply Kd.S_drewN | apply Kd.S_drew)); exact Kd.S_mono HO_120002.out (fun _ hk => ⟨hk.1.2, hk.2⟩)) hg hat); have n2_ := Aside0.mk (blk_grown (g := gb119) (o := .cells #[.int .i64 ((rd_T39 l0 x4_1).f0), .int .i64 ((rd_T39 l0 x4_1).f1), u120002] 39 (0, 0)) (by (with_reducible repeat (first | refine blk_drewN ?_ _ | refine blk_drew ?_ | refine blk_alloc ?_ _)); exact BK119.out) hg (Kd.R_ne HO126.out BK119.out (by decide))); have n3_ := Aside0.mk (blk_grown (g := gb123) (o := .cells #[.int .i64 ((rd_T43 ((rd_T39 l0 x4_1).f2) x6_2).f0), .string ((rd_T43 ((rd_T39 l0 x4_1).f2) x6_2).f1), .int .i64 ((rd_T43 ((rd_T39 l0 x4_1).f2) x6_2).f2), .bool ((rd_T43 ((rd_T39 l0 x4_1).f2) x6_2).f3), .slice A122_4 ((rd_T43 ((rd_T39 l0 x4_1).f2) x6_2).f4).length c122_4] 43 (0, 0)) (by (with_reducible repeat (first | refine blk_drewN ?_ _ | refine blk_drew ?_ | refine blk_alloc ?_ _)); exact BK123.out) hg (Kd.R_ne HO126.out BK123.out (by decide))); have n4_ := Aside0.mk (hb); have n5_ := Aside0.mk (ho); clear HO_3; clear HO_120002; clear BK119; clear BK123; clear HB; clear HO126; have HO_3 := n0_; have HO_120002 := n1_; have BK119 := n2_; have BK123 := n3_; have HB := n4_; have HO129 := n5_; clear n0_ n1_ n2_ n3_ n4_ n5_; clear ho hb hg hat; obtain ⟨Ao22, co22, eo22⟩ := Kd.R_slice HO129.out; subst eo22; have hcz23_0 : w21.cell? ⟨gb123, 0, none⟩ = some (.int .i64 ((rd_T43 ((rd_T39 l0 x4_1).f2) x6_2).f0)) := (blk_cell BK123.out 0).trans rfl; have hcz23_1 : w21.cell? ⟨gb123, 1, none⟩ = some (.string ((rd_T43 ((rd_T39 l0 x4_1).f2) x6_2).f1)) := (blk_cell BK123.out 1).trans rfl; have hcz23_2 : w21.cell? ⟨gb123, 2, none⟩ = some (.int .i64 ((rd_T43 ((rd_T39 l0 x4_1).f2) x6_2).f2)) := (blk_cell BK123.out 2).trans rfl; have hcz23_3 : w21.cell? ⟨gb123, 3, none⟩ = some (.bool ((rd_T43 ((rd_T39 l0 x4_1).f2) x6_2).f3)) := (blk_cell BK123.out 3).trans rfl; have hcz23_4 : w21.cell? ⟨gb123, 4, none⟩ = some (.slice A122_4 ((rd_T43 ((rd_T39 l0 x4_1).f2) x6_2).f4).length c122_4) := (blk_cell BK123.out 4).trans rfl; have hfz23_0 := blk_frozen BK123.out 0; have hfz23_1 := blk_frozen BK123.out 1; have hfz23_2 := blk_frozen BK123.out 2; have hfz23_3 := blk_frozen BK123.out 3; have hfz23_4 := blk_frozen BK123.out 4) | ((with_reducible refine gate_store (t := 41) (p := 47) rfl ?_); refine store_event (t := 41) (p := 47) (v := ?vo_w24) (w1 := (w21.setCell ⟨gb123, 4, none⟩ (.slice Ao22 y127.length co22))) ?hg ?ho ?hn ?hr ?_; (case ho => rfl); (case hg => rfl); (case hn => rfl); (case hr => first | (go_simp; done) | (go_simp; rfl)); intro w24 hw; have n0_ : Aside0 (Kd.R k39 39 w24 w.heap.size (fun k_ => some k_ ≠ (u120002 : Value).ownBlock ∧ some k_ ≠ (.slice Ao22 y127.length co22 : Value).ownBlock ∧ k_ ≠ gb119 ∧ k_ ≠ gb123) u3 x3_1) := ⟨(by rw [hw]; exact (by (with_reducible repeat (first | apply Kd.R_alloc | apply Kd.R_drewN | apply Kd.R_drew)); exact Kd.R_mono (Kd.R_far (p := ⟨gb123, 4, none⟩) (Kd.R_mono HO_3.out (fun k_ hk => (⟨hk, hk.1.2.2⟩ : _ ∧ k_ ≠ gb123))) (fun _ hk => hk.2) (.slice Ao22 y127.length co22)) (fun _ hk => ⟨hk.1.1.1, ⟨hk.1.2, ⟨hk.1.1.2.1, hk.1.1.2.2⟩⟩⟩)))⟩; have n1_ : Aside0 (Kd.S k43 43 w24 w.heap.size (fun k_ => some k_ ≠ (.slice Ao22 y127.length co22 : Value).ownBlock ∧ k_ ≠ gb123) u120002 x120002_2) := ⟨(by rw [hw]; exact (by (with_reducible repeat (first | apply Kd.S_alloc | apply Kd.S_drewN | apply Kd.S_drew)); exact Kd.S_mono (Kd.S_far (p := ⟨gb123, 4, none⟩) (Kd.S_mono HO_120002.out (fun k_ hk => (⟨hk, hk.1⟩ : _ ∧ k_ ≠ gb123))) (fun _ hk => hk.2) (.slice Ao22 y127.length co22)) (fun _ hk => ⟨hk.1.2, hk.1.1⟩)))⟩; have n2_ : Aside0 (Kd.R (Kd.int .i64) 2 w24 w.heap.size (fun _ => True) (.slice Ao22 y127.length co22) y127) := ⟨(by rw [hw]; exact (by (with_reducible repeat (first | apply Kd.R_alloc | apply Kd.R_drewN | apply Kd.R_drew)); exact Kd.R_mono (Kd.R_far (p := ⟨gb123, 4, none⟩) (Kd.R_types HO129.out BK123.out (by decide)) (fun _ hk => hk.2) (.slice Ao22 y127.length co22)) (fun _ hk => trivial)))⟩; have n3_ : Aside0 (w24.heap[gb119]? = some (.cells #[.int .i64 ((rd_T39 l0 x4_1).f0), .int .i64 ((rd_T39 l0 x4_1).f1), u120002] 39 (0, 0))) := ⟨(by rw [hw]; exact (by (with_reducible repeat (first | refine blk_drewN ?_ _ | refine blk_drew ?_ | refine blk_alloc ?_ _)); refine blk_far ?_ NB119_123.out _; (with_reducible repeat (first | refine blk_drewN ?_ _ | refine blk_drew ?_ | refine blk_alloc ?_ _)); exact BK119.out))⟩; have n4_ : Aside0 (w24.heap[gb123]? = some (.cells #[.int .i64 ((rd_T43 ((rd_T39 l0 x4_1).f2) x6_2).f0), .string ((rd_T43 ((rd_T39 l0 x4_1).f2) x6_2).f1), .int .i64 ((rd_T43 ((rd_T39 l0 x4_1).f2) x6_2).f2), .bool ((rd_T43 ((rd_T39 l0 x4_1).f2) x6_2).f3), .slice Ao22 y127.length co22] 43 (0, 0))) := ⟨(by rw [hw]; exact (by (with_reducible repeat (first | refine blk_drewN ?_ _ | refine blk_drew ?_ | refine blk_alloc ?_ _)); refine blk_put (cs := #[.int .i64 ((rd_T43 ((rd_T39 l0 x4_1).f2) x6_2).f0), .string ((rd_T43 ((rd_T39 l0 x4_1).f2) x6_2).f1), .int .i64 ((rd_T43 ((rd_T39 l0 x4_1).f2) x6_2).f2), .bool ((rd_T43 ((rd_T39 l0 x4_1).f2) x6_2).f3), .slice A122_4 ((rd_T43 ((rd_T39 l0 x4_1).f2) x6_2).f4).length c122_4]) ?_ 4 _ rfl; (with_reducible repeat (first | refine blk_drewN ?_ _ | refine blk_drew ?_ | refine blk_alloc ?_ _)); exact BK123.out))⟩; have n5_ : Aside0 (Below w.heap.size w w24) := ⟨(by rw [hw]; exact (by repeat (first | (with_reducible first | exact HB.out | apply below_alloc | apply pw_below_drewN | apply below_drew1 | refine below_set ?_ GE119.out | refine below_set ?_ GE123.out) | exact HB.out)))⟩; clear hw; clear HO_3; clear HO_120002; clear HO129; clear BK119; clear BK123; clear HB; have HO_3 := n0_; have HO_120002 := n1_; have HO129 := n2_; have BK119 := n3_; have BK123 := n4_; have HB := n5_; clear n0_ n1_ n2_ n3_ n4_ n5_; have hcz25_0 : w24.cell? ⟨gb119, 0, none⟩ = some (.int .i64 ((rd_T39 l0 x4_1).f0)) := (blk_cell BK119.out 0).trans rfl; have hcz25_1 : w24.cell? ⟨gb119, 1, none⟩ = some (.int .i64 ((rd_T39 l0 x4_1).f1)) := (blk_cell BK119.out 1).trans rfl; have hcz25_2 : w24.cell? ⟨gb119, 2, none⟩ = some (u120002) := (blk_cell BK119.out 2).trans rfl; have hfz25_0 := blk_frozen BK119.out 0; have hfz25_1 := blk_frozen BK119.out 1; have hfz25_2 := blk_frozen BK119.out 2; have hcz26_0 : w24.cell? ⟨gb123, 0, none⟩ = some (.int .i64 ((rd_T43 ((rd_T39 l0 x4_1).f2) x6_2).f0)) := (blk_cell BK123.out 0).trans rfl; have hcz26_1 : w24.cell? ⟨gb123, 1, none⟩ = some (.string ((rd_T43 ((rd_T39 l0 x4_1).f2) x6_2).f1)) := (blk_cell BK123.out 1).trans rfl; have hcz26_2 : w24.cell? ⟨gb123, 2, none⟩ = some (.int .i64 ((rd_T43 ((rd_T39 l0 x4_1).f2) x6_2).f2)) := (blk_cell BK123.out 2).trans rfl; have hcz26_3 : w24.cell? ⟨gb123, 3, none⟩ = some (.bool ((rd_T43 ((rd_T39 l0 x4_1).f2) x6_2).f3)) := (blk_cell BK123.out 3).trans rfl; have hcz26_4 : w24.cell? ⟨gb123, 4, none⟩ = some (.slice Ao22 y127.length co22) := (blk_cell BK123.out 4).trans rfl; have hfz26_0 := blk_frozen BK123.out 0; have hfz26_1 := blk_frozen BK123.out 1; have hfz26_2 := blk_frozen BK123.out 2; have hfz26_3 := blk_frozen BK123.out 3; have hfz26_4 := blk_frozen BK123.out 4) | ((with_reducible refine gate_builtin (b := .append) (xs := #[.tmp 49, .tmp 51]) rfl ?_); at_builtin; refine Kd.S_append k43 (w0 := w) w.heap.size rfl (.tmp 49) (.tmp 51) 37 43 (.agg #[(.int .i64 0), (.string ⟨#[]⟩), (.int .i64 0), (.bool false), (.slice none 0 0)]) 64 rfl Tryz.underlying37 info43 rfl (by decide) (by omega) u120002 x120002_2 (⟨(rd_T43 ((rd_T39 l0 x4_1).f2) x6_2).f0, (rd_T43 ((rd_T39 l0 x4_1).f2) x6_2).f1, (rd_T43 ((rd_T39 l0 x4_1).f2) x6_2).f2, (rd_T43 ((rd_T39 l0 x4_1).f2) x6_2).f3, y127⟩ : S43) [.int .i64 ((rd_T43 ((rd_T39 l0 x4_1).f2) x6_2).f0), .string ((rd_T43 ((rd_T39 l0 x4_1).f2) x6_2).f1), .int .i64 ((rd_T43 ((rd_T39 l0 x4_1).f2) x6_2).f2), .bool ((rd_T43 ((rd_T39 l0 x4_1).f2) x6_2).f3), .slice Ao22 y127.length co22] (fun k_ => k_ ≠ gb123) (fun k_ => some k_ = (.slice Ao22 y127.length co22 : Value).ownBlock) rfl rfl ?aP (fun k_ hk_ => ((Kd.R_mono (ok' := fun k_ => ((fun k_ => k_ ≠ gb123)) k_ ∧ some k_ ≠ (u120002 : Value).ownBlock) (Kd.R_types (Kd.R_apart' (HO129.out) (Kd.S_typed HO_120002.out) (by decide)) BK123.out (by decide)) (fun k_ hk => ⟨hk.2, hk.1.2⟩))).1 k_ hk_.symm) ?aF ?aO ?aB ?aS ?aL ?_; (case aP => exact k43_mkM _ _ _ (⟨(rd_T43 ((rd_T39 l0 x4_1).f2) x6_2).f0, (rd_T43 ((rd_T39 l0 x4_1).f2) x6_2).f1, (rd_T43 ((rd_T39 l0 x4_1).f2) x6_2).f2, (rd_T43 ((rd_T39 l0 x4_1).f2) x6_2).f3, y127⟩ : S43) (Kd.R_mono (Kd.R_tight rfl (Kd.R_mono (ok' := fun k_ => ((fun k_ => k_ ≠ gb123)) k_ ∧ some k_ ≠ (u120002 : Value).ownBlock) (Kd.R_types (Kd.R_apart' (HO129.out) (Kd.S_typed HO_120002.out) (by decide)) BK123.out (by decide)) (fun k_ hk => ⟨hk.2, hk.1.2⟩))) (fun _ h_ => h_))); (case aB => exact (by repeat (first | (with_reducible first | exact HB.out | apply below_alloc | apply pw_below_drewN | apply below_drew1 | refine below_set ?_ GE119.out | refine below_set ?_ GE123.out) | exact HB.out))); (case aF => exact (fun k_ hk => Kd.freshB (g := gb123) (o := .cells #[.int .i64 ((rd_T43 ((rd_T39 l0 x4_1).f2) x6_2).f0), .string ((rd_T43 ((rd_T39 l0 x4_1).f2) x6_2).f1), .int .i64 ((rd_T43 ((rd_T39 l0 x4_1).f2) x6_2).f2), .bool ((rd_T43 ((rd_T39 l0 x4_1).f2) x6_2).f3), .slice Ao22 y127.length co22] 43 (0, 0)) (by (with_reducible repeat (first | refine blk_drewN ?_ _ | refine blk_drew ?_ | refine blk_alloc ?_ _)); exact BK123.out) k_ hk)); (case aO => exact (by (with_reducible repeat (first | apply Kd.S_alloc | apply Kd.S_drewN | apply Kd.S_drew)); exact Kd.S_mono HO_120002.out (fun k_ hk => ⟨hk.2, fun e_ => hk.1 e_⟩))); (case aS => exact (below_size (by repeat (first | (with_reducible first | exact HB.out | apply below_alloc | apply pw_below_drewN | apply below_drew1 | refine below_set ?_ GE119.out | refine below_set ?_ GE123.out) | exact HB.out)))); (case aL => have := LMc14.out; omega); intro v131 w27 ho hb hg hat; rw [← Ny130.out] at ho; have n0_ := Aside0.mk (Kd.R_after (ok := (fun k_ => some k_ ≠ (.slice Ao22 y127.length co22 : Value).ownBlock ∧ k_ ≠ gb119 ∧ k_ ≠ gb123)) (by (with_reducible repeat (first | apply Kd.R_alloc | apply Kd.R_drewN | apply Kd.R_drew)); exact Kd.R_mono HO_3.out (fun _ hk => ⟨⟨hk.2.1, ⟨hk.2.2.1, hk.2.2.2⟩⟩, hk.1⟩)) hg hat); have n1_ := Aside0.mk (blk_grown (g := gb119) (o := .cells #[.int .i64 ((rd_T39 l0 x4_1).f0), .int .i64 ((rd_T39 l0 x4_1).f1), u120002] 39 (0, 0)) (by (with_reducible repeat (first | refine blk_drewN ?_ _ | refine blk_drew ?_ | refine blk_alloc ?_ _)); exact BK119.out) hg (Kd.S_ne HO_120002.out BK119.out (by decide))); have n2_ := Aside0.mk (blk_grown (g := gb123) (o := .cells #[.int .i64 ((rd_T43 ((rd_T39 l0 x4_1).f2) x6_2).f0), .string ((rd_T43 ((rd_T39 l0 x4_1).f2) x6_2).f1), .int .i64 ((rd_T43 ((rd_T39 l0 x4_1).f2) x6_2).f2), .bool ((rd_T43 ((rd_T39 l0 x4_1).f2) x6_2).f3), .slice Ao22 y127.length co22] 43 (0, 0)) (by (with_reducible repeat (first | refine blk_drewN ?_ _ | refine blk_drew ?_ | refine blk_alloc ?_ _)); exact BK123.out) hg (Kd.S_away HO_120002.out (fun _ hk => hk.2))); have n3_ := Aside0.mk (hb); have n4_ := Aside0.mk (ho); clear HO_3; clear BK119; clear BK123; clear HB; clear HO_120002; clear HO129; have HO_3 := n0_; have BK119 := n1_; have BK123 := n2_; have HB := n3_; have HO132 := n4_; clear n0_ n1_ n2_ n3_ n4_; clear ho hb hg hat; obtain ⟨Ao28, co28, eo28⟩ := Kd.S_slice HO132.out; subst eo28; have hcz29_0 : w27.cell? ⟨gb119, 0, none⟩ = some (.int .i64 ((rd_T39 l0 x4_1).f0)) := (blk_cell BK119.out 0).trans rfl; have hcz29_1 : w27.cell? ⟨gb119, 1, none⟩ = some (.int .i64 ((rd_T39 l0 x4_1).f1)) := (blk_cell BK119.out 1).trans rfl; have hcz29_2 : w27.cell? ⟨gb119, 2, none⟩ = some (u120002) := (blk_cell BK119.out 2).trans rfl; have hfz29_0 := blk_frozen BK119.out 0; have hfz29_1 := blk_frozen BK119.out 1; have hfz29_2 := blk_frozen BK119.out 2))
                     go_roundg k2
                     case measure => have := HK1.out; have := HK2.out; omega
                     case rel => exact ⟨(wrap64 (x6_2 + 1)), (y130), (.slice Ao28 y130.length co28), (by first | rfl | (simp; done) | (simp [*]; done)), H', ⟨by have := HK1.out; have := HK2.out; omega⟩, ⟨by (with_reducible repeat (first | apply Kd.R_alloc | apply Kd.R_drewN | apply Kd.R_drew)); exact Kd.R_mono (Kd.R_far (p := ⟨gb119, 2, none⟩) (Kd.R_mono HO_3.out (fun k_ hk => (⟨hk, hk.1.2.1⟩ : _ ∧ k_ ≠ gb119))) (fun _ hk => hk.2) (.slice Ao28 y130.length co28)) (fun _ hk => ⟨hk.1.2, hk.1.1.2.1⟩)⟩, ⟨by (with_reducible repeat (first | apply Kd.S_alloc | apply Kd.S_drewN | apply Kd.S_drew)); exact Kd.S_mono (Kd.S_far (p := ⟨gb119, 2, none⟩) (Kd.S_types HO132.out BK119.out (by decide)) (fun _ hk => hk.2) (.slice Ao28 y130.length co28)) (fun _ hk => trivial)⟩, ⟨by (with_reducible repeat (first | refine blk_drewN ?_ _ | refine blk_drew ?_ | refine blk_alloc ?_ _)); refine blk_put (cs := #[.int .i64 ((rd_T39 l0 x4_1).f0), .int .i64 ((rd_T39 l0 x4_1).f1), u120002]) ?_ 2 _ rfl; (with_reducible repeat (first | refine blk_drewN ?_ _ | refine blk_drew ?_ | refine blk_alloc ?_ _)); exact BK119.out⟩, ⟨by repeat (first | (with_reducible first | exact HB.out | apply below_alloc | apply pw_below_drewN | apply below_drew1 | refine below_set ?_ GE119.out | refine below_set ?_ GE123.out) | exact HB.out)⟩⟩
                   · rw [if_neg c14] at H
                     exact absurd H (by simp)
                 · rw [if_neg c13] at H
                   exact absurd H (by simp)
               · rw [if_neg c12] at H
                 exact absurd H (by simp)
             · rw [if_neg c11] at H
               have c11b0 : decide (x6_2 < (((rd_T39 l0 x4_1).f2).length : Int)) = false := decide_eq_false c11
               clear c11
               by_cases c30 : x3_1.length < 3518437208883
               · rw [if_pos c30] at H
                 have LMc30 := Aside0.mk c30
                 clear c30
                 obtain ⟨y133, hy133⟩ : ∃ y_ : List (S39), y_ = (x3_1 ++ [(⟨((rd_T39 l0 x4_1).f0), ((rd_T39 l0 x4_1).f1), x120002_2⟩ : S39)]) := ⟨_, rfl⟩
                 replace H : (assizeref03_Copy.l0 k2 l0 y133 (wrap64 (x4_1 + 1))) = some r := by first | (rw [hy133]; with_reducible exact H) | (have H2_ := (Option.bind_some _ _).symm.trans H; rw [hy133]; with_reducible exact H2_) | (have H2_ := (Option.bind_some _ _).symm.trans H; with_reducible exact H2_) | with_reducible exact H | (rw [hy133]; exact H) | exact H
                 have Ny133 := Aside0.mk hy133
                 clear hy133
                 have H' := Aside0.mk H
                 clear H
                 have p120 : 0 ≤ (x4_1 : Int) := of_decide_eq_true (by first | (with_reducible assumption) | assumption)
                 have q120 : x4_1 < (l0.length : Int) := of_decide_eq_true (by first | (with_reducible assumption) | assumption)
                 obtain ⟨ad120, A120_2, c120_2, e120, hx120_0, hx120_1, hx120_2, hl120_2, hi120_2⟩ := at_T39 HR0.out x4_1 p120 q120
                 obtain rfl : ad117 = ad120 := (by injection e120)
                 replace hx120_0 := (HB.out.cell (World.block_lt_of_cell? w _ hx120_0)).trans hx120_0
                 replace hx120_1 := (HB.out.cell (World.block_lt_of_cell? w _ hx120_1)).trans hx120_1
                 replace hx120_2 := (HB.out.cell (World.block_lt_of_cell? w _ hx120_2)).trans hx120_2
                 have HR120_2 := Aside0.mk hi120_2
                 have HC120_2 := Aside0.mk hl120_2
                 clear hi120_2 hl120_2
                 replace p120 := eq_true p120
                 replace q120 := eq_true q120
                 have hcz31_0 : wr.cell? ⟨gb119, 0, none⟩ = some (.int .i64 ((rd_T39 l0 x4_1).f0)) := (blk_cell BK119.out 0).trans rfl
                 have hcz31_1 : wr.cell? ⟨gb119, 1, none⟩ = some (.int .i64 ((rd_T39 l0 x4_1).f1)) := (blk_cell BK119.out 1).trans rfl
                 have hcz31_2 : wr.cell? ⟨gb119, 2, none⟩ = some (u120002) := (blk_cell BK119.out 2).trans rfl
                 have hfz31_0 := blk_frozen BK119.out 0
                 have hfz31_1 := blk_frozen BK119.out 1
                 have hfz31_2 := blk_frozen BK119.out 2
                 obtain ⟨Ao33, co33, eo33⟩ := Kd.S_slice HO_120002.out
                 subst eo33
                 go_wp2_with (first | ((with_reducible refine gate_builtin (b := .append) (xs := #[.tmp 54, .tmp 56]) rfl ?_); at_builtin; refine Kd.R_append k39 (w0 := w) w.heap.size rfl (.tmp 54) (.tmp 56) 23 39 (.agg #[(.int .i64 0), (.int .i64 0), (.slice none 0 0)]) 40 rfl Tryz.underlying23 info39 rfl (by decide) (by omega) u3 x3_1 (⟨((rd_T39 l0 x4_1).f0), ((rd_T39 l0 x4_1).f1), x120002_2⟩ : S39) [.int .i64 ((rd_T39 l0 x4_1).f0), .int .i64 ((rd_T39 l0 x4_1).f1), .slice Ao33 x120002_2.length co33] (fun k_ => k_ ≠ gb119) (fun k_ => ((fun k_ => k_ ≠ gb119)) k_ ∧ some k_ ≠ (u3 : Value).ownBlock) rfl rfl ?aP (fun _ hk => hk) ?aF ?aO ?aB ?aS ?aL ?_; (case aP => exact k39_mkM _ _ _ (⟨((rd_T39 l0 x4_1).f0), ((rd_T39 l0 x4_1).f1), x120002_2⟩ : S39) (Kd.R_mono (Kd.R_types (Kd.R_apart' ((Kd.S_R HO_120002.out)) (Kd.R_typed HO_3.out) (by decide)) BK119.out (by decide)) (fun k_ hk => ⟨hk.2, hk.1.2⟩))); (case aB => exact (by repeat (first | (with_reducible first | exact HB.out | apply below_alloc | apply pw_below_drewN | apply below_drew1 | refine below_set ?_ GE119.out) | exact HB.out))); (case aF => exact (fun k_ hk => Kd.freshB (g := gb119) (o := .cells #[.int .i64 ((rd_T39 l0 x4_1).f0), .int .i64 ((rd_T39 l0 x4_1).f1), .slice Ao33 x120002_2.length co33] 39 (0, 0)) (by (with_reducible repeat (first | refine blk_drewN ?_ _ | refine blk_drew ?_ | refine blk_alloc ?_ _)); exact BK119.out) k_ hk)); (case aO => exact (by (with_reducible repeat (first | apply Kd.R_alloc | apply Kd.R_drewN | apply Kd.R_drew)); exact Kd.R_mono HO_3.out (fun _ hk => hk.2))); (case aS => exact (below_size (by repeat (first | (with_reducible first | exact HB.out | apply below_alloc | apply pw_below_drewN | apply below_drew1 | refine below_set ?_ GE119.out) | exact HB.out)))); (case aL => have := LMc30.out; omega); intro v134 w32 ho hb hg hat; rw [← Ny133.out] at ho; have n0_ := Aside0.mk (blk_grown (g := gb119) (o := .cells #[.int .i64 ((rd_T39 l0 x4_1).f0), .int .i64 ((rd_T39 l0 x4_1).f1), .slice Ao33 x120002_2.length co33] 39 (0, 0)) (by (with_reducible repeat (first | refine blk_drewN ?_ _ | refine blk_drew ?_ | refine blk_alloc ?_ _)); exact BK119.out) hg (Kd.R_away HO_3.out (fun _ hk => hk.2))); have n1_ := Aside0.mk (hb); have n2_ := Aside0.mk (ho); clear BK119; clear HB; clear HO_3; clear HO_120002; have BK119 := n0_; have HB := n1_; have HO135 := n2_; clear n0_ n1_ n2_; clear ho hb hg hat))
                 go_roundg k2
                 case measure => have := HK1.out; have := HK2.out; omega
                 case rel => exact ⟨(y133), (wrap64 (x4_1 + 1)), (by first | rfl | (simp; done) | (simp [*]; done)), H', ⟨by have := HK1.out; have := HK2.out; omega⟩, ⟨by (with_reducible repeat (first | apply Kd.R_alloc | apply Kd.R_drewN | apply Kd.R_drew)); exact Kd.R_mono HO135.out (fun _ hk => trivial)⟩, ⟨by repeat (first | (with_reducible first | exact HB.out | apply below_alloc | apply pw_below_drewN | apply below_drew1 | refine below_set ?_ GE119.out) | exact HB.out)⟩⟩
               · rw [if_neg c30] at H
                 exact absurd H (by simp)
           · rw [if_neg c10] at H
             exact absurd H (by simp)
         · rw [if_neg c9] at H
           exact absurd H (by simp)
     · rw [if_neg c3] at H
       exact absurd H (by simp)
   · rw [if_neg c2] at H
     have c2b0 : decide (x4_1 < (l0.length : Int)) = false := decide_eq_false c2
     clear c2
     obtain rfl := Option.some.inj H
     go_wp2
     go_ret
     exact ⟨_, by first | rfl | (simp [errW_none, errW_some] <;> rfl) | (simp [*, errW_none, errW_some] <;> rfl), by (with_reducible repeat (first | apply Kd.R_alloc | apply Kd.R_drewN | apply Kd.R_drew)); exact HO_3.out, by repeat (first | (with_reducible first | exact HB.out | apply below_alloc | apply pw_below_drewN | apply below_drew1) | exact HB.out)⟩
end Go.Proofs.YtamcicojockhpaaGreatDoor.PS
end
section
set_option linter.unusedVariables false
set_option linter.unusedSimpArgs false
namespace Go.Proofs.YtamcicojockhpaaGreatDoor.Wi
open Go.RowKit
open Go.Proofs.YtamcicojockhpaaGreatDoor.Lx Go.Proofs.YtamcicojockhpaaGreatDoor.PS Go.Proofs.YtamcicojockhpaaGreatDoor.Tr
theorem rdE {l : List Ev} {i : Nat} {e : Ev} (h : l[i]? = some e) : rd_T39 l (i : Int) = e := by
 unfold rd_T39
 rw [List.getD_eq_getElem?_getD, Int.toNat_natCast, h]
 rfl
theorem rdC {l : List Cl} {i : Nat} {e : Cl} (h : l[i]? = some e) : rd_T43 l (i : Int) = e := by
 unfold rd_T43
 rw [List.getD_eq_getElem?_getD, Int.toNat_natCast, h]
 rfl
theorem copy_calls (l : List Ev) (x3 : List Ev) (i : Nat) (e : Ev) (hi : l[i]? = some e) (hx : x3.length < 3518437208883) (hl : e.f2.length < 1000000) (hv : ∀ c ∈ e.f2, c.f4.length < 1000000) (r : List Ev) (hi64 : i < 1000000)
 (h0 : ∃ k, assizeref03_Copy.l0 k l (x3 ++ [e]) (wrap64 ((i : Int) + 1)) = some r) :
 ∀ n j, e.f2.length - j = n → j ≤ e.f2.length → ∃ k, assizeref03_Copy.l1 k l x3 (i : Int) (j : Int) e.f0 e.f1 (e.f2.take j) = some r := by
 have hil : i < l.length := (List.getElem?_eq_some_iff.1 hi).1
 intro n
 induction n with
 | zero =>
  intro j hj hjl
  obtain ⟨k, hk⟩ := h0
  refine ⟨k + 1, ?_⟩
  rw [assizeref03_Copy.l1, if_pos (by omega), if_pos (by omega), rdE hi, if_neg (by omega), if_pos hx, List.take_of_length_le (by omega)]
  exact hk
 | succ n ih =>
  intro j hj hjl
  have hjl' : j < e.f2.length := by omega
  obtain ⟨k, hk⟩ := ih (j + 1) (by omega) (by omega)
  have hc : e.f2[j]? = some e.f2[j] := List.getElem?_eq_getElem hjl'
  have hcv := hv _ (List.getElem_mem hjl')
  refine ⟨k + 1, ?_⟩
  rw [assizeref03_Copy.l1, if_pos (by omega), if_pos (by omega), rdE hi, if_pos (by omega), if_pos (by omega), rdC hc, Option.bind_some, if_pos (by rw [List.length_nil]; omega), if_pos (by rw [List.length_take]; omega), w64 _ (by omega) (by omega)]
  have ht : e.f2.take (j + 1) = e.f2.take j ++ [e.f2[j]] := by rw [List.take_add_one, hc]; rfl
  rw [ht] at hk
  exact hk
theorem copy_l0 (l : List Ev) (hl : l.length < 1000000) (hf : ∀ e ∈ l, e.f2.length < 1000000) (hv : ∀ e ∈ l, ∀ c ∈ e.f2, c.f4.length < 1000000) :
 ∀ n i, l.length - i = n → i ≤ l.length → ∃ k, assizeref03_Copy.l0 k l (l.take i) (i : Int) = some l := by
 intro n
 induction n with
 | zero =>
  intro i hi hil
  refine ⟨1, ?_⟩
  rw [assizeref03_Copy.l0, if_neg (by omega), List.take_of_length_le (by omega)]
 | succ n ih =>
  intro i hi hil
  have hil' : i < l.length := by omega
  obtain ⟨k, hk⟩ := ih (i + 1) (by omega) (by omega)
  have he : l[i]? = some l[i] := List.getElem?_eq_getElem hil'
  have hm := List.getElem_mem hil'
  have ht : l.take (i + 1) = l.take i ++ [l[i]] := by rw [List.take_add_one, he]; rfl
  rw [ht] at hk
  obtain ⟨k1, h1⟩ := copy_calls l (l.take i) i l[i] he (by rw [List.length_take]; omega) (hf _ hm) (hv _ hm) l (by omega) ⟨k, by rw [w64 _ (by omega) (by omega)]; exact hk⟩ _ 0 rfl (Nat.zero_le _)
  refine ⟨k1 + 1, ?_⟩
  rw [assizeref03_Copy.l0, if_pos (by omega), if_pos (by omega), rdE he]
  exact h1
theorem copy_pure (l : List Ev) (hl : l.length < 1000000) (hf : ∀ e ∈ l, e.f2.length < 1000000) (hv : ∀ e ∈ l, ∀ c ∈ e.f2, c.f4.length < 1000000) : ∃ k, assizeref03_Copy.f k l = some l :=
 copy_l0 l hl hf hv _ 0 rfl (Nat.zero_le _)
theorem Copy_calls (l : List Ev) (A : Option Addr) (c : Nat) (w : World) (hl : l.length < 1000000) (hf : ∀ e ∈ l, e.f2.length < 1000000) (hv : ∀ e ∈ l, ∀ c ∈ e.f2, c.f4.length < 1000000)
 (hC : k39.C w A l.length l) (hc : l.length ≤ c) :
 Calls Tryz.prog 13 #[.slice A l.length c] w fun e w' => ∃ v : Value, e = .returned v ∧ k39.R 39 w' w.heap.size (fun _ => True) v l ∧ Below w.heap.size w w' := by
 obtain ⟨k, hk⟩ := copy_pure l hl hf hv
 exact assizeref03_Copy.calls k A c l l w hC hc hk
end Go.Proofs.YtamcicojockhpaaGreatDoor.Wi
end
section
set_option linter.unusedVariables false
set_option linter.unusedSimpArgs false
namespace Go.Proofs.YtamcicojockhpaaGreatDoor.Wi
open Go.RowKit Go.Proofs.YtamcicojockhpaaGreatDoorW.PrintWords Go.Proofs.YtamcicojockhpaaGreatDoorW.PrintLast Go.Proofs.YtamcicojockhpaaGreatDoorW.PrintMore
open Go.Proofs.YtamcicojockhpaaGreatDoor.Lx Go.Proofs.YtamcicojockhpaaGreatDoor.PS Go.Proofs.YtamcicojockhpaaGreatDoor.Tr
theorem good_small {e : Ev} (h : goodE e) : e.f2.length < 1000000 ∧ ∀ c ∈ e.f2, c.f4.length < 1000000 := by
 obtain ⟨_, _, h16, hs⟩ := badE_cases h.1
 exact ⟨by omega, fun c hc => by have := (sound_len (hs c hc)).2.1; omega⟩
set_option maxRecDepth 100000 in
set_option maxHeartbeats 8000000 in
theorem WireLines_at (s t : ByteArray) (m : Int) (w : World) (hs : s.size ≤ 1048576) (ht : t.size ≤ 1048576) (hm : w.cell? ⟨2, 0, none⟩ = some (.int .i64 m)) (hlw : ∀ w1, Below w.heap.size w w1 → LW w1) :
 Calls Tryz.prog 7 #[.string s, .string t] w fun e w' => e = .returned (.bool true) ∧ Below w.heap.size w w' := by
 have HA := Aside0.mk (alive_calls m w hm hlw)
 have HLW := Aside0.mk hlw
 have HM := Aside0.mk hm
 have hsz : s.data.toList.length = s.size := Array.length_toList
 have htz : t.data.toList.length = t.size := Array.length_toList
 have hsI : (s.size : Int) ≤ 1048576 := by omega
 have htI : (t.size : Int) ≤ 1048576 := by omega
 obtain ⟨l, c, a, he⟩ : ∃ l c a, eventsR s.data.toList = (l, c, a) := ⟨_, _, _, rfl⟩
 obtain ⟨l', c', a', he'⟩ : ∃ l c a, eventsR t.data.toList = (l, c, a) := ⟨_, _, _, rfl⟩
 have HCS := Aside0.mk (events_cases _ l c a he)
 have HCT := Aside0.mk (events_cases _ l' c' a' he')
 have HE := Aside0.mk he
 have HE' := Aside0.mk he'
 have HSZ := Aside0.mk hsz
 have HTZ := Aside0.mk htz
 clear hlw hm he he' hsz htz
 go_enter Tryz.func7, Tryz.ntmps7
 go_wp2_with fail
 refine HA.out.mono ?_
 clear HA
 rintro e w1 ⟨rfl, hb1⟩
 have HB1 := Aside0.mk hb1
 have HEV := Aside0.mk (Events_calls s m w1 (by omega) (cell_below' hb1 HM.out) (fun w9 h => (HLW.out w9 (hb1.trans (h.mono hb1.size))).te))
 rw [HE.out] at HEV
 clear hb1
 go_wp2_with fail
 refine HEV.out.mono ?_
 clear HEV
 rintro e w2 ⟨hb2, v2, rfl, hr2⟩
 obtain ⟨A2, c2, e2, l2, g2⟩ := Kd.R_reads hr2
 subst e2
 dsimp only at g2 l2 hr2 ⊢
 have hx2 : Below w2.heap.size w2 (w2.alloc (.cells #[.int .i64 c, .int .i64 a] 26 (0, 0))) := (Below.refl _ _).alloc (Nat.le_refl _) _
 have HB2 := Aside0.mk (HB1.out.trans ((hb2.trans (hx2.mono hb2.size)).mono HB1.out.size))
 have G2 := Aside0.mk (Kd.C_below g2 hx2)
 have L2 := Aside0.mk l2
 have NF := Aside0.mk (blk_new w2 (.cells #[.int .i64 c, .int .i64 a] 26 (0, 0)))
 clear hb2 hr2 g2 l2 hx2
 go_wp2_with fail
 generalize w2.alloc (.cells #[.int .i64 c, .int .i64 a] 26 (0, 0)) = X2 at *
 have HEV := Aside0.mk (Events_calls t m X2 (by omega) (cell_below' HB2.out HM.out) (fun w9 h => (HLW.out w9 (HB2.out.trans (h.mono HB2.out.size))).te))
 rw [HE'.out] at HEV
 refine HEV.out.mono ?_
 clear HEV
 rintro e w3 ⟨hb3, v3, rfl, hr3⟩
 obtain ⟨A3, c3, e3, l3, g3⟩ := Kd.R_reads hr3
 subst e3
 dsimp only at g3 l3 hr3 ⊢
 have hx3 : Below w3.heap.size w3 (w3.alloc (.cells #[.int .i64 c', .int .i64 a'] 26 (0, 0))) := (Below.refl _ _).alloc (Nat.le_refl _) _
 have HB3 := Aside0.mk (HB2.out.trans ((hb3.trans (hx3.mono hb3.size)).mono HB2.out.size))
 have G3 := Aside0.mk (Kd.C_below G2.out (hb3.trans (hx3.mono hb3.size)))
 have HR3 := Aside0.mk (Kd.R_below hr3 hx3)
 have NF3 := Aside0.mk (blk_new w3 (.cells #[.int .i64 c', .int .i64 a'] 26 (0, 0)))
 have f2 := blk_cell ((((hb3.trans (hx3.mono hb3.size)).block _ (blk_lt NF.out))).trans NF.out) 0
 clear hb3 hr3 g3 l3 hx3
 rcases HCS.out with ⟨rfl, rfl, h256, hgl, _⟩ | ⟨hc, rfl, ha⟩
 · rcases HCT.out with ⟨rfl, rfl, h256', hgm, _⟩ | ⟨hc', rfl, ha'⟩
   · have f2' : (w3.alloc (.cells #[.int .i64 0, .int .i64 0] 26 (0, 0))).cell? ⟨w2.heap.size, 0, none⟩ = some (.int .i64 0) := f2
     clear f2
     by_cases hbig : s.size + t.size + 4 > 65536
     · have q1 : decide ((s.size : Int) + (t.size : Int) + 4 > 65536) = true := decide_eq_true (by omega)
       have q1' : decide ((65536 : Int) < (s.size : Int) + (t.size : Int) + 4) = true := decide_eq_true (by omega)
       go_wp2
       go_ret
       exact ⟨rfl, HB3.out⟩
     by_cases hbig' : l.length + l'.length > 256
     · have q1 : decide ((s.size : Int) + (t.size : Int) + 4 > 65536) = false := decide_eq_false (by omega)
       have q1' : decide ((65536 : Int) < (s.size : Int) + (t.size : Int) + 4) = false := decide_eq_false (by omega)
       have q2 : decide ((l.length : Int) + (l'.length : Int) > 256) = true := decide_eq_true (by omega)
       have q2' : decide ((256 : Int) < (l.length : Int) + (l'.length : Int)) = true := decide_eq_true (by omega)
       go_wp2
       go_ret
       exact ⟨rfl, HB3.out⟩
     have q1 : decide ((s.size : Int) + (t.size : Int) + 4 > 65536) = false := decide_eq_false (by omega)
     have q1' : decide ((65536 : Int) < (s.size : Int) + (t.size : Int) + 4) = false := decide_eq_false (by omega)
     have q2 : decide ((l.length : Int) + (l'.length : Int) > 256) = false := decide_eq_false (by omega)
     have q2' : decide ((256 : Int) < (l.length : Int) + (l'.length : Int)) = false := decide_eq_false (by omega)
     have HP := lines_pure s.data.toList t.data.toList l l' HE.out HE'.out (by rw [HSZ.out, HTZ.out]; omega) (by omega)
     have hud : (s ++ (⟨#[10, 32, 9, 10]⟩ : ByteArray) ++ t).data.toList = s.data.toList ++ ([10, 32, 9, 10] ++ t.data.toList) := by simp
     have hus : (s ++ (⟨#[10, 32, 9, 10]⟩ : ByteArray) ++ t).size = s.size + 4 + t.size := by
      rw [ByteArray.size_append, ByteArray.size_append]
      rfl
     rw [← hud] at HP
     have HPA := Aside0.mk HP
     have HGL := Aside0.mk hgl
     have HGM := Aside0.mk hgm
     clear hgl hgm
     have HUS := Aside0.mk hus
     have HG := Aside0.mk hbig
     have HG' := Aside0.mk hbig'
     clear HP hud hus hbig hbig'
     go_wp2_with fail
     generalize w3.alloc (.cells #[.int .i64 0, .int .i64 0] 26 (0, 0)) = X3 at *
     have HEV := Aside0.mk (Events_calls (s ++ (⟨#[10, 32, 9, 10]⟩ : ByteArray) ++ t) m X3 (by rw [HUS.out]; omega) (cell_below' HB3.out HM.out) (fun w9 h => (HLW.out w9 (HB3.out.trans (h.mono HB3.out.size))).te))
     rw [HPA.out] at HEV
     refine HEV.out.mono ?_
     clear HEV
     rintro e w4 ⟨hb4, v4, rfl, hr4⟩
     obtain ⟨A4, c4, e4, l4, g4⟩ := Kd.R_reads hr4
     subst e4
     dsimp only at g4 l4 hr4 ⊢
     have hx4 : Below w4.heap.size w4 (w4.alloc (.cells #[.int .i64 0, .int .i64 0] 26 (0, 0))) := (Below.refl _ _).alloc (Nat.le_refl _) _
     have hB := hb4.trans (hx4.mono hb4.size)
     have HB4 := Aside0.mk (HB3.out.trans (hB.mono HB3.out.size))
     have G4 := Aside0.mk (Kd.C_below g4 hx4)
     have GL := Aside0.mk (Kd.C_below G3.out hB)
     have HR4 := Aside0.mk (Kd.R_below HR3.out hB)
     have NF4 := Aside0.mk (blk_new w4 (.cells #[.int .i64 0, .int .i64 0] 26 (0, 0)))
     clear hb4 hr4 g4 l4 hx4 hB
     go_wp2_with fail
     generalize w4.alloc (.cells #[.int .i64 0, .int .i64 0] 26 (0, 0)) = X4 at *
     refine (Copy_calls l A2 c2 X4 (by have := h256; omega) (fun e he => (good_small (HGL.out e he)).1) (fun e he => (good_small (HGL.out e he)).2) GL.out L2.out).mono ?_
     rintro e w5 ⟨v5, rfl, hr5, hb5⟩
     have HB5 := Aside0.mk (HB4.out.trans (hb5.mono HB4.out.size))
     have HB5X := Aside0.mk hb5
     have HR5 := Aside0.mk hr5
     have hm5 := Kd.R_elder (Kd.R_lower HR4.out HB2.out.size) hr5 hb5
     obtain ⟨A6, c6, e6, _, hrow⟩ := OwnRow.reads hm5.2
     cases e6
     have HROW := Aside0.mk hrow
     have HO5 := Aside0.mk (Kd.R_lower hr5 HB4.out.size)
     clear hm5 hrow
     clear hb5 hr5
     go_wp2_with (first | ((with_reducible refine gate_dst (N := 76) rfl ?_); refine Kd.R_append_rows k39 (w0 := w) w.heap.size rfl (.tmp 74) (.tmp 75) 23 39 (.agg #[(.int .i64 0), (.int .i64 0), (.slice none 0 0)]) 40 rfl (by kernel_rfl) info39 rfl (by decide) (by omega) v5 l l' _ _ _ (fun _ => True) _ rfl rfl HO5.out HROW.out (fun _ _ h => h) (fun k hk => ⟨trivial, hk.1.2⟩) (fun _ _ => trivial) HB5.out HB5.out.size (by have := HG'.out; omega) ?_; intro v6 w6 ho6 hb6 hg6 hat6; have hx6 := pw_below_grown HB5X.out _ HB5X.out.size hg6 (fun k hk => own_base (Kd.R_own HR5.out).choose_spec k hk); have f6 := blk_cell ((hx6.block _ (blk_lt NF4.out)).trans NF4.out) 0; have G6 := Aside0.mk (Kd.C_below G4.out hx6); obtain ⟨A7, c7, e7, _, g7⟩ := Kd.R_reads ho6; subst e7; have G7 := Aside0.mk g7; have HB6 := Aside0.mk hb6; clear ho6 hb6 hg6 hat6 hx6 g7))
     have hlen : (l ++ l').length = l.length + l'.length := List.length_append
     have HS := Same_eq (l ++ l') A4 A7 c4 c7 w6 (by have := HG'.out; omega) (fun e he => by
      rcases List.mem_append.1 he with h | h
      · exact (HGL.out e h).2.2
      · exact (HGM.out e h).2.2) G6.out G7.out
     rw [hlen] at HS
     refine HS.mono ?_
     rintro e w7 ⟨rfl, hb7⟩
     have HB7 := Aside0.mk (HB6.out.trans (hb7.mono HB6.out.size))
     clear hb7
     go_wp2
     go_ret
     exact ⟨rfl, HB7.out⟩
   · have qc : ((c' : Int) != 0) = true := bne_iff_ne.2 (by omega)
     clear hc' ha'
     go_wp2
     go_ret
     exact ⟨rfl, HB3.out⟩
 · have qc : ((c : Int) != 0) = true := bne_iff_ne.2 (by omega)
   clear hc ha
   go_wp2
   go_ret
   exact ⟨rfl, HB3.out⟩
end Go.Proofs.YtamcicojockhpaaGreatDoor.Wi
end
section
set_option linter.unusedVariables false
set_option linter.unusedSimpArgs false
namespace Go.Proofs.YtamcicojockhpaaGreatDoor.WireLinesC
open Go.ChangeShapes Go.WideShapes Go.ChangeAt Go.RowKit
open Go.Proofs.YtamcicojockhpaaGreatDoor.Opn Go.Proofs.YtamcicojockhpaaGreatDoor.Lx Go.Proofs.YtamcicojockhpaaGreatDoor.Wi
theorem bulk_2 {H : Type} {a b : DataW H} (h : Rows.uptoSmall H ([a, b] ++ []) = true) : Rows.uptoBulk a + Rows.uptoBulk b ≤ 1048576 := by
 simp [Rows.uptoSmall, Rows.uptoBulkAll] at h
 omega
set_option maxRecDepth 100000 in
theorem contract (H : Type) (enc : TypeId × Value → H) (W : World) (base : Nat) (args : Array Value) (ds gs : List (DataW H)) (before : List MemPlace)
 (hval : ∀ (j : Nat) t v, Tryz.f7.params[j]? = some t → args[j]? = some v → Value.okWide Tryz.prog W .any base t v)
 (hW : DataW.Whole enc Tryz.prog Tryz.f7.params.toList Rows.wireLinesSpec.vars false W args.toList ds gs before) (hL : laidMetH Tryz.prog Rows.wireLinesUptoRow.laid W) (hsh : W.ShapedOpen Tryz.prog) (hk : Rows.uptoSmall H (ds ++ gs) = true) :
 Calls Tryz.prog 7 args W fun e W' => ∃ v, e = .returned v ∧ Rows.wireLinesSpec.post enc Tryz.prog Tryz.f7 false true false false W args v W' := by
 have hW' := hW
 obtain ⟨p, q, hA0, hV, rfl, hfz, hnd⟩ := hW
 have hA : DataW.TrodAll enc Tryz.prog W 0 (fun _ => true) true Tryz.f7.params.toList args.toList ds p := hA0
 rw [Tryz.params7] at hA hval
 obtain ⟨v0, vs0, d0, ds0, p0, q0, hargs, rfl, rfl, h0, r0⟩ := trodAll_cons hA
 obtain ⟨v1, vs1, d1, ds1, p1, q1, hargs1, rfl, rfl, h1, r1⟩ := trodAll_cons r0
 obtain ⟨rfl, rfl, rfl⟩ := trodAll_nil r1
 obtain rfl : args = #[v0, v1] := by cases args; simp_all
 obtain ⟨rfl, rfl⟩ := trodVars_none hV
 have b0 := bulk_2 hk
 obtain ⟨s0, rfl, hs0⟩ := arg_text (hval 0 _ v0 rfl rfl) h0
 obtain ⟨s1, rfl, hs1⟩ := arg_text (hval 1 _ v1 rfl rfl) h1
 obtain ⟨m0, hm0⟩ := ml_of hsh
 have LWH : LW W := lw_of rfl hL (by simp [Rows.wireLinesUptoRow]) (by simp [Rows.wireLinesUptoRow]) (by simp [Rows.wireLinesUptoRow]) (by simp [Rows.wireLinesUptoRow])
 refine (WireLines_at s0 s1 m0 W (by omega) (by omega) hm0 (fun w1 h => lw_below LWH h)).mono ?_
 rintro e W' ⟨rfl, hb⟩
 exact ⟨_, rfl, post_true hW' (by kernel_rfl) rfl rfl (by kernel_rfl) hb⟩
def zeroArgs : Array Value := #[.string ⟨#[]⟩, .string ⟨#[]⟩]
theorem door_met (os : Os) : laidMetH Tryz.prog Rows.wireLinesUptoRow.laid ((World.laidAll Tryz.prog os Rows.wireLinesUptoRow.laid).forCall (fun _ _ => 0) ⟨#[], zeroArgs, []⟩).memory :=
 by rw [Go.MakeChecks.laidMetH_plain _ _ _ (by kernel_rfl)]; exact laidMet_laidAll _ (by kernel_rfl) (by kernel_rfl)
theorem reads (os : Os) {H : Type} (enc : TypeId × Value → H) : ∃ places, DataW.whole enc Tryz.prog ((World.laidAll Tryz.prog os Rows.wireLinesUptoRow.laid).forCall (fun _ _ => 0) ⟨#[], zeroArgs, []⟩).memory Tryz.f7.params.toList Rows.wireLinesSpec.vars false zeroArgs.toList 8 = some ([.lit (.string []), .lit (.string [])], [], places) :=
 ⟨[], by kernel_rfl⟩
set_option maxRecDepth 100000 in
theorem liftedUpto (os : Os) (started : os.Started) (H : Type) (enc : TypeId × Value → H) (F : Stop.Interp) :
 ReturnsInHanded {} Tryz.checked os 7 .any ((Rows.OpenSpec.upto Rows.wireLinesSpec).preRow enc Tryz.prog Tryz.f7 Rows.wireLinesUptoRow.domain false Rows.wireLinesUptoRow.laid) (((Rows.OpenSpec.upto Rows.wireLinesSpec).at F).post enc Tryz.prog Tryz.f7 false true false false) := by
 obtain ⟨places, hx⟩ := reads os enc
 refine returnsInHanded_of_row (C := Tryz.checked) (s := Rows.OpenSpec.upto Rows.wireLinesSpec) own started (by kernel_rfl) Tryz.func7
  (witness_row_at (enc := enc) (C := Tryz.checked) false (World.laidAll Tryz.prog os Rows.wireLinesUptoRow.laid) zeroArgs (World.laidAll_os _ _ _) (by kernel_rfl) (by kernel_rfl) (by kernel_rfl)
   (OpenSpec.preRow_of_cond 8 hx (by kernel_rfl) (fun k hk => by cases hk; kernel_rfl) (by kernel_rfl) (door_met os))) ?_
 intro W base args ds gs before hval hW _ hcond _ hL hsh _
 exact contract H enc W base args ds gs before hval hW hL hsh (hcond _ rfl)
theorem saidUpto : Rows.WireLinesUptoSaid :=
 OpenClaim.holds_of_cond 7 Tryz.f7 rfl rfl rfl rfl rfl rfl rfl ⟨rfl, rfl, rfl, rfl, rfl⟩ rfl rfl rfl rfl rfl (by kernel_rfl) Tryz.func7 (by kernel_rfl)
  (of_decide_eq_true (by kernel_rfl)) (by unfold Func.isWrapper; first | (rw [if_pos (by decide +kernel)]; kernel_rfl) | (rw [if_neg (by decide +kernel)]; exact ⟨rfl, rfl⟩))
  (fun os started H enc _ F => by rw [OpenClaim.pre_eq_preRow]; exact liftedUpto os started H enc F)
theorem plain (f : FuncId) (fn : Func) (hf : Tryz.pinned.checked.prog.funcNamed "assize/assizelaw03.WireLines" = some f) (hfn : Tryz.pinned.checked.prog.funcs[f]? = some fn) :
 true = Tryz.pinned.checked.prog.looks [] ∧ ∀ (j : Nat) t, fn.params[j]? = some t → Tryz.pinned.checked.prog.wantsStandIn t = false := by
 obtain rfl : f = 7 := Option.some.inj ((show Tryz.prog.funcNamed "assize/assizelaw03.WireLines" = some 7 by kernel_rfl).symm.trans hf) |>.symm
 obtain rfl : fn = Tryz.f7 := (Option.some.inj (Tryz.func7.symm.trans hfn)).symm
 refine ⟨by kernel_rfl, fun j t ht => ?_⟩
 have hall : (Tryz.f7.params.toList.all fun t => !Tryz.prog.wantsStandIn t) = true := by kernel_rfl
 have hm : t ∈ Tryz.f7.params.toList := Array.mem_toList_iff.2 (Array.mem_of_getElem? ht)
 have : Tryz.prog.wantsStandIn t = false := by simpa using List.all_eq_true.1 hall t hm
 exact this
theorem cardUpto : Rows.WireLinesUptoCardSaid :=
 Claim7.holds_tied_plain_at .later [] _ _ _ _ saidUpto (fun _ h => by cases h) (by kernel_rfl) (fun _ h => by cases h) wireLinesUpto_row_tie rfl ⟨rfl, rfl⟩ (by kernel_rfl) rfl plain (by kernel_rfl)
end Go.Proofs.YtamcicojockhpaaGreatDoor.WireLinesC
namespace Go.Proofs.YtamcicojockhpaaGreatDoor
theorem wireLines_card : Rows.WireLinesUptoCardSaid := WireLinesC.cardUpto
end Go.Proofs.YtamcicojockhpaaGreatDoor
end
