/- lex: Tokens: the walk. -/
import Derived.Test.YtohlbnbfpcbpdaaDoorLxY
set_option linter.unusedVariables false
set_option linter.unusedSimpArgs false
namespace Go.Proofs.YtohlbnbfpcbpdaaDoor.Lx
open Go.RowKit Go.Proofs.YtohlbnbfpcbpdaaDoorW.PrintWords Go.Proofs.YtohlbnbfpcbpdaaDoorW.PrintLast Go.Proofs.YtohlbnbfpcbpdaaDoorW.PrintMore

theorem textR_step {l : List UInt8} : ∀ {f a : Nat} {acc o : List UInt8} {a2 : Nat}, textR l f a acc = some (o, a2) → a < a2 ∧ a2 ≤ l.length
  | 0, _, _, _, _, h => by cases h
  | f + 1, a, acc, o, a2, h => by
    unfold textR at h
    split at h
    · cases h
    · rename_i c hc
      have hlt := (List.getElem?_eq_some_iff.1 hc).1
      split at h
      · cases h
        exact ⟨by omega, by omega⟩
      · split at h
        · cases h
        · split at h
          · split at h
            · cases h
            · rename_i o' a' he
              have h1 := escR_step he
              have h2 := textR_step h
              exact ⟨by omega, h2.2⟩
          · have h2 := textR_step h
            exact ⟨by omega, h2.2⟩
theorem takeWhile_len (p : UInt8 → Bool) (l : List UInt8) (a : Nat) (ha : a ≤ l.length) : a + ((l.drop a).takeWhile p).length ≤ l.length := by
  have := (List.takeWhile_prefix p (l := l.drop a)).length_le
  rw [List.length_drop] at this
  omega
theorem nextR_step {l : List UInt8} {a : Nat} {t : Tk} {a2 : Nat} (h : nextR l a = some (t, a2)) : a < a2 ∧ a2 ≤ l.length := by
  unfold nextR at h
  split at h
  · cases h
  · rename_i c hc
    obtain ⟨hlt, hcc⟩ := List.getElem?_eq_some_iff.1 hc
    split at h
    · cases h
      omega
    · split at h
      · cases h
        omega
      · split at h
        · obtain ⟨⟨o, a'⟩, h1, h2⟩ := Option.map_eq_some_iff.1 h
          cases h2
          have := textR_step h1
          exact ⟨by omega, this.2⟩
        · split at h
          · obtain ⟨v, h1, h2⟩ := Option.map_eq_some_iff.1 h
            cases h2
            have := takeWhile_len isDigit l (a + 1) (by omega)
            exact ⟨by omega, by omega⟩
          · split at h
            · rename_i hd
              obtain ⟨v, h1, h2⟩ := Option.map_eq_some_iff.1 h
              cases h2
              have := takeWhile_len isDigit l a (by omega)
              have hpos : 0 < ((l.drop a).takeWhile isDigit).length := by
                rw [List.drop_eq_getElem_cons hlt, hcc, List.takeWhile_cons, if_pos hd]
                simp
              exact ⟨by omega, by omega⟩
            · split at h
              · rename_i hw
                cases h
                have := takeWhile_len isLow l a (by omega)
                have hpos : 0 < ((l.drop a).takeWhile isLow).length := by
                  cases hh : (l.drop a).takeWhile isLow with
                  | nil => rw [hh] at hw; cases hw
                  | cons _ _ => simp
                exact ⟨by omega, by omega⟩
              · cases h
theorem blank_enters (args : Array Value) (w : World) : (callFunc 52 args).run Tryd.prog w = .ok (.enter 52 args) w := enters_ Tryd.func52 (by kernel_rfl) (by kernel_rfl) args w
section
variable {P : Program} {ops : Array Oper} {Q : Exit → Act → World → Prop}
/-- A call of a Go function that panics. -/
theorem call_dies_ {oi : Oper} {N : Option Tmp} {a : Act} {w : World} {K : Act → World → Prop} (f : FuncId) (args : Array Value) (hw : Region.wanted oi (yielded ops a.tmps) = true) (hN : oi.dst = N) (hrun : (execOp a.eval oi).run P w = .ok (.enter f args) w)
    (h : Calls P f args w fun e w' => ∃ c, e = .panicked c ∧ Q (.panic c) a w') : if Region.wanted oi (yielded ops a.tmps) = true then Oper.wp P oi a w K Q else K (a.put N undef) w := by
  rw [if_pos hw]
  subst hN
  unfold Oper.wp
  rw [hrun, Oper.upon_enter]
  refine h.mono fun e w'' hh => ?_
  obtain ⟨c, rfl, hk⟩ := hh
  exact hk
end
theorem infoTok : (Tryd.prog.info? 73).map (fun i => (i.zero, i.size, i.bytes)) = some (some (.agg #[.int .i64 0, .string ⟨#[]⟩, .int .i64 0, .int .i64 0]), 4, 40) := by kernel_rfl
theorem far_set (w : World) (b j : Nat) (v : Value) (k : Nat) (h : k ≠ b) : (w.setCell ⟨b, j, none⟩ v).heap[k]? = w.heap[k]? := Below.heap_setCell _ _ _ _ h
theorem results_put (tmps : Array Value) (i : Nat) (v : Value) (h : 4 ≤ i) : results Tryd.f42 (tmps.setIfInBounds i v) = results Tryd.f42 tmps := by
  simp [results, Tryd.results42, Array.getElem?_setIfInBounds_ne (show i ≠ 2 by omega), Array.getElem?_setIfInBounds_ne (show i ≠ 3 by omega)]
theorem leaves_put (R : Ending → World → Prop) (tmps : Array Value) (i : Nat) (v : Value) (h : 4 ≤ i) : ∀ (ds : List Deferred) (u : FrameMode) (w : World),
    Leaves Tryd.prog Tryd.f42 (tmps.setIfInBounds i v) R ds u w → Leaves Tryd.prog Tryd.f42 tmps R ds u w
  | [], u, w, hl => by
    cases u with
    | run => exact hl
    | returning =>
      obtain ⟨x, hx, hr⟩ := hl
      rw [results_put tmps i v h] at hx
      exact ⟨x, hx, hr⟩
    | panicking c => exact hl
  | d :: ds, u, w, hl => by
    obtain ⟨h1, fv, cap, f, args, h2, h3, h4⟩ := hl
    refine ⟨h1, fv, cap, f, args, h2, h3, h4.mono fun e u' w' hh => ?_⟩
    cases e with
    | returned x => exact leaves_put R tmps i v h ds _ _ hh
    | panicked c => exact leaves_put R tmps i v h ds _ _ hh
    | outgrown => exact hh
/-- A token's cells. -/
def tkCs (t : Tk) : List Value := [.int .i64 t.kind, .string ⟨t.text.toArray⟩, .int .i64 t.num, .int .i64 t.pos]
def tksCs (ts : List Tk) : List Value := ts.flatMap tkCs
theorem tksCs_snoc (ts : List Tk) (t : Tk) : tksCs ts ++ tkCs t = tksCs (ts ++ [t]) := by simp [tksCs]
set_option maxRecDepth 100000 in
set_option maxHeartbeats 2000000 in
theorem Tokens_long (l : List UInt8) (w : World) (hl : 65536 < l.length) :
    Calls Tryd.prog 42 #[.string ⟨l.toArray⟩] w fun e w' => e = .returned (.tuple #[.slice none 0 0, .agg #[.int .i64 2, .int .i64 0]]) ∧ Below w.heap.size w w' := by
  have hsz : (ByteArray.mk l.toArray).size = l.length := by simp [ByteArray.size]
  have hlz : (65536 : Int) < (l.length : Int) := by omega
  have hmf : ∀ (fn : Fn) (first cap : Array Value) (w : World), (Instr.makeFunc fn first cap).run Tryd.prog w = .ok (.func fn first cap) w := fun _ _ _ _ => rfl
  go_enter_defers Tryd.func42, Tryd.ntmps42
  go_wp2
  exact ⟨.tuple #[.slice none 0 0, .agg #[.int .i64 2, .int .i64 0]], by simp [results, Tryd.results42, go_sem], rfl, ((Below.refl _ _).alloc (Nat.le_refl _) _).alloc (by simp) _⟩
theorem results_Tokens (tmps : Array Value) (w : World) (p q : Nat) (x y z : Value) (h2 : tmps.getD 2 undef = .pointer (some ⟨p, 0, none⟩)) (h3 : tmps.getD 3 undef = .pointer (some ⟨q, 0, none⟩))
    (hp : w.heap[p]? = some (.cells #[x] 67 (0, 0))) (hq : w.heap[q]? = some (.cells #[y, z] 69 (0, 0))) : (results Tryd.f42 tmps).run Tryd.prog w = .ok (.tuple #[x, .agg #[y, z]]) w := by
  have c0 := blk_cell hp 0
  have c1 := blk_cell hq 0
  have c2 := blk_cell hq 1
  rw [Array.getD_eq_getD_getElem?] at h2 h3
  simp [results, Tryd.results42, h2, h3, c0, c1, c2, go_sem]
/-- What holds while the region of an append goes on. -/
structure MT (ts : List Tk) (Av : Option Addr) (cv : Nat) (w w' : World) : Prop where
  cell : w'.cell? ⟨w.heap.size, 0, none⟩ = some (.slice Av ts.length cv)
  bel : Below w.heap.size w w'
  a : w'.heap[w.heap.size]? = some (.cells #[.slice Av ts.length cv] 67 (0, 0))
  b : w'.heap[w.heap.size + 1]? = some (.cells #[.int .i64 0, .int .i64 0] 69 (0, 0))
  sz : w.heap.size + 3 ≤ w'.heap.size
/-- What a run of Tokens leaves. -/
def TokQ (X : List Tk ⊕ Nat) (w : World) (e : Ending) (w' : World) : Prop := Below w.heap.size w w' ∧
  (∀ ts, X = .inl ts → ∃ v, e = .returned (.tuple #[v, .agg #[.int .i64 0, .int .i64 0]]) ∧ w'.ownsRow w.heap.size 73 4 v ts.length (tksCs ts)) ∧
  (∀ a, X = .inr a → e = .returned (.tuple #[.slice none 0 0, .agg #[.int .i64 10, .int .i64 a]]))
set_option maxRecDepth 100000 in
set_option maxHeartbeats 2000000 in
theorem Tokens_short (l : List UInt8) (w : World) (hl : l.length ≤ 65536) (hte : ∀ w1, Below w.heap.size w w1 → TE w1) :
    Calls Tryd.prog 42 #[.string ⟨l.toArray⟩] w (TokQ (toksR l (l.length + 1) 0 []) w) := by
  have hsz : (ByteArray.mk l.toArray).size = l.length := by simp [ByteArray.size]
  have hlz : ¬ (65536 : Int) < (l.length : Int) := by omega
  have hmf : ∀ (fn : Fn) (first cap : Array Value) (w : World), (Instr.makeFunc fn first cap).run Tryd.prog w = .ok (.func fn first cap) w := fun _ _ _ _ => rfl
  have HTE := Aside0.mk hte
  generalize hX : toksR l (l.length + 1) 0 [] = X
  have HX := Aside0.mk hX
  clear hX hte
  go_enter_defers Tryd.func42, Tryd.ntmps42
  go_wp2
  go_loopg [] (l.length) (fun kq w2 => ∃ (n f : Nat) (ts : List Tk) (v : Value), n + kq = l.length ∧ l.length < n + f ∧ ts.length ≤ n ∧ w.heap.size + 3 ≤ w2.heap.size ∧ Aside0 (toksR l f n ts = X) ∧ Aside0 (RD (w.heap.size + 1 + 1) l n w2) ∧
    Aside0 (w2.heap[w.heap.size]? = some (.cells #[v] 67 (0, 0))) ∧ Aside0 (w2.heap[w.heap.size + 1]? = some (.cells #[.int .i64 0, .int .i64 0] 69 (0, 0))) ∧ Aside0 (w2.ownsRow (w.heap.size + 1 + 1 + 1) 73 4 v ts.length (tksCs ts)) ∧ Aside0 (Below w.heap.size w w2))
  case atStart =>
    refine ⟨0, l.length + 1, [], .slice none 0 0, by omega, by omega, by simp, by simp, HX, Aside0.mk ?_, Aside0.mk ?_, Aside0.mk ?_, Aside0.mk (World.ownsRow_nil _ _ _ _), Aside0.mk ?_⟩
    · simp only [RD, World.alloc]
      rw [show w.heap.size + 1 + 1 = ((w.heap.push (.cells #[.slice none 0 0] 67 (0, 0))).push (.cells #[.int .i64 0, .int .i64 0] 69 (0, 0))).size by simp, Array.getElem?_push_size]
      rfl
    · simp only [World.alloc]
      rw [Array.getElem?_push_lt (by simp; omega), Array.getElem_push_lt (by simp), Array.getElem_push_eq]
    · simp only [World.alloc]
      rw [Array.getElem?_push_lt (by simp), Array.getElem_push]
      simp
    · exact (((Below.refl _ _).alloc (Nat.le_refl _) _).alloc (by simp) _).alloc (by simp; omega) _
  case round =>
    obtain ⟨n, f, ts, v, hn, hnf, hts, hsz2, HT, HR2, HA, HB, HO, HBel⟩ := hrel
    obtain ⟨f, rfl⟩ : ∃ m, f = m + 1 := ⟨f - 1, by omega⟩
    go_wp2_with fail
    refine (while_calls (w.heap.size + 1 + 1) l n 52 isBlank _ blank_enters blank_calls HR2.out (by omega) (by omega)).mono ?_
    rintro e w3 ⟨rfl, hr3, hk3⟩
    have hla : n + ((l.drop n).takeWhile isBlank).length ≤ l.length := by
      have := (List.takeWhile_prefix isBlank (l := l.drop n)).length_le
      rw [List.length_drop] at this
      omega
    have hna : n ≤ n + ((l.drop n).takeWhile isBlank).length := Nat.le_add_right _ _
    rw [show toksR l (f + 1) n ts = if n + ((l.drop n).takeWhile isBlank).length = l.length then .inl ts else
      match nextR l (n + ((l.drop n).takeWhile isBlank).length) with
      | none => .inr (n + ((l.drop n).takeWhile isBlank).length)
      | some (t, a2) => toksR l f a2 (ts ++ [t]) from rfl] at HT
    generalize n + ((l.drop n).takeWhile isBlank).length = at' at *
    obtain ⟨Av, cv, rfl⟩ := own_slice HO.out
    have hA3 := (hk3.2.2 w.heap.size (by omega) (by omega)).trans HA.out
    have hB3 := (hk3.2.2 (w.heap.size + 1) (by omega) (by omega)).trans HB.out
    have HO3 := Aside0.mk (own_move HO.out fun k hk => hk3.2.2 k (own_lt HO.out k hk) (by have := own_base HO.out k hk; omega))
    have hsz3 : w.heap.size + 3 ≤ w3.heap.size := Nat.le_trans hsz2 hk3.2.1
    have HBel3 := Aside0.mk (HBel.out.trans (hk3.1.mono (by omega)))
    have c0 : w3.cell? ⟨w.heap.size + 1 + 1, 0, none⟩ = some (.string ⟨l.toArray⟩) := blk_cell hr3 0
    have c1 : w3.cell? ⟨w.heap.size + 1 + 1, 1, none⟩ = some (.int .i64 at') := blk_cell hr3 1
    have a0 := blk_cell hA3 0
    have b0 := blk_cell hB3 0
    have b1 := blk_cell hB3 1
    have fa := fun j => blk_frozen hA3 j
    have fb := fun j => blk_frozen hB3 j
    have HA3 := Aside0.mk hA3
    have HB3 := Aside0.mk hB3
    have HR3 := Aside0.mk hr3
    clear hA3 hB3 hr3 hk3 HR2 HA HB HO HBel
    by_cases hend : at' = l.length
    · rw [if_pos hend] at HT
      have hgb : ((at' : Int) == (l.length : Int)) = true := by simp; omega
      clear hend
      go_wp2
      go_region
      go_wp2
      refine leaves_cons (f := 50) (args := #[.pointer (some ⟨w.heap.size, 0, none⟩), .pointer (some ⟨w.heap.size + 1, 0, none⟩)]) (by simp) (by simp [go_sem]) ?_
      refine (catch_idle _ _ _).mono ?_
      rintro e u' w4 ⟨rfl, rfl, rfl⟩
      refine ⟨.tuple #[.slice Av ts.length cv, .agg #[.int .i64 0, .int .i64 0]], ?_, ?_⟩
      · refine results_Tokens _ _ w.heap.size (w.heap.size + 1) _ _ _ rfl rfl ?_ ?_
        · exact ((far_set _ _ _ _ _ (by omega)).trans (far_set _ _ _ _ _ (by omega))).trans (blk_put HA3.out 0 _ rfl)
        · exact blk_put (blk_put ((far_set _ _ _ _ _ (by omega)).trans HB3.out) 0 _ rfl) 1 _ rfl
      · refine ⟨?_, (fun ts' h => ?_), (fun a h => ?_)⟩
        · exact pw_below_drewN (((HBel3.out.setCell (p := ⟨w.heap.size, 0, none⟩) (Nat.le_refl _) _).setCell (p := ⟨w.heap.size + 1, 0, none⟩) (by simp) _).setCell (p := ⟨w.heap.size + 1, 1, none⟩) (by simp) _) 1
        · rw [← HT.out] at h
          cases h
          refine ⟨_, rfl, own_weaken (own_move HO3.out fun k hk => ?_) (by omega)⟩
          have hk3 := own_base HO3.out k hk
          exact ((far_set _ _ _ _ _ (by omega)).trans (far_set _ _ _ _ _ (by omega))).trans (far_set _ _ _ _ _ (by omega))
        · rw [← HT.out] at h
          cases h
    · rw [if_neg hend] at HT
      have hgb : ((at' : Int) == (l.length : Int)) = false := by simp; omega
      have hN := next_calls (w.heap.size + 1 + 1) l at'
      have HN := Aside0.mk hN
      clear hN
      cases hx : nextR l at' with
      | none =>
        rw [hx] at HT
        have HX := Aside0.mk hx
        clear hx
        go_wp2
        refine start_ (n := 6) (S := MT ts Av cv w) (ds := [5]) #[false, false, false, false, false, false] (by kernel_rfl) rfl rfl ⟨a0, pw_below_drewN HBel3.out 1, HA3.out, HB3.out, hsz3⟩ (fun hHeld => ?_)
        refine take_ (i := 0) (N := some 24) (v := ?_) (a' := ?_) #[true, false, false, false, false, false] rfl rfl (by kernel_rfl) (fun _ _ _ h => leaves_put _ _ 24 _ (by omega) _ _ _ h) (Or.inl ⟨by rfl, ?_⟩) hHeld ?_ ?_
        rotate_left
        · rintro w' ⟨s0, _⟩
          go_simp
          with_reducible rfl
        rotate_left
        · simp only [Act.put, List.setIfInBounds_toArray, List.set_cons_zero, List.set_cons_succ, i64_w, i32_w]
          rfl
        refine pure_ (i := 1) (N := some 25) (v := ?_) (a' := ?_) #[true, true, false, false, false, false] rfl rfl (by kernel_rfl) (fun _ _ _ h => leaves_put _ _ 25 _ (by omega) _ _ _ h) (Or.inl ⟨by rfl, ?_⟩) ?_ ?_
        rotate_left
        · intro w'
          go_simp
          with_reducible rfl
        rotate_left
        · simp only [Act.put, List.setIfInBounds_toArray, List.set_cons_zero, List.set_cons_succ, i64_w, i32_w]
          rfl
        refine one_ (i := 2) (N := some 26) #[true, true, true, false, false, false] rfl rfl (by kernel_rfl) (by decide) (fun K hK => ?_)
        refine call_dies_ 53 #[.pointer (some ⟨w.heap.size + 1 + 1, 0, none⟩)] (by rfl) rfl (by
          have he := enters_ Tryd.func53 (by kernel_rfl) (by kernel_rfl) #[.pointer (some ⟨w.heap.size + 1 + 1, 0, none⟩)] w3.drew
          unfold execOp
          simp [resolve, Deferred.ofValue, invoke, Act.eval, he]) ?_
        refine (HN.out w3.drew HR3.out (by omega) (by omega) (fun w1 h1 => HTE.out w1 (hHeld.bel.trans (h1.mono (by omega))))).mono ?_
        rintro e w4 ⟨hk4, _, hn4⟩
        have he := hn4 HX.out
        refine ⟨_, he, ?_⟩
        have hA4 := (hk4.2.2 w.heap.size (by have := hHeld.sz; omega) (by omega)).trans hHeld.a
        have hB4 := (hk4.2.2 (w.heap.size + 1) (by have := hHeld.sz; omega) (by omega)).trans hHeld.b
        have hs4 := hk4.2.1
        have hb4 := hHeld.bel.trans (hk4.1.mono (by omega))
        have hz3 := hHeld.sz
        show Leaves _ _ _ _ [_] _ _
        refine leaves_cons (f := 50) (args := #[.pointer (some ⟨w.heap.size, 0, none⟩), .pointer (some ⟨w.heap.size + 1, 0, none⟩)]) (by simp) (by simp [go_sem]) ?_
        refine (catch_panicking w.heap.size (w.heap.size + 1) _ _ _ at' [] w4 (by omega) hA4 hB4).mono ?_
        rintro e u' w5 ⟨rfl, rfl, h1, h2, h3⟩
        refine ⟨.tuple #[.slice none 0 0, .agg #[.int .i64 10, .int .i64 at']], ?_, ?_⟩
        · exact results_Tokens _ _ w.heap.size (w.heap.size + 1) _ _ _ rfl rfl h1 h2
        · refine ⟨hb4.trans (h3 _ (Nat.le_refl _) (by omega) (by omega)), (fun ts' h => ?_), (fun a h => ?_)⟩
          · rw [← HT.out] at h
            cases h
          · rw [← HT.out] at h
            cases h
            rfl
      | some p =>
        obtain ⟨t, a2⟩ := p
        rw [hx] at HT
        have HX := Aside0.mk hx
        clear hx
        go_wp2
        refine start_ (n := 6) (S := MT ts Av cv w) (ds := [5]) #[false, false, false, false, false, false] (by kernel_rfl) rfl rfl ⟨a0, pw_below_drewN HBel3.out 1, HA3.out, HB3.out, hsz3⟩ (fun hHeld => ?_)
        refine take_ (i := 0) (N := some 24) (v := ?_) (a' := ?_) #[true, false, false, false, false, false] rfl rfl (by kernel_rfl) (fun _ _ _ h => leaves_put _ _ 24 _ (by omega) _ _ _ h) (Or.inl ⟨by rfl, ?_⟩) hHeld ?_ ?_
        rotate_left
        · rintro w' ⟨s0, _⟩
          go_simp
          with_reducible rfl
        rotate_left
        · simp only [Act.put, List.setIfInBounds_toArray, List.set_cons_zero, List.set_cons_succ, i64_w, i32_w]
          rfl
        refine pure_ (i := 1) (N := some 25) (v := ?_) (a' := ?_) #[true, true, false, false, false, false] rfl rfl (by kernel_rfl) (fun _ _ _ h => leaves_put _ _ 25 _ (by omega) _ _ _ h) (Or.inl ⟨by rfl, ?_⟩) ?_ ?_
        rotate_left
        · intro w'
          go_simp
          with_reducible rfl
        rotate_left
        · simp only [Act.put, List.setIfInBounds_toArray, List.set_cons_zero, List.set_cons_succ, i64_w, i32_w]
          rfl
        refine one_ (i := 2) (N := some 26) #[true, true, true, false, false, false] rfl rfl (by kernel_rfl) (by decide) (fun K hK => ?_)
        refine call_ 53 #[.pointer (some ⟨w.heap.size + 1 + 1, 0, none⟩)] (by rfl) rfl (by
          have he := enters_ Tryd.func53 (by kernel_rfl) (by kernel_rfl) #[.pointer (some ⟨w.heap.size + 1 + 1, 0, none⟩)] w3.drew
          unfold execOp
          simp [resolve, Deferred.ofValue, invoke, Act.eval, he]) ?_
        refine (HN.out w3.drew HR3.out (by omega) (by omega) (fun w1 h1 => HTE.out w1 (hHeld.bel.trans (h1.mono (by omega))))).mono ?_
        rintro e w4 ⟨hk4, hs4, _⟩
        obtain ⟨he, hr4⟩ := hs4 t a2 HX.out
        have hA4 := (hk4.2.2 w.heap.size (by have := hHeld.sz; omega) (by omega)).trans hHeld.a
        have hB4 := (hk4.2.2 (w.heap.size + 1) (by have := hHeld.sz; omega) (by omega)).trans hHeld.b
        have hs4 := hk4.2.1
        have hb4 := hHeld.bel.trans (hk4.1.mono (by omega))
        have hz3 := hHeld.sz
        have ho4 := own_move HO3.out fun k hk => hk4.2.2 k (own_lt HO3.out k hk) (by have := own_base HO3.out k hk; omega)
        refine ⟨_, he, hK.out _ _ ⟨blk_cell hA4 0, hb4, hA4, hB4, by omega⟩ fun hHeld => ?_⟩
        refine norm_ (a' := ?_) ?_ ?_
        rotate_left
        · simp only [Act.put, List.setIfInBounds_toArray, List.set_cons_zero, List.set_cons_succ]
          rfl
        clear hK K
        refine one_ (i := 3) (N := some 27) #[true, true, true, true, false, false] rfl rfl (by kernel_rfl) (by decide) (fun K hK => ?_)
        rw [if_pos (by rfl)]
        unfold Oper.wp tkV
        go_simp
        have hb5 := (Below.refl w4.heap.size w4).alloc (Nat.le_refl _) (.cells (tkCs t).toArray 73)
        refine hK.out _ _ ⟨blk_cell ((hb5.block _ (by omega)).trans hA4) 0, hb4.trans (hb5.mono (by omega)), (hb5.block _ (by omega)).trans hA4, (hb5.block _ (by omega)).trans hB4, Nat.le_trans (by omega) hb5.size⟩ fun hHeld => ?_
        clear hK K
        refine one_ (i := 4) (N := some 28) #[true, true, true, true, true, false] rfl rfl (by kernel_rfl) (by decide) (fun K hK => ?_)
        refine step_append_cells (w0 := w4) (W := w4) (w.heap.size + 1 + 1 + 1) (by rfl) (.tmp 24) (.tmp 27) 67 73 (.agg #[.int .i64 0, .string ⟨#[]⟩, .int .i64 0, .int .i64 0]) 4 40 rfl Tryd.underlying67 infoTok rfl (by decide) (by decide) _ ts.length (tksCs ts) (tkCs t) rfl rfl rfl (by simp [tkCs, Value.oneCell']) ho4 (Below.refl _ _) (by omega) (by omega) ?_
        intro v1 w5 ho5 hb5 hg5 hat5
        have hsz4 : w.heap.size + 3 ≤ w4.heap.size := by omega
        have hg5b : ∀ k, k < w4.heap.size → (Value.slice Av ts.length cv).ownBlock ≠ some k → w5.heap[k]? = w4.heap[k]? := fun k h1 h2 => hg5.block k h1 fun e => h2 e.symm
        have hne : ∀ k, k < w.heap.size + 3 → (Value.slice Av ts.length cv).ownBlock ≠ some k := fun k hk e => by
          have := own_base ho4 k e
          omega
        have hA5 := (hg5b w.heap.size (by omega) (hne _ (by omega))).trans hA4
        have hB5 := (hg5b (w.heap.size + 1) (by omega) (hne _ (by omega))).trans hB4
        have hR5 : RD (w.heap.size + 1 + 1) l a2 w5 := (hg5b (w.heap.size + 1 + 1) (by omega) (hne _ (by omega))).trans hr4
        have hz5 := hg5.size
        have hb5' : Below w.heap.size w w5 := hb4.trans (hb5.mono (by omega))
        obtain ⟨A1, c1', rfl⟩ := own_slice ho5
        have HA5 := Aside0.mk hA5
        have HB5 := Aside0.mk hB5
        have HR5 := Aside0.mk hR5
        have HBel5 := Aside0.mk hb5'
        have HO5 := Aside0.mk ho5
        have e0 := blk_cell hA5 0
        have fe := fun j => blk_frozen hA5 j
        refine hK.out _ _ ⟨e0, hb5', hA5, hB5, by omega⟩ fun hHeld => ?_
        clear hK K hA5 hB5 hR5 hb5' ho5 hg5 hg5b hb5 hat5 hA4 hB4 ho4 hr4 hk4 hs4
        refine norm_ (a' := ?_) ?_ ?_
        rotate_left
        · simp only [Act.put, List.setIfInBounds_toArray, List.set_cons_zero, List.set_cons_succ]
          rfl
        refine last_ (i := 5) (N := none) #[true, true, true, true, true, true] rfl rfl (by kernel_rfl) (by decide) (fun K hK => ?_)
        rw [if_pos (by rfl)]
        unfold Oper.wp
        go_simp
        refine hK.out _ _ ?_
        clear hK K
        refine done_ (by kernel_rfl) ?_
        go_wp2
        have hst := nextR_step HX.out
        go_roundg (l.length - a2)
        case measure => omega
        case rel =>
          refine ⟨a2, f, ts ++ [t], .slice A1 (ts.length + 1) c1', by omega, by omega, by rw [List.length_append]; simp; omega, by simp [World.setCell]; omega, HT, Aside0.mk (RD.setHi HR5.out _ _ _ (by omega)), Aside0.mk (blk_put HA5.out 0 _ rfl), Aside0.mk ((far_set _ _ _ _ _ (by omega)).trans HB5.out), Aside0.mk ?_, Aside0.mk (HBel5.out.setCell (p := ⟨w.heap.size, 0, none⟩) (Nat.le_refl _) _)⟩
          rw [← tksCs_snoc, List.length_append]
          exact own_move HO5.out fun k hk => far_set _ _ _ _ _ (by have := own_base HO5.out k hk; omega)
end Go.Proofs.YtohlbnbfpcbpdaaDoor.Lx
