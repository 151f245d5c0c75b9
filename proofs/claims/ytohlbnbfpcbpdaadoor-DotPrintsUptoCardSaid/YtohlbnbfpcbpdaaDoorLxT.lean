/- lex: escape: the walk. -/
import Derived.Test.YtohlbnbfpcbpdaaDoorLxW
import Derived.Lib.IndexLaws
import Derived.Deep.QuietTactic
import Derived.BigQuiet
import Derived.Test.YtohlbnbfpcbpdaaDoorShelf
set_option linter.unusedVariables false
set_option linter.unusedSimpArgs false
namespace Go.Proofs.YtohlbnbfpcbpdaaDoor.Lx
open Go.RowKit Go.Proofs.YtohlbnbfpcbpdaaDoorW.PrintWords Go.Proofs.YtohlbnbfpcbpdaaDoorW.PrintLast Go.Proofs.YtohlbnbfpcbpdaaDoorW.PrintMore

attribute [local go_sem] idx_list
/-- All below b stays but the reader's block r. -/
def KB (r b : Nat) (w w' : World) : Prop := Below r w w' ∧ w.heap.size ≤ w'.heap.size ∧ ∀ k, k < b → k ≠ r → w'.heap[k]? = w.heap[k]?
theorem KB.refl (r b : Nat) (w : World) : KB r b w w := ⟨Below.refl _ _, Nat.le_refl _, fun _ _ _ => rfl⟩
theorem KB.trans {r b : Nat} {w w1 w2 : World} (h : KB r b w w1) (k : KB r b w1 w2) : KB r b w w2 := ⟨h.1.trans k.1, Nat.le_trans h.2.1 k.2.1, fun j hj hr => (k.2.2 j hj hr).trans (h.2.2 j hj hr)⟩
theorem KB.set {r b : Nat} {w w1 : World} (h : KB r b w w1) (j : Nat) (v : Value) : KB r b w (w1.setCell ⟨r, j, none⟩ v) := ⟨h.1.setCell (p := ⟨r, j, none⟩) (Nat.le_refl _) v, by simpa [World.setCell] using h.2.1, fun k hk hr => (Below.heap_setCell _ _ _ _ hr).trans (h.2.2 k hk hr)⟩
theorem KB.below {r b : Nat} {w w' : World} (h : Below b w w') (hr : r < b) : KB r b w w' := ⟨h.mono (Nat.le_of_lt hr), h.size, fun k hk _ => h.block k hk⟩
theorem KB.drew {r b : Nat} {w w1 : World} (h : KB r b w w1) : KB r b w w1.drew := ⟨⟨h.1.os, h.1.tape, h.1.output, h.1.size, h.1.block⟩, h.2.1, h.2.2⟩
theorem KB.mono {r b c : Nat} {w w1 : World} (h : KB r c w w1) (hbc : b ≤ c) : KB r b w w1 := ⟨h.1, h.2.1, fun k hk hr => h.2.2 k (Nat.lt_of_lt_of_le hk hbc) hr⟩
theorem TE.drewN {w : World} (h : TE w) (n : Nat) : TE (w.drewN n) := h
theorem KB.drewN {r b : Nat} {w w1 : World} (h : KB r b w w1) (n : Nat) : KB r b w (w1.drewN n) := ⟨⟨h.1.os, h.1.tape, h.1.output, h.1.size, h.1.block⟩, h.2.1, h.2.2⟩
theorem BAt.setR {Br b : Nat} {v : Value} {bs : List Value} {w : World} (h : BAt Br b v bs w) (r j : Nat) (x : Value) (hr : r < b) : BAt Br b v bs (w.setCell ⟨r, j, none⟩ x) := h.move fun k _ h2 => Below.heap_setCell _ _ _ _ (fun e => by
  rcases h2 with h2 | h2
  · have : r = b := e.symm.trans h2
    omega
  · have := own_base h.row k h2
    have := h.lt
    have : r = k := e.symm
    omega)
theorem RD.kept {r : Nat} {l : List UInt8} {a b : Nat} {w w' : World} (h : RD r l a w) (hb : Below b w w') (hr : r < b) : RD r l a w' := (hb.block r hr).trans h
theorem hex_ascii : ∀ n : Nat, n < 256 → (hexD n).isSome = true → n < 128 ∧ n ≠ 43 ∧ n ≠ 45 ∧ n ≠ 95 := by decide +kernel
theorem hexN_bytes : ∀ (t : List UInt8) (acc n : Nat), hexN acc t = some n → ∀ c, c ∈ t → c.toNat < 128 ∧ c.toNat ≠ 43 ∧ c.toNat ≠ 45 ∧ c.toNat ≠ 95
  | [], _, _, _ => fun c h => absurd h (by simp)
  | a :: t, acc, n, h => fun c hc => by
    unfold hexN at h
    cases hd : hexD a.toNat with
    | none => rw [hd] at h; cases h
    | some d =>
      rw [hd] at h
      rcases List.mem_cons.1 hc with rfl | hc
      · exact hex_ascii _ (UInt8.toNat_lt c) (by rw [hd]; rfl)
      · exact hexN_bytes t _ n h c hc
theorem indexAny_none (chars : List UInt8) : ∀ l : List UInt8, (∀ c, c ∈ l → chars.contains c = false) → Lib.indexAny l chars = -1
  | [], _ => rfl
  | b :: l, h => by
    unfold Lib.indexAny
    rw [h b (by simp), indexAny_none chars l (fun c hc => h c (by simp [hc]))]
    rfl
theorem hexN_noAny (t : List UInt8) (n : Nat) (h : hexN 0 t = some n) : Lib.containsAny t [43, 45, 95] = false := by
  unfold Lib.containsAny
  rw [indexAny_none _ _ fun c hc => ?_]
  · rfl
  · have hb := hexN_bytes t 0 n h c hc
    have hne : ∀ m : UInt8, c.toNat ≠ m.toNat → (c == m) = false := fun m hm => beq_eq_false_iff_ne.2 (fun e => hm (by rw [e]))
    simp [List.contains, List.elem, hne 43 hb.2.1, hne 45 hb.2.2.1, hne 95 hb.2.2.2]
theorem validB (n : Nat) (hn : n ≤ 65535) : Lib.validRune (n : Int) = !decide (55296 ≤ n ∧ n ≤ 57343) := by
  unfold Lib.validRune
  rw [Bool.eq_iff_iff]
  simp only [decide_eq_true_eq, Bool.not_eq_true', decide_eq_false_iff_not]
  omega
theorem any_ascii : ∀ (j : Nat) (b : UInt8), (ByteArray.mk #[43, 45, 95]).data.toList[j]? = some b → b.toNat < 128 := by
  intro j b hj
  have := List.mem_of_getElem? hj
  simp at this
  rcases this with rfl | rfl | rfl <;> decide
theorem indexByte_lt (l : List UInt8) (c : UInt8) (h : 0 ≤ Lib.indexByte l c) : Lib.indexByte l c < l.length := by
  obtain ⟨o, ho⟩ := Int.eq_ofNat_of_zero_le h
  have := (Lib.indexByte_some ho).1
  obtain ⟨h1, _⟩ := List.getElem?_eq_some_iff.1 this
  omega
set_option maxRecDepth 100000 in
set_option maxHeartbeats 2000000 in
theorem escape_calls (r : Nat) (l : List UInt8) (at' fr : Nat) (Br b : Nat) (v : Value) (bs : List UInt8) (w : World) (hr : RD r l at' w) (hb : BAt Br b v (Lib.byteCells bs) w) (hrb : r < b) (hat : at' ≤ l.length) (hl : l.length ≤ 1000000000000) (hbs : bs.length ≤ 1000000000000) (hBr : Br ≤ w.heap.size) (hte : ∀ w1, Below r w w1 → TE w1) :
    Calls Tryd.prog 81 #[.pointer (some ⟨r, 0, none⟩), .pointer (some ⟨b, 0, none⟩), .int .i64 fr] w fun e w' => KB r b w w' ∧
      (∀ out at2, escR l at' = some (out, at2) → e = .returned (.tuple #[]) ∧ RD r l at2 w' ∧ ∃ v', BAt Br b v' (Lib.byteCells (bs ++ out)) w') ∧
      (escR l at' = none → e = .panicked [{ v := broken fr, recovered := false }]) := by
  have HR := Aside0.mk hr
  have HB := Aside0.mk hb
  have HTE := Aside0.mk hte
  have c0 : w.cell? ⟨r, 0, none⟩ = some (.string ⟨l.toArray⟩) := blk_cell hr 0
  have c1 : w.cell? ⟨r, 1, none⟩ = some (.int .i64 at') := blk_cell hr 1
  have f1 := blk_frozen hr 1
  have hsz : (ByteArray.mk l.toArray).size = l.length := by simp [ByteArray.size]
  clear hr hb hte
  by_cases hend : at' = l.length
  · have hgb : ((at' : Int) == (l.length : Int)) = true := by simp; omega
    go_enter Tryd.func81, Tryd.ntmps81
    go_wp2
    go_quiet (fail)
    go_wp2
    exact ⟨rfl, (KB.refl _ _ _).drewN _, (fun o a h => by rw [escR, List.getElem?_eq_none (by omega)] at h; cases h), (fun _ => rfl)⟩
  · have hgb : ((at' : Int) == (l.length : Int)) = false := by simp; omega
    go_enter Tryd.func81, Tryd.ntmps81
    go_wp2
    go_quiet (fail)
    go_wp2
    have hlt : at' < l.length := by omega
    have hltz : (at' : Int) < (l.length : Int) := by omega
    go_quiet (fail)
    go_wp2_with fail
    refine (Tryd.strings_IndexByte _ _ _).mono ?_
    rintro e w' ⟨rfl, hw'⟩
    have hix : (((l[at'].toNat : Nat) : Int).toNat).toUInt8 = l[at'] := by simp
    generalize hkk : Lib.indexByte _ _ = kk
    have HKK := Aside0.mk (show Lib.indexByte escTab l[at'] = kk by rw [← hkk, hix]; rfl)
    have HE := Aside0.mk (show escR l at' = if 0 ≤ Lib.indexByte escTab l[at'] then some ([escOut.getD (Lib.indexByte escTab l[at']).toNat 0], at' + 1) else
      if l[at'] ≠ 117 ∨ l.length < at' + 5 then none else
      match hexN 0 ((l.drop (at' + 1)).take 4) with
      | none => none
      | some n => if 55296 ≤ n ∧ n ≤ 57343 then none else some (runeB n, at' + 5) by rw [escR, List.getElem?_eq_getElem hlt]; rfl)
    have HR1 := Aside0.mk (show RD r l (at' + 1) w' by rw [hw']; exact HR.out.set (at' + 1))
    have HB1 := Aside0.mk (show BAt Br b v (Lib.byteCells bs) w' by rw [hw']; exact (HB.out.setR r 1 _ hrb).move fun _ _ _ => rfl)
    have HK1 := Aside0.mk (show KB r b w w' by rw [hw']; exact ((KB.refl r b w).set 1 _).drewN _)
    clear hkk hix hw' hgb HR HB c0 c1 f1
    have hw1 : w.heap.size ≤ w'.heap.size := HK1.out.2.1
    have d0 : w'.cell? ⟨r, 0, none⟩ = some (.string ⟨l.toArray⟩) := blk_cell HR1.out 0
    have d1 : w'.cell? ⟨r, 1, none⟩ = some (.int .i64 ((at' : Int) + 1)) := blk_cell HR1.out 1
    have g1 := blk_frozen HR1.out 1
    rw [HKK.out] at HE
    by_cases hk0 : 0 ≤ kk
    · rw [if_pos hk0] at HE
      have hk8 := indexByte_lt escTab l[at'] (by rw [HKK.out]; exact hk0)
      rw [HKK.out] at hk8
      clear HKK
      have HE' : kk = 0 ∨ kk = 1 ∨ kk = 2 ∨ kk = 3 ∨ kk = 4 ∨ kk = 5 ∨ kk = 6 ∨ kk = 7 := by
        have : (escTab.length : Int) = 8 := rfl
        omega
      clear hk8 hk0
      rcases HE' with rfl | rfl | rfl | rfl | rfl | rfl | rfl | rfl
      · go_wp2_with fail
        refine (WriteByte_calls Br b v (Lib.byteCells bs) 34 w' HB1.out (by simp [Lib.byteCells]; omega) (by omega)).mono ?_
        rintro e w2 ⟨rfl, v', hb2, hk2⟩
        have H2 := Aside0.mk hb2
        have HK2 := Aside0.mk hk2
        clear hb2 hk2
        go_wp2
        (try simp only [Exit.inBlock, Exit.then])
        refine bodyPost_ret (results_none rfl _ _ _) rfl ?_
        refine ⟨HK1.out.trans (KB.below HK2.out.1 hrb), (fun o a h => ?_), (fun h => by rw [HE.out] at h; cases h)⟩
        rw [HE.out] at h
        cases h
        exact ⟨rfl, HR1.out.kept HK2.out.1 hrb, v', by simpa [Lib.byteCells, escOut] using H2.out⟩
      · go_wp2_with fail
        refine (WriteByte_calls Br b v (Lib.byteCells bs) 92 w' HB1.out (by simp [Lib.byteCells]; omega) (by omega)).mono ?_
        rintro e w2 ⟨rfl, v', hb2, hk2⟩
        have H2 := Aside0.mk hb2
        have HK2 := Aside0.mk hk2
        clear hb2 hk2
        go_wp2
        (try simp only [Exit.inBlock, Exit.then])
        refine bodyPost_ret (results_none rfl _ _ _) rfl ?_
        refine ⟨HK1.out.trans (KB.below HK2.out.1 hrb), (fun o a h => ?_), (fun h => by rw [HE.out] at h; cases h)⟩
        rw [HE.out] at h
        cases h
        exact ⟨rfl, HR1.out.kept HK2.out.1 hrb, v', by simpa [Lib.byteCells, escOut] using H2.out⟩
      · go_wp2_with fail
        refine (WriteByte_calls Br b v (Lib.byteCells bs) 47 w' HB1.out (by simp [Lib.byteCells]; omega) (by omega)).mono ?_
        rintro e w2 ⟨rfl, v', hb2, hk2⟩
        have H2 := Aside0.mk hb2
        have HK2 := Aside0.mk hk2
        clear hb2 hk2
        go_wp2
        (try simp only [Exit.inBlock, Exit.then])
        refine bodyPost_ret (results_none rfl _ _ _) rfl ?_
        refine ⟨HK1.out.trans (KB.below HK2.out.1 hrb), (fun o a h => ?_), (fun h => by rw [HE.out] at h; cases h)⟩
        rw [HE.out] at h
        cases h
        exact ⟨rfl, HR1.out.kept HK2.out.1 hrb, v', by simpa [Lib.byteCells, escOut] using H2.out⟩
      · go_wp2_with fail
        refine (WriteByte_calls Br b v (Lib.byteCells bs) 8 w' HB1.out (by simp [Lib.byteCells]; omega) (by omega)).mono ?_
        rintro e w2 ⟨rfl, v', hb2, hk2⟩
        have H2 := Aside0.mk hb2
        have HK2 := Aside0.mk hk2
        clear hb2 hk2
        go_wp2
        (try simp only [Exit.inBlock, Exit.then])
        refine bodyPost_ret (results_none rfl _ _ _) rfl ?_
        refine ⟨HK1.out.trans (KB.below HK2.out.1 hrb), (fun o a h => ?_), (fun h => by rw [HE.out] at h; cases h)⟩
        rw [HE.out] at h
        cases h
        exact ⟨rfl, HR1.out.kept HK2.out.1 hrb, v', by simpa [Lib.byteCells, escOut] using H2.out⟩
      · go_wp2_with fail
        refine (WriteByte_calls Br b v (Lib.byteCells bs) 12 w' HB1.out (by simp [Lib.byteCells]; omega) (by omega)).mono ?_
        rintro e w2 ⟨rfl, v', hb2, hk2⟩
        have H2 := Aside0.mk hb2
        have HK2 := Aside0.mk hk2
        clear hb2 hk2
        go_wp2
        (try simp only [Exit.inBlock, Exit.then])
        refine bodyPost_ret (results_none rfl _ _ _) rfl ?_
        refine ⟨HK1.out.trans (KB.below HK2.out.1 hrb), (fun o a h => ?_), (fun h => by rw [HE.out] at h; cases h)⟩
        rw [HE.out] at h
        cases h
        exact ⟨rfl, HR1.out.kept HK2.out.1 hrb, v', by simpa [Lib.byteCells, escOut] using H2.out⟩
      · go_wp2_with fail
        refine (WriteByte_calls Br b v (Lib.byteCells bs) 10 w' HB1.out (by simp [Lib.byteCells]; omega) (by omega)).mono ?_
        rintro e w2 ⟨rfl, v', hb2, hk2⟩
        have H2 := Aside0.mk hb2
        have HK2 := Aside0.mk hk2
        clear hb2 hk2
        go_wp2
        (try simp only [Exit.inBlock, Exit.then])
        refine bodyPost_ret (results_none rfl _ _ _) rfl ?_
        refine ⟨HK1.out.trans (KB.below HK2.out.1 hrb), (fun o a h => ?_), (fun h => by rw [HE.out] at h; cases h)⟩
        rw [HE.out] at h
        cases h
        exact ⟨rfl, HR1.out.kept HK2.out.1 hrb, v', by simpa [Lib.byteCells, escOut] using H2.out⟩
      · go_wp2_with fail
        refine (WriteByte_calls Br b v (Lib.byteCells bs) 13 w' HB1.out (by simp [Lib.byteCells]; omega) (by omega)).mono ?_
        rintro e w2 ⟨rfl, v', hb2, hk2⟩
        have H2 := Aside0.mk hb2
        have HK2 := Aside0.mk hk2
        clear hb2 hk2
        go_wp2
        (try simp only [Exit.inBlock, Exit.then])
        refine bodyPost_ret (results_none rfl _ _ _) rfl ?_
        refine ⟨HK1.out.trans (KB.below HK2.out.1 hrb), (fun o a h => ?_), (fun h => by rw [HE.out] at h; cases h)⟩
        rw [HE.out] at h
        cases h
        exact ⟨rfl, HR1.out.kept HK2.out.1 hrb, v', by simpa [Lib.byteCells, escOut] using H2.out⟩
      · go_wp2_with fail
        refine (WriteByte_calls Br b v (Lib.byteCells bs) 9 w' HB1.out (by simp [Lib.byteCells]; omega) (by omega)).mono ?_
        rintro e w2 ⟨rfl, v', hb2, hk2⟩
        have H2 := Aside0.mk hb2
        have HK2 := Aside0.mk hk2
        clear hb2 hk2
        go_wp2
        (try simp only [Exit.inBlock, Exit.then])
        refine bodyPost_ret (results_none rfl _ _ _) rfl ?_
        refine ⟨HK1.out.trans (KB.below HK2.out.1 hrb), (fun o a h => ?_), (fun h => by rw [HE.out] at h; cases h)⟩
        rw [HE.out] at h
        cases h
        exact ⟨rfl, HR1.out.kept HK2.out.1 hrb, v', by simpa [Lib.byteCells, escOut] using H2.out⟩
    · rw [if_neg hk0] at HE
      have hkz : ¬ (0 : Int) ≤ kk := hk0
      by_cases hu : l[at'] = 117
      · have hub : ((((l[at'].toNat : Nat) : Int)) == 117) = true := by rw [hu]; rfl
        by_cases hlen : l.length < at' + 5
        · have hlz : (l.length : Int) < (at' : Int) + 1 + 4 := by omega
          have hdz : decide ((l.length : Int) < (at' : Int) + 1 + 4) = true := decide_eq_true hlz
          rw [if_pos (Or.inr hlen)] at HE
          have hwr : IntKind.i64.wrap ((at' : Int) + 1 + 4) = (at' : Int) + 1 + 4 := IntWalk.i64_in _ (by omega)
          go_wp2
          go_quiet (fail)
          go_wp2
          exact ⟨rfl, HK1.out.drewN _, (fun o a h => by rw [HE.out] at h; cases h), (fun _ => rfl)⟩
        · have hlz : ¬ (l.length : Int) < (at' : Int) + 1 + 4 := by omega
          have hdz : decide ((l.length : Int) < (at' : Int) + 1 + 4) = false := decide_eq_false hlz
          rw [if_neg (by simp [hu]; omega)] at HE
          have hwr : IntKind.i64.wrap ((at' : Int) + 1 + 4) = (at' : Int) + 1 + 4 := IntWalk.i64_in _ (by omega)
          go_wp2
          go_quiet (fail)
          go_wp2
          have hsl : ∀ W, (Instr.slice 9 (.string ⟨l.toArray⟩) (some (.int .i64 ((at' : Int) + 1))) (some (.int .i64 ((at' : Int) + 1 + 4))) none).run Tryd.prog W = .ok (.string ⟨((l.drop (at' + 1)).take 4).toArray⟩) W := fun W => by
            rw [run_slice_string W 9 _ _ _ _ _ Tryd.underlying9 (by omega) (by omega) (by rw [hsz]; omega), ext_seg]
            have e1 : ((at' : Int) + 1).toNat = at' + 1 := by omega
            have e2 : ((at' : Int) + 1 + 4).toNat = at' + 5 := by omega
            rw [e1, e2]
            simp
          have HT4 := Aside0.mk (show ((l.drop (at' + 1)).take 4).length = 4 by rw [List.length_take, List.length_drop]; omega)
          generalize (l.drop (at' + 1)).take 4 = t4 at *
          have HX := Aside0.mk (show TE w' from HTE.out _ HK1.out.1)
          go_quiet (fail)
          go_wp2_with fail
          refine (PU_calls t4 HT4.out _ (HX.out.drewN _)).mono ?_
          rintro e w2 ⟨hb2, h2⟩
          have hb3 : Below w'.heap.size w' w2 := by
            have := hb2
            exact ⟨this.os, this.tape, this.output, this.size, this.block⟩
          have HR2 := Aside0.mk (HR1.out.below hb3)
          have HB2 := Aside0.mk (HB1.out.move fun k hk _ => hb3.block k hk)
          have HK2 := Aside0.mk (HK1.out.trans ((KB.below hb3 (blk_lt HR1.out)).mono (Nat.le_of_lt HB1.out.blt)))
          have hw2 : w'.heap.size ≤ w2.heap.size := hb3.size
          clear hb2 hb3 d0 d1 g1
          have d0 : w2.cell? ⟨r, 0, none⟩ = some (.string ⟨l.toArray⟩) := blk_cell HR2.out 0
          have d1 : w2.cell? ⟨r, 1, none⟩ = some (.int .i64 ((at' : Int) + 1)) := blk_cell HR2.out 1
          have g1 := blk_frozen HR2.out 1
          cases hn : hexN 0 t4 with
          | none =>
            rw [hn] at HE
            obtain ⟨N, rfl⟩ := h2.2 hn
            clear hn h2
            go_wp2
            exact ⟨rfl, HK2.out, (fun o a h => by rw [HE.out] at h; cases h), (fun _ => rfl)⟩
          | some n =>
            rw [hn] at HE
            obtain ⟨rfl, hn1⟩ := h2.1 n hn
            have hca := hexN_noAny t4 n hn
            have hasc : ∀ (j : Nat) (b : UInt8), t4[j]? = some b → b.toNat < 128 := fun j b hj => (hexN_bytes t4 0 n hn b (List.mem_of_getElem? hj)).1
            clear hn h2
            go_wp2_with fail
            refine (Tryd.strings_ContainsAny (fun w => by kernel_rfl) _ _ _ (by rw [show (ByteArray.mk t4.toArray).size = t4.length by simp [ByteArray.size], HT4.out]; decide) (by decide) (by simpa using hasc) any_ascii).mono ?_
            rintro e w3 ⟨he, hb3⟩
            rw [show Lib.containsAny (ByteArray.mk t4.toArray).data.toList (ByteArray.mk #[43, 45, 95]).data.toList = false from hca] at he
            subst he
            have HR3 := Aside0.mk (HR2.out.below hb3)
            have HB3 := Aside0.mk (HB2.out.move fun k hk _ => hb3.block k hk)
            have HK3 := Aside0.mk (HK2.out.trans ((KB.below hb3 (blk_lt HR2.out)).mono (Nat.le_of_lt HB2.out.blt)))
            have hw3 : w2.heap.size ≤ w3.heap.size := hb3.size
            clear hb3 d0 d1 g1 hca hasc
            have d0 : w3.cell? ⟨r, 0, none⟩ = some (.string ⟨l.toArray⟩) := blk_cell HR3.out 0
            have d1 : w3.cell? ⟨r, 1, none⟩ = some (.int .i64 ((at' : Int) + 1)) := blk_cell HR3.out 1
            have g1 := blk_frozen HR3.out 1
            have hvr := validB n hn1
            by_cases hsur : 55296 ≤ n ∧ n ≤ 57343
            · rw [decide_eq_true hsur] at hvr
              rw [if_pos hsur] at HE
              clear hsur
              go_wp2_with fail
              refine (Tryd.utf8_ValidRune _ _).mono ?_
              rintro e w' ⟨he, rfl⟩
              rw [hvr] at he
              subst he
              go_wp2
              exact ⟨rfl, HK3.out, (fun o a h => by rw [HE.out] at h; cases h), (fun _ => rfl)⟩
            · rw [decide_eq_false hsur] at hvr
              rw [if_neg hsur] at HE
              have HS := Aside0.mk hsur
              clear hsur
              go_wp2_with fail
              refine (Tryd.utf8_ValidRune _ _).mono ?_
              rintro e w' ⟨he, rfl⟩
              rw [hvr] at he
              subst he
              clear hvr
              go_wp2_with fail
              refine (WriteRune_calls Br b v (Lib.byteCells bs) n _ (HB3.out.setR r 1 (.int .i64 ((at' : Int) + 1 + 4)) hrb) (by omega) HS.out (by simp [Lib.byteCells]; omega) (by simp [World.setCell]; omega)).mono ?_
              rintro e w4 ⟨⟨k4, rfl⟩, v', hb4, hk4⟩
              have HB4 := Aside0.mk hb4
              have HK4 := Aside0.mk hk4
              clear hb4 hk4
              go_wp2
              (try simp only [Exit.inBlock, Exit.then])
              go_end0
              refine ⟨?_, (fun o a h => ?_), (fun h => by rw [HE.out] at h; cases h)⟩
              · exact (HK3.out.set 1 _).trans (KB.below HK4.out.1 hrb)
              · rw [HE.out] at h
                cases h
                exact ⟨rfl, (HR3.out.set (at' + 5)).kept HK4.out.1 hrb, v', by simpa [Lib.byteCells] using HB4.out⟩
      · have hub : ((((l[at'].toNat : Nat) : Int)) == 117) = false := by
          have := u8_eq l[at'] 117
          rw [show ((117 : UInt8).toNat : Int) = 117 from rfl] at this
          rw [this]
          exact beq_eq_false_iff_ne.2 hu
        rw [if_pos (Or.inl hu)] at HE
        have hubn : ((((l[at'].toNat : Nat) : Int)) != 117) = true := by rw [bne, hub]; rfl
        go_wp2
        go_quiet (fail)
        go_wp2
        exact ⟨rfl, HK1.out.drewN _, (fun o a h => by rw [HE.out] at h; cases h), (fun _ => rfl)⟩
end Go.Proofs.YtohlbnbfpcbpdaaDoor.Lx
/- lex: text: the walk. -/
namespace Go.Proofs.YtohlbnbfpcbpdaaDoor.Lx
open Go.RowKit Go.Proofs.YtohlbnbfpcbpdaaDoorW.PrintWords Go.Proofs.YtohlbnbfpcbpdaaDoorW.PrintLast Go.Proofs.YtohlbnbfpcbpdaaDoorW.PrintMore

attribute [local go_sem] idx_list
theorem escR_step {l : List UInt8} {a : Nat} {o : List UInt8} {a2 : Nat} (h : escR l a = some (o, a2)) : a < a2 ∧ o.length ≤ a2 - a ∧ a2 ≤ l.length := by
  unfold escR at h
  split at h
  · cases h
  · rename_i c hc
    have hlt := (List.getElem?_eq_some_iff.1 hc).1
    split at h
    · cases h
      exact ⟨by omega, by simp, by omega⟩
    · split at h
      · cases h
      · rename_i hk
        split at h
        · cases h
        · split at h
          · cases h
          · cases h
            have hb : ∀ n, (runeB n).length ≤ 3 := fun n => by
              unfold runeB
              split
              · simp
              · split <;> simp
            rename_i n _ _
            refine ⟨by omega, by have := hb n; omega, by omega⟩
theorem KeepR.drewN {r : Nat} {w w1 : World} (h : KeepR r w w1) (n : Nat) : KeepR r w (w1.drewN n) := ⟨⟨h.1.os, h.1.tape, h.1.output, h.1.size, h.1.block⟩, h.2.1, h.2.2⟩
theorem BAt.new (w : World) : BAt (w.heap.size + 1) w.heap.size (.slice none 0 0) (Lib.byteCells []) (w.alloc (.cells #[.pointer none, .slice none 0 0] 42)) := by
  refine ⟨.inl ?_, ?_, Nat.lt_succ_self _⟩
  · simp [World.alloc, -World.alloc_eq]
  · exact World.ownsRow_nil _ _ _ _
theorem byteCells_snoc (l : List UInt8) (c : UInt8) : Lib.byteCells l ++ [Value.int .u8 c.toNat] = Lib.byteCells (l ++ [c]) := by simp [Lib.byteCells]
set_option maxRecDepth 100000 in
set_option maxHeartbeats 2000000 in
theorem text_calls (r : Nat) (l : List UInt8) (at' : Nat) (w : World) (hr : RD r l at' w) (hat : at' < l.length) (hl : l.length ≤ 1000000000000) (hte : ∀ w1, Below r w w1 → TE w1) :
    Calls Tryd.prog 65 #[.pointer (some ⟨r, 0, none⟩)] w fun e w' => KeepR r w w' ∧
      ((∀ out a2, textR l (l.length + 1) (at' + 1) [] = some (out, a2) → e = .returned (.string ⟨out.toArray⟩) ∧ RD r l a2 w') ∧
       (textR l (l.length + 1) (at' + 1) [] = none → e = .panicked [{ v := broken at', recovered := false }])) := by
  have HR := Aside0.mk hr
  have HTE := Aside0.mk hte
  have c1 : w.cell? ⟨r, 1, none⟩ = some (.int .i64 at') := blk_cell hr 1
  have f1 := blk_frozen hr 1
  have hrl := blk_lt hr
  have hsz : (ByteArray.mk l.toArray).size = l.length := by simp [ByteArray.size]
  clear hr hte
  generalize hX : textR l (l.length + 1) (at' + 1) [] = X
  have HX := Aside0.mk hX
  clear hX
  obtain ⟨b, hb⟩ : ∃ b, b = w.heap.size := ⟨_, rfl⟩
  go_enter Tryd.func65, Tryd.ntmps65
  go_wp2
  go_loopg [] (l.length - (at' + 1)) (fun kq w2 => ∃ (n f : Nat) (acc : List UInt8) (v : Value), n + kq = l.length ∧ at' + 1 ≤ n ∧ l.length < n + f ∧ acc.length ≤ n ∧ w.heap.size + 1 ≤ w2.heap.size ∧ Aside0 (textR l f n acc = X) ∧ Aside0 (RD r l n w2) ∧ Aside0 (BAt (w.heap.size + 1) w.heap.size v (Lib.byteCells acc) w2) ∧ Aside0 (KeepR r w w2))
  case atStart =>
    refine ⟨at' + 1, l.length + 1, [], .slice none 0 0, by omega, Nat.le_refl _, by omega, by simp, by simp [World.setCell], HX, Aside0.mk ?_, Aside0.mk ?_, Aside0.mk ?_⟩
    · exact (HR.out.set (at' + 1)).below (Below.refl _ _ |>.alloc (Nat.le_refl _) _)
    · have h := BAt.new (w.setCell ⟨r, 1, none⟩ (.int .i64 ((at' : Int) + 1)))
      rw [show (w.setCell ⟨r, 1, none⟩ (.int .i64 ((at' : Int) + 1))).heap.size = w.heap.size by simp [World.setCell]] at h
      exact h
    · exact ((KB.refl r w.heap.size w).set 1 _).trans (KB.below ((Below.refl _ _).alloc (by simp [World.setCell]) _) hrl)
  case round =>
    obtain ⟨n, f, acc, v, hn, hna, hnf, hacc, hsz2, HT, HR2, HB, HK⟩ := hrel
    have d0 : wr.cell? ⟨r, 0, none⟩ = some (.string ⟨l.toArray⟩) := blk_cell HR2.out 0
    have d1 : wr.cell? ⟨r, 1, none⟩ = some (.int .i64 n) := blk_cell HR2.out 1
    have g1 := blk_frozen HR2.out 1
    obtain ⟨f, rfl⟩ : ∃ m, f = m + 1 := ⟨f - 1, by omega⟩
    cases gk with
    | zero =>
      have hge : ¬ ((n : Nat) : Int) < (l.length : Int) := by omega
      have hgd : decide (((n : Nat) : Int) < (l.length : Int)) = false := decide_eq_false hge
      have HX0 := Aside0.mk (show X = none by rw [← HT.out, textR, List.getElem?_eq_none (by omega)])
      go_wp2
      go_quiet (fail)
      go_wp2
      exact ⟨rfl, KeepR.drewN HK.out _, (fun o a h => by rw [HX0.out] at h; cases h), (fun _ => rfl)⟩
    | succ k1 =>
      have hlt : n < l.length := by omega
      have hltz : ((n : Nat) : Int) < (l.length : Int) := by omega
      have hgd : decide (((n : Nat) : Int) < (l.length : Int)) = true := decide_eq_true hltz
      have HT2 := Aside0.mk (show textR l (f + 1) n acc = if l[n] = 34 then some (acc, n + 1) else if l[n].toNat < 32 then none else if l[n] = 92 then
        match escR l (n + 1) with
        | none => none
        | some (o, a2) => textR l f a2 (acc ++ o)
        else textR l f (n + 1) (acc ++ [l[n]]) by rw [textR, List.getElem?_eq_getElem hlt]; rfl)
      rw [HT.out] at HT2
      have HR3 := fun nq => Aside0.mk (show RD r l (n + 1) ((wr.drewN nq).setCell ⟨r, 1, none⟩ (.int .i64 ((n : Int) + 1))) from RD.set (w := wr.drewN nq) HR2.out (n + 1))
      have HB3 := fun nq => Aside0.mk (show BAt (w.heap.size + 1) w.heap.size v (Lib.byteCells acc) ((wr.drewN nq).setCell ⟨r, 1, none⟩ (.int .i64 ((n : Int) + 1))) from (HB.out.move (w' := wr.drewN nq) fun _ _ _ => rfl).setR r 1 _ hrl)
      have HK3 := fun nq => Aside0.mk (show KeepR r w ((wr.drewN nq).setCell ⟨r, 1, none⟩ (.int .i64 ((n : Int) + 1))) from (KeepR.drewN HK.out nq).set 1 _)
      have hz3 : ∀ nq, ((wr.drewN nq).setCell ⟨r, 1, none⟩ (.int .i64 ((n : Int) + 1))).heap.size = wr.heap.size := fun nq => by simp [World.setCell]
      have HZ3 := Aside0.mk hz3
      clear hz3
      by_cases q1 : l[n] = 34
      · rw [if_pos q1] at HT2
        have hq1 : ((l[n].toNat : Int) == 34) = true := by rw [q1]; rfl
        clear q1
        go_wp2
        go_quiet (fail)
        go_wp2
        go_quiet (fail)
        go_wp2_with fail
        refine (Tryd.Builder_String_any w.heap.size w.heap.size acc _ (HB3 _).out.is (by rw [HZ3.out]; omega)).mono ?_
        rintro e w2 ⟨rfl, hb2⟩
        have HF := Aside0.mk hb2
        clear hb2
        go_wp2
        (try simp only [Exit.inBlock, Exit.then])
        go_ret
        refine ⟨(show KB r w.heap.size w _ from (HK3 _).out).trans (KB.below HF.out hrl), (fun o a h => ?_), (fun h => by rw [HT2.out] at h; cases h)⟩
        rw [HT2.out] at h
        cases h
        exact ⟨rfl, (HR3 _).out.kept HF.out hrl⟩
      · rw [if_neg q1] at HT2
        have hq1 : ((l[n].toNat : Int) == 34) = false := by
          have := u8_eq l[n] 34
          rw [show ((34 : UInt8).toNat : Int) = 34 from rfl] at this
          rw [this]
          exact beq_eq_false_iff_ne.2 q1
        clear q1
        by_cases q2 : l[n].toNat < 32
        · rw [if_pos q2] at HT2
          have hq2 : (l[n].toNat : Int) < 32 := by omega
          clear q2
          go_wp2
          go_quiet (fail)
          go_wp2
          go_quiet (fail)
          go_wp2
          exact ⟨rfl, (HK3 _).out, (fun o a h => by rw [HT2.out] at h; cases h), (fun _ => rfl)⟩
        · rw [if_neg q2] at HT2
          have hq2 : ¬ (l[n].toNat : Int) < 32 := by omega
          clear q2
          by_cases q3 : l[n] = 92
          · rw [if_pos q3] at HT2
            have hq3 : ((l[n].toNat : Int) == 92) = true := by rw [q3]; rfl
            clear q3
            go_wp2
            go_quiet (fail)
            go_wp2
            go_quiet (fail)
            go_wp2_with fail
            refine (escape_calls r l (n + 1) at' (w.heap.size + 1) w.heap.size v acc _ (HR3 _).out (HB3 _).out hrl (by omega) hl (by omega) (by rw [HZ3.out]; omega) (fun w1 h1 => HTE.out w1 ((HK3 _).out.1.trans h1))).mono ?_
            rintro e w2 ⟨hk4, hs4, hn4⟩
            cases hE : escR l (n + 1) with
            | none =>
              have HT3 := Aside0.mk (show X = none by rw [HT2.out, hE])
              have he := hn4 hE
              subst he
              have HK4 := Aside0.mk hk4
              clear hk4 hs4 hn4 hE
              go_wp2
              exact ⟨rfl, (show KB r w.heap.size w _ from (HK3 _).out).trans HK4.out, (fun o a h => by rw [HT3.out] at h; cases h), (fun _ => rfl)⟩
            | some p =>
              obtain ⟨o, a2⟩ := p
              have HT3 := Aside0.mk (show textR l f a2 (acc ++ o) = X by rw [HT2.out, hE])
              obtain ⟨he, hr4, v', hb4⟩ := hs4 o a2 hE
              subst he
              have hst := escR_step hE
              have HK4 := Aside0.mk hk4
              have HR4 := Aside0.mk hr4
              have HB4 := Aside0.mk hb4
              have hz4 : w.heap.size + 1 ≤ w2.heap.size := by
                have := hk4.2.1
                rw [HZ3.out] at this
                omega
              clear hk4 hs4 hn4 hE hr4 hb4
              go_wp2
              go_roundg (l.length - a2)
              case measure => omega
              case rel => exact ⟨a2, f, acc ++ o, v', by omega, by omega, by omega, by rw [List.length_append]; omega, hz4, HT3, HR4, HB4, Aside0.mk ((show KB r w.heap.size w _ from (HK3 _).out).trans HK4.out)⟩
          · rw [if_neg q3] at HT2
            have hq3 : ((l[n].toNat : Int) == 92) = false := by
              have := u8_eq l[n] 92
              rw [show ((92 : UInt8).toNat : Int) = 92 from rfl] at this
              rw [this]
              exact beq_eq_false_iff_ne.2 q3
            clear q3
            go_wp2
            go_quiet (fail)
            go_wp2
            go_quiet (fail)
            go_wp2_with fail
            refine (WriteByte_calls (w.heap.size + 1) w.heap.size v (Lib.byteCells acc) l[n] _ (HB3 _).out (by simp [Lib.byteCells]; omega) (by rw [HZ3.out]; omega)).mono ?_
            rintro e w2 ⟨rfl, v', hb4, hk4⟩
            rw [byteCells_snoc] at hb4
            have HB4 := Aside0.mk hb4
            have HK4 := Aside0.mk hk4
            have hz4 : w.heap.size + 1 ≤ w2.heap.size := by
              have := hk4.1.size
              rw [HZ3.out] at this
              omega
            clear hb4 hk4
            go_wp2
            go_roundg (l.length - (n + 1))
            case measure => omega
            case rel => exact ⟨n + 1, f, acc ++ [l[n]], v', by omega, by omega, by omega, by rw [List.length_append]; simp; omega, hz4, Aside0.mk HT2.out.symm, Aside0.mk ((HR3 _).out.kept HK4.out.1 hrl), HB4, Aside0.mk ((show KB r w.heap.size w _ from (HK3 _).out).trans (KB.below HK4.out.1 hrl))⟩
end Go.Proofs.YtohlbnbfpcbpdaaDoor.Lx
