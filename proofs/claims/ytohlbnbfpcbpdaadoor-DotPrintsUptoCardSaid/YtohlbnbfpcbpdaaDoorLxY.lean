/- lex: next: the walk. -/
import Derived.Test.YtohlbnbfpcbpdaaDoorLxT
import Derived.Recover
import Derived.Defers
set_option linter.unusedVariables false
set_option linter.unusedSimpArgs false
namespace Go.Proofs.YtohlbnbfpcbpdaaDoor.Lx
open Go.RowKit Go.Proofs.YtohlbnbfpcbpdaaDoorW.PrintWords Go.Proofs.YtohlbnbfpcbpdaaDoorW.PrintLast Go.Proofs.YtohlbnbfpcbpdaaDoorW.PrintMore

attribute [local go_sem] idx_list
/-- A token as a value. -/
def tkV (t : Tk) : Value := .agg #[.int .i64 t.kind, .string ⟨t.text.toArray⟩, .int .i64 t.num, .int .i64 t.pos]
theorem KeepR.alloc {r : Nat} {w w1 : World} (h : KeepR r w w1) (hr : r < w.heap.size) (o : Obj) : KeepR r w (w1.alloc o) :=
  (show KB r w.heap.size w w1 from h).trans (KB.below ((Below.refl _ _).alloc h.2.1 _) hr)
theorem KeepR.setHi {r : Nat} {w w1 : World} (h : KeepR r w w1) (hr : r < w.heap.size) (k j : Nat) (v : Value) (hk : w.heap.size ≤ k) : KeepR r w (w1.setCell ⟨k, j, none⟩ v) :=
  (show KB r w.heap.size w w1 from h).trans (KB.below ((Below.refl _ _).setCell (p := ⟨k, j, none⟩) hk v) hr)
theorem RD.alloc {r : Nat} {l : List UInt8} {a : Nat} {w : World} (h : RD r l a w) (o : Obj) : RD r l a (w.alloc o) := h.below ((Below.refl _ _).alloc (Nat.le_refl _) _)
theorem RD.drewN {r : Nat} {l : List UInt8} {a : Nat} {w : World} (h : RD r l a w) (n : Nat) : RD r l a (w.drewN n) := h
theorem RD.setHi {r : Nat} {l : List UInt8} {a : Nat} {w : World} (h : RD r l a w) (k j : Nat) (v : Value) (hk : k ≠ r) : RD r l a (w.setCell ⟨k, j, none⟩ v) := (Below.heap_setCell _ _ _ _ (fun e => hk e.symm)).trans h
/-- What the world is like ahead of a call in next, and behind it. -/
structure Mid (r : Nat) (l : List UInt8) (at' : Nat) (w W : World) : Prop where
  rd : RD r l at' W
  keep : KeepR r w W
  b0 : W.heap[w.heap.size]? = some (.cells #[.int .i64 0, .string ⟨#[]⟩, .int .i64 0, .int .i64 0] 73 (0, 0))
  b1 : W.heap[w.heap.size + 1]? = some (.cells #[.int .i64 0, .string ⟨#[]⟩, .int .i64 0, .int .i64 at'] 73 (0, 0))
theorem Mid.mk0 {r : Nat} {l : List UInt8} {at' : Nat} {w : World} (h : RD r l at' w) (n : Nat) :
    Mid r l at' w (((w.alloc (.cells #[.int .i64 0, .string ⟨#[]⟩, .int .i64 0, .int .i64 0] 73)).alloc (.cells #[.int .i64 0, .string ⟨#[]⟩, .int .i64 0, .int .i64 at'] 73)).drewN n) := by
  refine ⟨((h.alloc _).alloc _).drewN n, KeepR.drewN ((((KeepR.refl r w).alloc (blk_lt h) _).alloc (blk_lt h) _)) n, ?_, ?_⟩
  · simp only [World.alloc, World.drewN]
    rw [Array.getElem?_push_lt (by simp), Array.getElem_push_eq]
  · simp only [World.alloc, World.drewN]
    rw [show w.heap.size + 1 = (w.heap.push (.cells #[.int .i64 0, .string ⟨#[]⟩, .int .i64 0, .int .i64 0] 73 (0, 0))).size by simp, Array.getElem?_push_size]
theorem Mid.call {r : Nat} {l : List UInt8} {at' a2 : Nat} {w W w2 : World} (h : Mid r l at' w W) (hk : KeepR r W w2) (hr : RD r l a2 w2) : KeepR r w w2 ∧ w2.heap[w.heap.size]? = some (.cells #[.int .i64 0, .string ⟨#[]⟩, .int .i64 0, .int .i64 0] 73 (0, 0)) ∧
    w2.heap[w.heap.size + 1]? = some (.cells #[.int .i64 0, .string ⟨#[]⟩, .int .i64 0, .int .i64 at'] 73 (0, 0)) := by
  have h0 := blk_lt h.b0
  have h1 := blk_lt h.b1
  refine ⟨h.keep.trans hk, (hk.2.2 _ h0 fun e => ?_).trans h.b0, (hk.2.2 _ h1 fun e => ?_).trans h.b1⟩
  · have := h.rd
    unfold RD at this
    rw [← e, h.b0] at this
    cases this
  · have := h.rd
    unfold RD at this
    rw [← e, h.b1] at this
    cases this
theorem singles_lt (c : UInt8) (h : 0 ≤ Lib.indexByte singles c) : Lib.indexByte singles c < 6 := by
  have := indexByte_lt singles c h
  exact this
set_option maxRecDepth 100000 in
set_option maxHeartbeats 2000000 in
theorem next_calls (r : Nat) (l : List UInt8) (at' : Nat) (w : World) (hr : RD r l at' w) (hat : at' < l.length) (hl : l.length ≤ 1000000000000) (hte : ∀ w1, Below r w w1 → TE w1) :
    Calls Tryd.prog 53 #[.pointer (some ⟨r, 0, none⟩)] w fun e w' => KeepR r w w' ∧
      ((∀ t a2, nextR l at' = some (t, a2) → e = .returned (tkV t) ∧ RD r l a2 w') ∧
       (nextR l at' = none → e = .panicked [{ v := broken at', recovered := false }])) := by
  have HR := Aside0.mk hr
  have HTE := Aside0.mk hte
  have c0 : w.cell? ⟨r, 0, none⟩ = some (.string ⟨l.toArray⟩) := blk_cell hr 0
  have c1 : w.cell? ⟨r, 1, none⟩ = some (.int .i64 at') := blk_cell hr 1
  have f1 := blk_frozen hr 1
  have hrl := blk_lt hr
  have hsz : (ByteArray.mk l.toArray).size = l.length := by simp [ByteArray.size]
  have hltz : (at' : Int) < (l.length : Int) := by omega
  have hix : (((l[at'].toNat : Nat) : Int).toNat).toUInt8 = l[at'] := by simp
  have HIX := Aside0.mk hix
  have HX := Aside0.mk (show nextR l at' = if 0 ≤ Lib.indexByte singles l[at'] then some (⟨(Lib.indexByte singles l[at']).toNat + 1, [], 0, at'⟩, at' + 1)
    else if l[at'] = 10 then some (⟨10, [], 0, at'⟩, at' + 1)
    else if l[at'] = 34 then (textR l (l.length + 1) (at' + 1) []).map fun x => (⟨7, x.1, 0, at'⟩, x.2)
    else if l[at'] = 45 then (numR true ((l.drop (at' + 1)).takeWhile isDigit)).map fun v => (⟨8, [], v, at'⟩, at' + 1 + ((l.drop (at' + 1)).takeWhile isDigit).length)
    else if isDigit l[at'] = true then (numR false ((l.drop at').takeWhile isDigit)).map fun v => (⟨8, [], v, at'⟩, at' + ((l.drop at').takeWhile isDigit).length)
    else if isWord ((l.drop at').takeWhile isLow) = true then some (⟨9, (l.drop at').takeWhile isLow, 0, at'⟩, at' + ((l.drop at').takeWhile isLow).length) else none by rw [nextR, List.getElem?_eq_getElem hat])
  clear hr hte hix
  generalize hkk : Lib.indexByte singles l[at'] = kk at *
  have HKK := Aside0.mk hkk
  clear hkk
  by_cases q0 : 0 ≤ kk
  · have HE := HX
    rw [if_pos q0] at HE
    have hk6 : kk < 6 := by rw [← HKK.out]; exact singles_lt _ (by rw [HKK.out]; exact q0)
    go_enter Tryd.func53, Tryd.ntmps53
    go_wp2
    go_quiet (fail)
    go_wp2_with fail
    refine (Tryd.strings_IndexByte _ _ _).mono ?_
    rintro e w' ⟨he, hw'⟩
    rw [show Lib.indexByte _ _ = kk from (by rw [HIX.out]; exact HKK.out)] at he
    subst he hw'
    go_wp2
    refine bodyPost_ret (v := .agg #[.int .i64 (kk + 1), .string ⟨#[]⟩, .int .i64 0, .int .i64 at']) (by simp [results, Tryd.results53, go_sem]) rfl ?_
    refine ⟨?_, (fun t a h => ?_), (fun h => by rw [HE.out] at h; cases h)⟩
    · repeat (with_reducible (first | refine KeepR.set ?_ _ _ | refine KeepR.setHi ?_ hrl _ _ _ (by omega) | refine KeepR.drewN ?_ _ | refine KeepR.alloc ?_ hrl _ | exact KeepR.refl _ _))
    · rw [HE.out] at h
      cases h
      refine ⟨?_, ?_⟩
      · unfold tkV
        have : ((kk.toNat + 1 : Nat) : Int) = kk + 1 := by omega
        rw [this]
      · repeat (with_reducible (refine RD.setHi ?_ _ _ _ (by omega)))
        refine RD.set (a := at') ?_ (at' + 1)
        repeat (with_reducible (first | refine RD.drewN ?_ _ | refine RD.alloc ?_ _ | exact HR.out))
  · rw [if_neg q0] at HX
    by_cases q1 : l[at'] = 10
    · have HE := HX
      rw [if_pos q1] at HE
      have hq1 : ((l[at'].toNat : Int) == 10) = true := by rw [q1]; rfl
      clear q1 HX
      go_enter Tryd.func53, Tryd.ntmps53
      go_wp2
      go_quiet (fail)
      go_wp2_with fail
      refine (Tryd.strings_IndexByte _ _ _).mono ?_
      rintro e w' ⟨he, hw'⟩
      rw [show Lib.indexByte _ _ = kk from (by rw [HIX.out]; exact HKK.out)] at he
      subst he hw'
      go_wp2
      refine bodyPost_ret (v := .agg #[.int .i64 10, .string ⟨#[]⟩, .int .i64 0, .int .i64 at']) (by simp [results, Tryd.results53, go_sem]) rfl ?_
      refine ⟨?_, (fun t a h => ?_), (fun h => by rw [HE.out] at h; cases h)⟩
      · repeat (with_reducible (first | refine KeepR.set ?_ _ _ | refine KeepR.setHi ?_ hrl _ _ _ (by omega) | refine KeepR.drewN ?_ _ | refine KeepR.alloc ?_ hrl _ | exact KeepR.refl _ _))
      · rw [HE.out] at h
        cases h
        refine ⟨rfl, ?_⟩
        repeat (with_reducible (refine RD.setHi ?_ _ _ _ (by omega)))
        refine RD.set (a := at') ?_ (at' + 1)
        repeat (with_reducible (first | refine RD.drewN ?_ _ | refine RD.alloc ?_ _ | exact HR.out))
    · rw [if_neg q1] at HX
      have hq1 : ((l[at'].toNat : Int) == 10) = false := by
        have := u8_eq l[at'] 10
        rw [show ((10 : UInt8).toNat : Int) = 10 from rfl] at this
        rw [this]
        exact beq_eq_false_iff_ne.2 q1
      clear q1
      by_cases q2 : l[at'] = 34
      · have HE := HX
        rw [if_pos q2] at HE
        have hq2 : ((l[at'].toNat : Int) == 34) = true := by rw [q2]; rfl
        clear q2 HX
        go_enter Tryd.func53, Tryd.ntmps53
        go_wp2
        go_quiet (fail)
        go_wp2_with fail
        refine (Tryd.strings_IndexByte _ _ _).mono ?_
        rintro e w' ⟨he, hw'⟩
        rw [show Lib.indexByte _ _ = kk from (by rw [HIX.out]; exact HKK.out)] at he
        subst he hw'
        go_wp2_with fail
        have HM := fun n => Aside0.mk (Mid.mk0 HR.out n)
        refine (text_calls r l at' _ (HM _).out.rd hat hl (fun w1 h1 => HTE.out w1 ((HM _).out.keep.1.trans h1))).mono ?_
        rintro e w2 ⟨hk, hs, hn⟩
        cases hX : textR l (l.length + 1) (at' + 1) [] with
        | none =>
          have he := hn hX
          subst he
          rw [hX] at HE
          have HK := Aside0.mk hk
          clear hX hk hs hn
          go_wp2
          exact ⟨rfl, (HM _).out.keep.trans HK.out, (fun t a h => by rw [HE.out] at h; cases h), (fun _ => rfl)⟩
        | some p =>
          obtain ⟨o, a2⟩ := p
          obtain ⟨he, hr2⟩ := hs o a2 hX
          subst he
          rw [hX] at HE
          obtain ⟨hk2, hb0, hb1⟩ := (HM _).out.call hk hr2
          have HK := Aside0.mk hk2
          have HR2 := Aside0.mk hr2
          clear hX hk hs hn hr2 hk2 HM
          have d0 := blk_cell hb0 0
          have d1 := blk_cell hb0 1
          have d2 := blk_cell hb0 2
          have d3 := blk_cell hb0 3
          have e0 := blk_cell hb1 0
          have e1 := blk_cell hb1 1
          have e2 := blk_cell hb1 2
          have e3 := blk_cell hb1 3
          have f0 := fun j => blk_frozen hb0 j
          have f1 := fun j => blk_frozen hb1 j
          clear hb0 hb1
          go_wp2
          refine bodyPost_ret (v := .agg #[.int .i64 7, .string ⟨o.toArray⟩, .int .i64 0, .int .i64 at']) (by simp [results, Tryd.results53, go_sem, d0, d1, d2, d3]) rfl ?_
          refine ⟨?_, (fun t a h => ?_), (fun h => by rw [HE.out] at h; cases h)⟩
          · repeat (with_reducible (first | refine KeepR.setHi ?_ hrl _ _ _ (by omega) | exact HK.out))
          · rw [HE.out] at h
            cases h
            refine ⟨rfl, ?_⟩
            repeat (with_reducible (first | refine RD.setHi ?_ _ _ _ (by omega) | exact HR2.out))
      · rw [if_neg q2] at HX
        have hq2 : ((l[at'].toNat : Int) == 34) = false := by
          have := u8_eq l[at'] 34
          rw [show ((34 : UInt8).toNat : Int) = 34 from rfl] at this
          rw [this]
          exact beq_eq_false_iff_ne.2 q2
        clear q2
        by_cases q3 : l[at'] = 45
        · have HE := HX
          rw [if_pos q3] at HE
          have hq3 : ((l[at'].toNat : Int) == 45) = true := by rw [q3]; rfl
          have hq3n : ((l[at'].toNat : Int) != 45) = false := by rw [bne, hq3]; rfl
          have Q3 := Aside0.mk q3
          clear q3 HX
          generalize hds : (l.drop (at' + 1)).takeWhile isDigit = ds at *
          go_enter Tryd.func53, Tryd.ntmps53
          go_wp2
          go_quiet (fail)
          go_wp2_with fail
          refine (Tryd.strings_IndexByte _ _ _).mono ?_
          rintro e w' ⟨he, hw'⟩
          rw [show Lib.indexByte _ _ = kk from (by rw [HIX.out]; exact HKK.out)] at he
          subst he hw'
          go_wp2_with fail
          have HM := fun n => Aside0.mk (Mid.mk0 HR.out n)
          refine (number_neg r l at' ds _ (HM _).out.rd hat Q3.out hds.symm hl (fun w1 h1 => HTE.out w1 ((HM _).out.keep.1.trans h1.1))).mono ?_
          rintro e w2 ⟨hk, hs, hn⟩
          cases hX : numR true ds with
          | none =>
            have he := hn hX
            subst he
            rw [hX] at HE
            have HK := Aside0.mk hk
            clear hX hk hs hn
            go_wp2
            exact ⟨rfl, (HM _).out.keep.trans HK.out, (fun t a h => by rw [HE.out] at h; cases h), (fun _ => rfl)⟩
          | some v =>
            obtain ⟨he, hr2⟩ := hs v hX
            subst he
            rw [hX] at HE
            obtain ⟨hk2, hb0, hb1⟩ := (HM _).out.call hk hr2
            have HK := Aside0.mk hk2
            have HR2 := Aside0.mk hr2
            clear hX hk hs hn hr2 hk2 HM
            have d0 := blk_cell hb0 0
            have d1 := blk_cell hb0 1
            have d2 := blk_cell hb0 2
            have d3 := blk_cell hb0 3
            have e0 := blk_cell hb1 0
            have e1 := blk_cell hb1 1
            have e2 := blk_cell hb1 2
            have e3 := blk_cell hb1 3
            have f0 := fun j => blk_frozen hb0 j
            have f1 := fun j => blk_frozen hb1 j
            clear hb0 hb1
            go_wp2
            refine bodyPost_ret (v := .agg #[.int .i64 8, .string ⟨#[]⟩, .int .i64 v, .int .i64 at']) (by simp [results, Tryd.results53, go_sem, d0, d1, d2, d3]) rfl ?_
            refine ⟨?_, (fun t a h => ?_), (fun h => by rw [HE.out] at h; cases h)⟩
            · repeat (with_reducible (first | refine KeepR.setHi ?_ hrl _ _ _ (by omega) | exact HK.out))
            · rw [HE.out] at h
              cases h
              refine ⟨rfl, ?_⟩
              repeat (with_reducible (first | refine RD.setHi ?_ _ _ _ (by omega) | exact HR2.out))
        · rw [if_neg q3] at HX
          have hq3 : ((l[at'].toNat : Int) == 45) = false := by
            have := u8_eq l[at'] 45
            rw [show ((45 : UInt8).toNat : Int) = 45 from rfl] at this
            rw [this]
            exact beq_eq_false_iff_ne.2 q3
          have Q3 := Aside0.mk q3
          clear q3
          cases hdg : isDigit l[at'] with
          | true =>
            have HE := HX
            rw [if_pos hdg] at HE
            clear HX
            generalize hds : (l.drop at').takeWhile isDigit = ds at *
            go_enter Tryd.func53, Tryd.ntmps53
            go_wp2
            go_quiet (fail)
            go_wp2_with fail
            refine (Tryd.strings_IndexByte _ _ _).mono ?_
            rintro e w' ⟨he, hw'⟩
            rw [show Lib.indexByte _ _ = kk from (by rw [HIX.out]; exact HKK.out)] at he
            subst he hw'
            go_wp2_with fail
            have HM := fun n => Aside0.mk (Mid.mk0 HR.out n)
            refine (digit_calls l[at'] _).mono ?_
            rintro e w' ⟨he, rfl⟩
            rw [hdg] at he
            subst he
            go_wp2_with fail
            refine (number_pos r l at' ds _ (HM _).out.rd hat Q3.out hds.symm hl (fun w1 h1 => HTE.out w1 ((HM _).out.keep.1.trans h1.1))).mono ?_
            rintro e w2 ⟨hk, hs, hn⟩
            cases hX : numR false ds with
            | none =>
              have he := hn hX
              subst he
              rw [hX] at HE
              have HK := Aside0.mk hk
              clear hX hk hs hn
              go_wp2
              exact ⟨rfl, (HM _).out.keep.trans HK.out, (fun t a h => by rw [HE.out] at h; cases h), (fun _ => rfl)⟩
            | some v =>
              obtain ⟨he, hr2⟩ := hs v hX
              subst he
              rw [hX] at HE
              obtain ⟨hk2, hb0, hb1⟩ := (HM _).out.call hk hr2
              have HK := Aside0.mk hk2
              have HR2 := Aside0.mk hr2
              clear hX hk hs hn hr2 hk2 HM
              have d0 := blk_cell hb0 0
              have d1 := blk_cell hb0 1
              have d2 := blk_cell hb0 2
              have d3 := blk_cell hb0 3
              have e0 := blk_cell hb1 0
              have e1 := blk_cell hb1 1
              have e2 := blk_cell hb1 2
              have e3 := blk_cell hb1 3
              have f0 := fun j => blk_frozen hb0 j
              have f1 := fun j => blk_frozen hb1 j
              clear hb0 hb1
              go_wp2
              refine bodyPost_ret (v := .agg #[.int .i64 8, .string ⟨#[]⟩, .int .i64 v, .int .i64 at']) (by simp [results, Tryd.results53, go_sem, d0, d1, d2, d3]) rfl ?_
              refine ⟨?_, (fun t a h => ?_), (fun h => by rw [HE.out] at h; cases h)⟩
              · repeat (with_reducible (first | refine KeepR.setHi ?_ hrl _ _ _ (by omega) | exact HK.out))
              · rw [HE.out] at h
                cases h
                refine ⟨rfl, ?_⟩
                repeat (with_reducible (first | refine RD.setHi ?_ _ _ _ (by omega) | exact HR2.out))
          | false =>
            rw [if_neg (by rw [hdg]; decide)] at HX
            have HE := HX
            clear HX
            generalize htk : (l.drop at').takeWhile isLow = tk at *
            have HTK := Aside0.mk htk
            clear htk
            go_enter Tryd.func53, Tryd.ntmps53
            go_wp2
            go_quiet (fail)
            go_wp2_with fail
            refine (Tryd.strings_IndexByte _ _ _).mono ?_
            rintro e w' ⟨he, hw'⟩
            rw [show Lib.indexByte _ _ = kk from (by rw [HIX.out]; exact HKK.out)] at he
            subst he hw'
            go_wp2_with fail
            have HM := fun n => Aside0.mk (Mid.mk0 HR.out n)
            refine (digit_calls l[at'] _).mono ?_
            rintro e w' ⟨he, rfl⟩
            rw [hdg] at he
            subst he
            go_wp2_with fail
            refine (word_calls r l at' _ (HM _).out.rd (by omega) hl).mono ?_
            rw [HTK.out]
            rintro e w2 ⟨hk, hs, hn⟩
            cases hX : isWord tk with
            | false =>
              have he := hn hX
              subst he
              rw [if_neg (by rw [hX]; decide)] at HE
              have HK := Aside0.mk hk
              clear hX hk hs hn
              go_wp2
              exact ⟨rfl, (HM _).out.keep.trans HK.out, (fun t a h => by rw [HE.out] at h; cases h), (fun _ => rfl)⟩
            | true =>
              obtain ⟨he, hr2⟩ := hs hX
              subst he
              rw [if_pos hX] at HE
              obtain ⟨hk2, hb0, hb1⟩ := (HM _).out.call hk hr2
              have HK := Aside0.mk hk2
              have HR2 := Aside0.mk hr2
              clear hX hk hs hn hr2 hk2 HM
              have d0 := blk_cell hb0 0
              have d1 := blk_cell hb0 1
              have d2 := blk_cell hb0 2
              have d3 := blk_cell hb0 3
              have e0 := blk_cell hb1 0
              have e1 := blk_cell hb1 1
              have e2 := blk_cell hb1 2
              have e3 := blk_cell hb1 3
              have f0 := fun j => blk_frozen hb0 j
              have f1 := fun j => blk_frozen hb1 j
              clear hb0 hb1
              go_wp2
              refine bodyPost_ret (v := .agg #[.int .i64 9, .string ⟨tk.toArray⟩, .int .i64 0, .int .i64 at']) (by simp [results, Tryd.results53, go_sem, d0, d1, d2, d3]) rfl ?_
              refine ⟨?_, (fun t a h => ?_), (fun h => by rw [HE.out] at h; cases h)⟩
              · repeat (with_reducible (first | refine KeepR.setHi ?_ hrl _ _ _ (by omega) | exact HK.out))
              · rw [HE.out] at h
                cases h
                refine ⟨rfl, ?_⟩
                repeat (with_reducible (first | refine RD.setHi ?_ _ _ _ (by omega) | exact HR2.out))
end Go.Proofs.YtohlbnbfpcbpdaaDoor.Lx
/- lex: Tokens: the deferred closure; the walk. -/
namespace Go.Proofs.YtohlbnbfpcbpdaaDoor.Lx
open Go.RowKit Go.Proofs.YtohlbnbfpcbpdaaDoorW.PrintWords Go.Proofs.YtohlbnbfpcbpdaaDoorW.PrintLast Go.Proofs.YtohlbnbfpcbpdaaDoorW.PrintMore

theorem catch_idle (p q : Addr) (w : World) :
    CallsD Tryd.prog 50 #[.pointer (some p), .pointer (some q)] .returning w fun e u' w' => e = .returned (.tuple #[]) ∧ u' = .returning ∧ w' = w := by
  refine callsD_of_wpS Tryd.func50 rfl fun c₀ cs hu => ?_
  apply wpS_seq
  apply wpS_region
  simp [wpOpsS, go_sem, recoverD, hu, Tryd.ntmps50, Exit.thenS]
  apply wpS_seq
  apply wpS_region
  simp [wpOpsS, go_sem, Exit.thenS]
  refine wpS_cond (t := false) (by simp [Act.eval, Array.replicate]) ?_
  simp only [Bool.false_eq_true, if_false]
  refine wpS_of_wp (wp_skip ?_)
  cases c₀
  simp_all [bodyPostS, results, Tryd.results50]
def EndQ (R : World → Prop) (e : Exit) (a : Act) (w : World) : Prop := e = .normal ∧ a.defers = [] ∧ R w
set_option maxRecDepth 100000 in
set_option maxHeartbeats 2000000 in
theorem catch_panicking (p q : Nat) (x y z : Value) (a : Nat) (older : List PanicEntry) (w : World) (hpq : p ≠ q) (hp : w.heap[p]? = some (.cells #[x] 67 (0, 0))) (hq : w.heap[q]? = some (.cells #[y, z] 69 (0, 0))) :
    CallsD Tryd.prog 50 #[.pointer (some ⟨p, 0, none⟩), .pointer (some ⟨q, 0, none⟩)] (.panicking ({ v := broken a, recovered := false } :: older)) w fun e u' w' => e = .returned (.tuple #[]) ∧ u' = .panicking ({ v := broken a, recovered := true } :: older) ∧
      w'.heap[p]? = some (.cells #[.slice none 0 0] 67 (0, 0)) ∧ w'.heap[q]? = some (.cells #[.int .i64 10, .int .i64 a] 69 (0, 0)) ∧ (∀ B, B ≤ p → B ≤ q → B ≤ w.heap.size → Below B w w') := by
  have hpl := blk_lt hp
  have hql := blk_lt hq
  have hpq' : q ≠ p := fun e => hpq e.symm
  have hpn : p ≠ w.heap.size := by omega
  have hqn : q ≠ w.heap.size := by omega
  have hpn' : w.heap.size ≠ p := by omega
  have hqn' : w.heap.size ≠ q := by omega
  have c0 := blk_cell hp 0
  have c1 := blk_cell hq 0
  have c2 := blk_cell hq 1
  have f0 := fun j => blk_frozen hp j
  have f1 := fun j => blk_frozen hq j
  have HP := Aside0.mk hp
  have HQ := Aside0.mk hq
  clear hp hq
  refine callsD_of_wpS Tryd.func50 rfl fun c₀ cs hu => ?_
  apply wpS_seq
  apply wpS_region
  simp [wpOpsS, go_sem, recoverD, hu, Tryd.ntmps50, Exit.thenS]
  refine wpS_of_wp (Code.wp_mono (Q := EndQ fun w' => w'.heap[p]? = some (.cells #[.slice none 0 0] 67 (0, 0)) ∧ w'.heap[q]? = some (.cells #[.int .i64 10, .int .i64 a] 69 (0, 0)) ∧ (∀ B, B ≤ p → B ≤ q → B ≤ w.heap.size → Below B w w')) ?_ ?_)
  · rintro e a' w' ⟨rfl, hd, h⟩
    cases c₀
    simp_all [bodyPostS, results, Tryd.results50]
  show Code.wp _ _ _ { tmps := #[.pointer (some ⟨p, 0, none⟩), .pointer (some ⟨q, 0, none⟩), broken a, undef, undef, broken a, undef, undef, undef, undef, undef, undef, undef, undef, undef, undef, undef, undef, undef], defers := [] } _
  unfold broken
  have hta : ∀ W, (Instr.typeAssert (.iface 83 (.agg #[.int .i64 (a : Int)])) 20 83 true).run Tryd.prog W = .ok (.tuple #[.agg #[.int .i64 (a : Int)], .bool true]) W := fun _ => by kernel_rfl
  go_wp2
  go_region
  have h1 := blk_put HP.out 0 (.slice none 0 0) rfl
  have h2 : (w.setCell ⟨p, 0, none⟩ (.slice none 0 0)).heap[q]? = _ := (Below.heap_setCell _ _ _ _ hpq').trans HQ.out
  have h3 := blk_put (blk_put h2 0 (.int .i64 10) rfl) 1 (.int .i64 a) rfl
  have h4 := (Below.heap_setCell ((w.setCell ⟨p, 0, none⟩ (.slice none 0 0)).setCell ⟨q, 0, none⟩ (.int .i64 10)) ⟨q, 1, none⟩ (.int .i64 a) _ hpq).trans ((Below.heap_setCell (w.setCell ⟨p, 0, none⟩ (.slice none 0 0)) ⟨q, 0, none⟩ (.int .i64 10) _ hpq).trans h1)
  refine ⟨rfl, rfl, ?_, ?_, fun B hB1 hB2 hB3 => ?_⟩
  · exact (((Below.refl _ _).alloc (Nat.le_refl _) _).block p (by simpa [World.setCell] using hpl)).trans h4
  · exact (((Below.refl _ _).alloc (Nat.le_refl _) _).block q (by simpa [World.setCell] using hql)).trans h3
  · exact pw_below_drewN (((((Below.refl B w).setCell (p := ⟨p, 0, none⟩) hB1 _).setCell (p := ⟨q, 0, none⟩) hB2 _).setCell (p := ⟨q, 1, none⟩) hB2 _).alloc (by simpa [World.setCell] using hB3) _) _
end Go.Proofs.YtohlbnbfpcbpdaaDoor.Lx
