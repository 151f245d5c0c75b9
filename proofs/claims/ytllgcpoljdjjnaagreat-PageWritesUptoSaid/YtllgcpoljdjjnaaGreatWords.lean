/- page.Words: the walk. -/
import Derived.Test.YtllgcpoljdjjnaaGreatTags
import Derived.Test.YtllgcpoljdjjnaaGreatWr
set_option linter.unusedVariables false
set_option linter.unusedSimpArgs false
namespace Go.Proofs.YtllgcpoljdjjnaaGreat.Pg
open Go.RowKit Go.Proofs.YtllgcpoljdjjnaaGreatW.PrintWords Go.Proofs.YtllgcpoljdjjnaaGreatW.PrintLast Go.Proofs.YtllgcpoljdjjnaaGreatW.PrintMore

theorem strCells_list (l : List UInt8) : Lib.strCells ⟨l.toArray⟩ = Lib.byteCells l := by
  rw [Lib.strCells_eq]
/-- What Words' two boxes hold (the builder in block B, the error in B + 1; the text's box is block B + 2). -/
structure WInv (B : Nat) (c : Nat) (st : List UInt8 × Int) (w : World) : Prop where
  bld : ∃ v, BAt (B + 3) B v (Lib.byteCells st.1) w
  err : w.heap[B + 1]? = some (.cells #[.int .i64 st.2] 24 (0, 0))
  len : st.1.length ≤ c
  size : B + 3 ≤ w.heap.size
def stepW (st : List UInt8 × Int) (tag : Bool) (piece : List UInt8) (ok : Bool) : List UInt8 × Int :=
  if ok then (if tag then st else (st.1 ++ piece, st.2)) else (st.1, 240)
theorem WInv.move {B c : Nat} {st : List UInt8 × Int} {w w' : World} (h : WInv B c st w) (hm : ∀ k, k < w.heap.size → k ≠ B + 2 → w'.heap[k]? = w.heap[k]?) (hs : w.heap.size ≤ w'.heap.size) : WInv B c st w' := by
  obtain ⟨⟨v, h1⟩, h3, h4, h5⟩ := h
  refine ⟨⟨v, h1.move fun k hk ho => hm k hk ?_⟩, (hm (B + 1) (by omega) (by omega)).trans h3, h4, by omega⟩
  rcases ho with rfl | ho
  · omega
  · have := own_base h1.row k ho
    omega

set_option maxRecDepth 100000 in
set_option maxHeartbeats 4000000 in
theorem word_calls (B L c : Nat) (st : List UInt8 × Int) (tag : Bool) (piece : List UInt8) (ok : Bool) (w : World) (d : Nat) (hI : WInv B c st w) (hpd : piece.length ≤ d) (h1 : 1 ≤ d) (hcd : c + d ≤ L) (hL : L < 4294967281) (hno : ok = false → tag = false ∧ piece = []) :
    Calls Tryz.prog 18 #[.bool tag, .string ⟨piece.toArray⟩, .bool ok, .pointer (some ⟨B + 1, 0, none⟩), .pointer (some ⟨B, 0, none⟩)] w fun e w' => e = .returned (.bool ok) ∧ WInv B (c + d) (stepW st tag piece ok) w' ∧ w'.heap[B + 2]? = w.heap[B + 2]? ∧ Below B w w' := by
  obtain ⟨⟨v, hb⟩, herr, hlen, hsz⟩ := hI
  have HB := Aside0.mk hb
  have HE := Aside0.mk herr
  cases ok with
  | false =>
    obtain ⟨rfl, rfl⟩ := hno rfl
    have c2 : w.cell? ⟨B + 1, 0, none⟩ = some (.int .i64 st.2) := blk_cell herr 0
    have f2 := blk_frozen herr 0
    clear hb herr
    go_enter Tryz.func18, Tryz.ntmps18
    go_wp2
    go_ret
    have hset : ∀ k, k ≠ B + 1 → (w.setCell ⟨B + 1, 0, none⟩ (.int .i64 240)).heap[k]? = w.heap[k]? := fun k hk => Below.heap_setCell _ _ _ _ hk
    refine ⟨rfl, ⟨⟨v, HB.out.move fun k hk ho => hset k ?_⟩, blk_put HE.out 0 _ rfl, ?_, by simpa [World.setCell] using hsz⟩, hset _ (by omega), (Below.refl B w).setCell (p := ⟨B + 1, 0, none⟩) (Nat.le_succ _) _⟩
    · rcases ho with rfl | ho
      · omega
      · have := own_base HB.out.row k ho
        omega
    · show st.1.length ≤ _
      omega
  | true =>
    cases tag with
    | true =>
      clear hb herr
      go_enter Tryz.func18, Tryz.ntmps18
      go_wp2
      go_ret
      exact ⟨rfl, ⟨⟨v, HB.out⟩, HE.out, Nat.le_trans hlen (by omega), hsz⟩, rfl, Below.refl _ _⟩
    | false =>
      clear hb herr
      have hps : (ByteArray.mk piece.toArray).size = piece.length := by simp [ByteArray.size]
      go_enter Tryz.func18, Tryz.ntmps18
      go_wp2_with fail
      refine (Write_calls (B + 3) B v _ _ w HB.out (by rw [Lib.byteCells_length]; omega) hsz).mono ?_
      rintro e w2 ⟨rfl, v', h2, hk⟩
      have H2 := Aside0.mk h2
      have HK := Aside0.mk hk
      clear h2 hk
      go_wp2
      go_ret
      rw [strCells_list, ← Lib.byteCells_append] at H2
      have hne : ∀ k, k < B + 3 → v.ownBlock ≠ some k := fun k hk e => by
        have := own_base HB.out.row k e
        omega
      refine ⟨rfl, ⟨⟨v', H2.out⟩, ?_, ?_, ?_⟩, ?_, HK.out.1⟩
      · exact (HK.out.2 _ (by omega) (by omega) (hne _ (by omega))).trans HE.out
      · show (st.1 ++ piece).length ≤ _
        rw [List.length_append]
        omega
      · have := HK.out.1.size
        omega
      · exact HK.out.2 _ (by omega) (by omega) (hne _ (by omega))
theorem word_yld (B L : Nat) (hL : L < 4294967281) : Yld 18 (.pointer (some ⟨B + 1, 0, none⟩)) (.pointer (some ⟨B, 0, none⟩)) (List UInt8 × Int) stepW B (B + 2) L (WInv B) where
  enters := fun args w => enters_ Tryz.func18 (by kernel_rfl) (by kernel_rfl) args w
  call := fun c st tag piece ok w d hI hp h1 hcd hno => word_calls B L c st tag piece ok w d hI hp h1 hcd hL hno
  stable := fun _ _ _ _ h hm hs => h.move hm hs
/-- The words, and whether they could be read. -/
def wordsOf (l : List UInt8) : List UInt8 × Int := (pcs l.length l).foldl (run1 stepW) ([], 0)
set_option maxRecDepth 100000 in
set_option maxHeartbeats 2000000 in
theorem Words_calls (l : List UInt8) (w : World) (hl : l.length < 4294967281) :
    Calls Tryz.prog 9 #[.string ⟨l.toArray⟩] w fun e w' => e = .returned (.tuple #[.string ⟨(if (wordsOf l).2 = 0 then (wordsOf l).1 else []).toArray⟩, .int .i64 (wordsOf l).2]) ∧ Below w.heap.size w w' := by
  obtain ⟨rs, hrs⟩ : ∃ rs, rs = (if (wordsOf l).2 = 0 then (wordsOf l).1 else []) := ⟨_, rfl⟩
  obtain ⟨re, hre⟩ : ∃ re, re = (wordsOf l).2 := ⟨_, rfl⟩
  rw [← hrs, ← hre]
  have HRS := Aside0.mk hrs
  have HRE := Aside0.mk hre
  clear hrs hre
  go_enter Tryz.func9, Tryz.ntmps9
  go_wp2_with fail
  refine (pieces_calls _ _).mono ?_
  rintro e w1 ⟨rfl, hw⟩
  have hs3 : ((w.alloc (.cells #[.pointer none, .slice none 0 0] 43)).alloc (.cells #[.int .i64 0] 24)).heap.size = w.heap.size + 2 := by simp
  rw [hs3]
  have b0 : w1.heap[w.heap.size]? = some (.cells #[.pointer none, .slice none 0 0] 43 (0, 0)) := by
    rw [hw, Below.heap_alloc _ _ _ (by rw [hs3]; omega), Below.heap_alloc _ _ _ (by simp)]
    exact blk_new w _
  have b1 : w1.heap[w.heap.size + 1]? = some (.cells #[.int .i64 0] 24 (0, 0)) := by
    rw [hw, Below.heap_alloc _ _ _ (by rw [hs3]; omega)]
    have h := blk_new (w.alloc (.cells #[.pointer none, .slice none 0 0] 43)) (.cells #[.int .i64 0] 24)
    simpa using h
  have b2 : w1.heap[w.heap.size + 2]? = some (.cells #[.string ⟨l.toArray⟩] 9 (0, 0)) := by
    have h := blk_new ((w.alloc (.cells #[.pointer none, .slice none 0 0] 43)).alloc (.cells #[.int .i64 0] 24)) (.cells #[.string ⟨l.toArray⟩] 9)
    rw [hs3] at h
    rw [hw]
    exact h
  have hsz : w1.heap.size = w.heap.size + 3 := by rw [hw]; simp
  have hB : Below w.heap.size w w1 := by
    rw [hw]
    exact below_alloc (below_alloc (below_alloc (Below.refl _ _) _) _) _
  have HI := Aside0.mk (show WInv w.heap.size 0 ([], 0) w1 from ⟨⟨_, .inl b0, own_nil _ _ _ _, by omega⟩, b1, Nat.le_refl _, by omega⟩)
  have HB2 := Aside0.mk b2
  have HB := Aside0.mk hB
  clear hw hs3 b0 b1 b2 hsz hB
  go_wp2_with fail
  refine (iter_calls (word_yld w.heap.size l.length hl) l ([], 0) w1 (by omega) hl (Nat.le_refl _) HB2.out HI.out).mono ?_
  rintro e w2 ⟨rfl, ⟨c, hI⟩, hb⟩
  obtain ⟨⟨v, hbld⟩, herr, _, _⟩ := hI
  have c1 : w2.cell? ⟨w.heap.size + 1, 0, none⟩ = some (.int .i64 re) := by rw [HRE.out]; exact blk_cell herr 0
  have HO := Aside0.mk (show BAt (w.heap.size + 3) w.heap.size v (Lib.byteCells (wordsOf l).1) w2 from hbld)
  have HBB := Aside0.mk hb
  clear hbld herr hb
  by_cases he : re = 0
  · subst he
    go_wp2_with fail
    refine (Tryz.Builder_String_any w.heap.size w.heap.size (wordsOf l).1 w2 HO.out.is (by have := HO.out.blt; omega)).mono ?_
    rintro e w3 ⟨rfl, h3⟩
    have H3 := Aside0.mk h3
    clear h3
    go_wp2
    go_ret2
    refine ⟨?_, (HB.out.trans HBB.out).trans H3.out⟩
    rw [HRS.out, if_pos HRE.out.symm]
    rfl
  · go_wp2
    go_region
    go_wp2
    go_ret2
    refine ⟨?_, pg_below_drew (HB.out.trans HBB.out)⟩
    rw [HRS.out, if_neg (by rw [← HRE.out]; exact he)]
    rfl
end Go.Proofs.YtllgcpoljdjjnaaGreat.Pg
