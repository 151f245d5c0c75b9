/- page.Tags: the walk. -/
import Derived.Test.YtllgcpoljdjjnaaGreatPcs
set_option linter.unusedVariables false
set_option linter.unusedSimpArgs false
namespace Go.Proofs.YtllgcpoljdjjnaaGreat.Pg
open Go.RowKit Go.Proofs.YtllgcpoljdjjnaaGreatW.PrintWords Go.Proofs.YtllgcpoljdjjnaaGreatW.PrintLast Go.Proofs.YtllgcpoljdjjnaaGreatW.PrintMore

def strV (l : List (List UInt8)) : List Value := l.map fun x => .string ⟨x.toArray⟩
theorem strV_len (l : List (List UInt8)) : (strV l).length = l.length := by simp [strV]
theorem strV_snoc (l : List (List UInt8)) (x : List UInt8) : strV (l ++ [x]) = strV l ++ [.string ⟨x.toArray⟩] := by simp [strV]
/-- What Tags' two boxes hold (in blocks B and B + 1; the text's box is block B + 2). -/
structure TInv (B : Nat) (c : Nat) (st : List (List UInt8) × Int) (w : World) : Prop where
  tags : ∃ v, w.heap[B]? = some (.cells #[v] 23 (0, 0)) ∧ w.ownsRow (B + 3) 9 1 v st.1.length (strV st.1)
  err : w.heap[B + 1]? = some (.cells #[.int .i64 st.2] 24 (0, 0))
  len : st.1.length ≤ c
  size : B + 3 ≤ w.heap.size
def stepT (st : List (List UInt8) × Int) (tag : Bool) (piece : List UInt8) (ok : Bool) : List (List UInt8) × Int :=
  if ok then (if tag then (st.1 ++ [piece], st.2) else st) else ([], 240)
theorem TInv.move {B c : Nat} {st : List (List UInt8) × Int} {w w' : World} (h : TInv B c st w) (hm : ∀ k, k < w.heap.size → k ≠ B + 2 → w'.heap[k]? = w.heap[k]?) (hs : w.heap.size ≤ w'.heap.size) : TInv B c st w' := by
  obtain ⟨⟨v, h1, h2⟩, h3, h4, h5⟩ := h
  refine ⟨⟨v, (hm B (by omega) (by omega)).trans h1, own_move h2 fun k hk => hm k (own_lt h2 k hk) (by have := own_base h2 k hk; omega)⟩, (hm (B + 1) (by omega) (by omega)).trans h3, h4, by omega⟩

set_option maxRecDepth 100000 in
set_option maxHeartbeats 4000000 in
theorem tag_calls (B L c : Nat) (st : List (List UInt8) × Int) (tag : Bool) (piece : List UInt8) (ok : Bool) (w : World) (d : Nat) (hI : TInv B c st w) (h1 : 1 ≤ d) (hcd : c + d ≤ L) (hL : L < 4294967281) :
    Calls Tryz.prog 17 #[.bool tag, .string ⟨piece.toArray⟩, .bool ok, .pointer (some ⟨B, 0, none⟩), .pointer (some ⟨B + 1, 0, none⟩)] w fun e w' => e = .returned (.bool ok) ∧ TInv B (c + d) (stepT st tag piece ok) w' ∧ w'.heap[B + 2]? = w.heap[B + 2]? ∧ Below B w w' := by
  obtain ⟨⟨v, hv, hown⟩, herr, hlen, hsz⟩ := hI
  have HV := Aside0.mk hv
  have HO := Aside0.mk hown
  have HE := Aside0.mk herr
  cases ok with
  | false =>
    have c1 : w.cell? ⟨B, 0, none⟩ = some v := blk_cell hv 0
    have f1 := blk_frozen hv 0
    have hv2 := blk_put hv 0 (.slice none 0 0) rfl
    have he2 : (w.setCell ⟨B, 0, none⟩ (.slice none 0 0)).heap[B + 1]? = some (.cells #[.int .i64 st.2] 24 (0, 0)) := (Below.heap_setCell _ _ _ _ (show B + 1 ≠ B by omega)).trans herr
    have c2 : (w.setCell ⟨B, 0, none⟩ (.slice none 0 0)).cell? ⟨B + 1, 0, none⟩ = some (.int .i64 st.2) := blk_cell he2 0
    have f2 := blk_frozen he2 0
    have HV2 := Aside0.mk hv2
    have HE2 := Aside0.mk he2
    clear hv herr hown hv2 he2
    go_enter Tryz.func17, Tryz.ntmps17
    go_wp2
    go_ret
    have hv3 := (Below.heap_setCell _ ⟨B + 1, 0, none⟩ (.int .i64 240) _ (show B ≠ B + 1 by omega)).trans HV2.out
    refine ⟨rfl, ⟨⟨_, hv3, own_nil _ _ _ _⟩, blk_put HE2.out 0 _ rfl, Nat.zero_le _, by simpa [World.setCell] using hsz⟩, ?_, ?_⟩
    · rw [Below.heap_setCell _ _ _ _ (show B + 2 ≠ B + 1 by omega), Below.heap_setCell _ _ _ _ (show B + 2 ≠ B by omega)]
    · exact ((Below.refl B w).setCell (p := ⟨B, 0, none⟩) (Nat.le_refl _) _).setCell (p := ⟨B + 1, 0, none⟩) (Nat.le_succ _) _
  | true =>
    cases tag with
    | false =>
      clear hv herr hown
      go_enter Tryz.func17, Tryz.ntmps17
      go_wp2
      go_ret
      exact ⟨rfl, ⟨⟨v, HV.out, HO.out⟩, HE.out, Nat.le_trans hlen (by omega), hsz⟩, rfl, Below.refl _ _⟩
    | true =>
      have c1 : w.cell? ⟨B, 0, none⟩ = some v := blk_cell hv 0
      obtain ⟨Av, cav, rfl⟩ := own_slice hown
      obtain ⟨i0, hi, hz0, hz1, hz2⟩ := info_parts infoS
      clear hv herr hown
      go_enter Tryz.func17, Tryz.ntmps17
      go_wp2_with (at_builtin; refine wpList_append_own _ rfl _ _ 23 rfl (B + 3) 9 i0 (.string ⟨#[]⟩) 1 16 Tryz.underlying23 hi hz0 hz1 hz2 rfl (by decide) _ st.1.length (strV st.1) rfl (HO.out.alloc _) ⟨_, 0, none⟩ 1 1 [.string ⟨piece.toArray⟩] rfl rfl (cell_new1 _ _ _ _ (by simp)) (by simp [Value.oneCell']) (by simp only [maxLen]; omega) (by omega) (by simp; omega) ?_)
      intro v' w2 hown' hg' _
      obtain ⟨A', c', rfl⟩ := own_slice hown'
      have hva : (w.alloc (.cells #[.string ⟨piece.toArray⟩] 9)).heap[B]? = some (.cells #[.slice Av st.1.length cav] 23 (0, 0)) := (Below.heap_alloc _ _ _ (by omega)).trans HV.out
      have hea : (w.alloc (.cells #[.string ⟨piece.toArray⟩] 9)).heap[B + 1]? = some (.cells #[.int .i64 st.2] 24 (0, 0)) := (Below.heap_alloc _ _ _ (by omega)).trans HE.out
      have hnb : ∀ k, k < B + 3 → some k ≠ (Value.slice Av st.1.length cav).ownBlock := fun k hk e => by
        have := own_base HO.out k e.symm
        omega
      have hv2 := blk_grown hva hg' (hnb B (by omega))
      have he2 := blk_grown hea hg' (hnb (B + 1) (by omega))
      have c2 : w2.cell? ⟨B, 0, none⟩ = some (.slice Av st.1.length cav) := blk_cell hv2 0
      have f2 := blk_frozen hv2 0
      have HV2 := Aside0.mk (blk_put hv2 0 (.slice A' (st.1.length + 1) c') rfl)
      have HE2 := Aside0.mk he2
      have HO2 := Aside0.mk hown'
      have HG := Aside0.mk hg'
      have HN := Aside0.mk hnb
      clear hva hea hnb hv2 he2 hown' hg'
      go_wp2
      go_ret
      have hsa : (w.alloc (.cells #[.string ⟨piece.toArray⟩] 9)).heap.size = w.heap.size + 1 := by simp
      have hs2 := HG.out.size
      rw [hsa] at hs2
      have hset : ∀ k, k ≠ B → (w2.setCell ⟨B, 0, none⟩ (.slice A' (st.1.length + 1) c')).heap[k]? = w2.heap[k]? := fun k hk => Below.heap_setCell _ _ _ _ hk
      refine ⟨rfl, ⟨⟨.slice A' (st.1.length + 1) c', HV2.out, ?_⟩, ?_, ?_, ?_⟩, ?_, ?_⟩
      · show (World.ownsRow _ _ _ _ _ (st.1 ++ [piece]).length (strV (st.1 ++ [piece])))
        rw [strV_snoc, List.length_append]
        exact own_move HO2.out fun k hk => hset k (by have := own_base HO2.out k hk; omega)
      · exact (hset _ (by omega)).trans HE2.out
      · show (st.1 ++ [piece]).length ≤ _
        rw [List.length_append]
        simp only [List.length_cons, List.length_nil]
        omega
      · simp only [World.setCell, Array.size_setIfInBounds]
        simp
        omega
      · rw [hset _ (by omega), HG.out.block (B + 2) (by rw [hsa]; omega) (HN.out _ (by omega))]
        exact Below.heap_alloc _ _ _ (by omega)
      · exact (((Below.refl B w).alloc (by omega) _).grown HG.out (by rw [hsa]; omega) (fun k hk => by have := own_base HO.out k hk; omega)).setCell (p := ⟨B, 0, none⟩) (Nat.le_refl _) _

theorem tag_yld (B L : Nat) (hL : L < 4294967281) : Yld 17 (.pointer (some ⟨B, 0, none⟩)) (.pointer (some ⟨B + 1, 0, none⟩)) (List (List UInt8) × Int) stepT B (B + 2) L (TInv B) where
  enters := fun args w => enters_ Tryz.func17 (by kernel_rfl) (by kernel_rfl) args w
  call := fun c st tag piece ok w d hI _ h1 hcd _ => tag_calls B L c st tag piece ok w d hI h1 hcd hL
  stable := fun _ _ _ _ h hm hs => h.move hm hs
theorem pieces_calls (l : List UInt8) (w : World) :
    Calls Tryz.prog 16 #[.string ⟨l.toArray⟩] w fun e w' => e = .returned (.func (.func 34) #[] #[.pointer (some ⟨w.heap.size, 0, none⟩)]) ∧ w' = w.alloc (.cells #[.string ⟨l.toArray⟩] 9) := by
  go_enter Tryz.func16, Tryz.ntmps16
  go_wp2
  go_ret
  exact ⟨rfl, rfl⟩
/-- The tags, and whether they could be read. -/
def tagsOf (l : List UInt8) : List (List UInt8) × Int := (pcs l.length l).foldl (run1 stepT) ([], 0)
set_option maxRecDepth 100000 in
set_option maxHeartbeats 2000000 in
theorem Tags_calls (l : List UInt8) (w : World) (hl : l.length < 4294967281) :
    Calls Tryz.prog 8 #[.string ⟨l.toArray⟩] w fun e w' => ∃ v, e = .returned (.tuple #[v, .int .i64 (tagsOf l).2]) ∧ w'.ownsRow w.heap.size 9 1 v (tagsOf l).1.length (strV (tagsOf l).1) ∧ Below w.heap.size w w' := by
  go_enter Tryz.func8, Tryz.ntmps8
  go_wp2_with fail
  refine (pieces_calls _ _).mono ?_
  rintro e w1 ⟨rfl, hw⟩
  have hs3 : ((w.alloc (.cells #[.slice none 0 0] 23)).alloc (.cells #[.int .i64 0] 24)).heap.size = w.heap.size + 2 := by simp
  rw [hs3]
  have b0 : w1.heap[w.heap.size]? = some (.cells #[.slice none 0 0] 23 (0, 0)) := by
    rw [hw, Below.heap_alloc _ _ _ (by rw [hs3]; omega), Below.heap_alloc _ _ _ (by simp)]
    exact blk_new w _
  have b1 : w1.heap[w.heap.size + 1]? = some (.cells #[.int .i64 0] 24 (0, 0)) := by
    rw [hw, Below.heap_alloc _ _ _ (by rw [hs3]; omega)]
    have h := blk_new (w.alloc (.cells #[.slice none 0 0] 23)) (.cells #[.int .i64 0] 24)
    simpa using h
  have b2 : w1.heap[w.heap.size + 2]? = some (.cells #[.string ⟨l.toArray⟩] 9 (0, 0)) := by
    have h := blk_new ((w.alloc (.cells #[.slice none 0 0] 23)).alloc (.cells #[.int .i64 0] 24)) (.cells #[.string ⟨l.toArray⟩] 9)
    rw [hs3] at h
    rw [hw]
    exact h
  have hsz : w1.heap.size = w.heap.size + 3 := by rw [hw]; simp
  have hB : Below w.heap.size w w1 := by
    rw [hw]
    exact below_alloc (below_alloc (below_alloc (Below.refl _ _) _) _) _
  have HI := Aside0.mk (show TInv w.heap.size 0 ([], 0) w1 from ⟨⟨_, b0, own_nil _ _ _ _⟩, b1, Nat.le_refl _, by omega⟩)
  have HB2 := Aside0.mk b2
  have HB := Aside0.mk hB
  clear hw hs3 b0 b1 b2 hsz hB
  go_wp2_with fail
  refine (iter_calls (tag_yld w.heap.size l.length hl) l ([], 0) w1 (by omega) hl (Nat.le_refl _) HB2.out HI.out).mono ?_
  rintro e w2 ⟨rfl, ⟨c, hI⟩, hb⟩
  obtain ⟨⟨v, hv, hown⟩, herr, _, _⟩ := hI
  have c0 : w2.cell? ⟨w.heap.size, 0, none⟩ = some v := blk_cell hv 0
  have c1 : w2.cell? ⟨w.heap.size + 1, 0, none⟩ = some (.int .i64 (tagsOf l).2) := blk_cell herr 0
  have HO := Aside0.mk hown
  have HBB := Aside0.mk hb
  clear hv herr hown hb
  go_wp2
  go_region
  go_wp2
  go_ret2
  exact ⟨v, rfl, own_move (own_weaken HO.out (by omega)) (fun _ _ => rfl), pg_below_drew (HB.out.trans HBB.out)⟩
end Go.Proofs.YtllgcpoljdjjnaaGreat.Pg
