/- LexJoins: the plain law of the document's Join, and the walk. -/
import Derived.Test.YtidkjiglmfhjpaaDoorLxJ0
import Derived.Test.YtidkjiglmfhjpaaDoorPJb
import Derived.Test.YtidkjiglmfhjpaaDoorLxE
set_option linter.unusedVariables false
set_option linter.unusedSimpArgs false
namespace Go.Proofs.YtidkjiglmfhjpaaDoor.PS
open Go.RowKit Go.Proofs.YtidkjiglmfhjpaaDoorW.PrintWords Go.Proofs.YtidkjiglmfhjpaaDoorW.PrintLast Go.Proofs.YtidkjiglmfhjpaaDoorW.PrintMore
open Go.Proofs.YtidkjiglmfhjpaaDoor.Lx

def JR (acc : List UInt8) : Option (List UInt8) → ByteArray × Int
  | some o => (toB (acc ++ o), 0)
  | none => (⟨#[]⟩, 1)
theorem JR_app (acc s : List UInt8) (r : Option (List UInt8)) : JR acc (r.map fun o => s ++ o) = JR (acc ++ s) r := by
  cases r with
  | none => rfl
  | some o => simp [JR]
theorem join_j3 (l : List S33) (i : Nat) (hi : i < l.length) (hl : ToksOk l) (acc : List UInt8) (hacc : acc.length ≤ 10000000000000) (R : ByteArray × Int) (k : Nat) (hk : 2097160 ≤ k)
    (NEXT : ∀ s, writtenR l[i].f0 l[i].f1.data.toList l[i].f2 = some s → ∀ k', k ≤ k' → assizeref01_Join.l0 k' l (ints (acc ++ s)) l[i].f0 (wrap64 ((i : Int) + 1)) = some R)
    (FAIL : writtenR l[i].f0 l[i].f1.data.toList l[i].f2 = none → (⟨#[]⟩, 1) = R) :
    assizeref01_Join.j3 (k + 2) l (ints acc) l[i].f0 (i : Int) l[i].f0 (decide (1 ≤ l[i].f0 ∧ l[i].f0 ≤ 6)) = some R := by
  have hrd : rd_T33 l (i : Int) = l[i] := by
    unfold rd_T33
    rw [List.getD_eq_getElem?_getD, Int.toNat_natCast, List.getElem?_eq_getElem hi]
    rfl
  obtain ⟨w1, w2, w3⟩ := hl.2 l[i] (List.getElem_mem hi)
  have hll := hl.1
  generalize hx : l[i] = x at *
  obtain ⟨x0, x1, x2, x3⟩ := x
  simp only at w1 w2 w3 NEXT FAIL ⊢
  have hx1 : x1.data.toList.length ≤ 1048576 := w3
  have hq := quote_len x1.data.toList
  have hal : (ints acc).length ≤ 10000000000000 := by rw [ints_len]; exact hacc
  simp only [assizeref01_Join.j3, hrd]
  have hi0 : (0 : Int) ≤ (i : Int) := by omega
  have hi1 : (i : Int) < (l.length : Int) := by omega
  unfold writtenR at NEXT FAIL
  by_cases q1 : 1 ≤ x0 ∧ x0 ≤ 6
  · rw [if_pos (decide_eq_true q1)]
    have hw : wrap64 (x0 - 1) = x0 - 1 := w64 _ (by omega) (by omega)
    rw [hw, if_pos (by omega), if_pos (by omega), if_pos (by omega)]
    have := NEXT [singles.getD (x0.toNat - 1) 0] (by rw [if_pos q1]) (k + 1) (by omega)
    have e : ([bt (⟨#[123, 125, 91, 93, 58, 44]⟩ : ByteArray) (x0 - 1)] : List Int) = ints [singles.getD (x0.toNat - 1) 0] := by
      have hc : x0 = 1 ∨ x0 = 2 ∨ x0 = 3 ∨ x0 = 4 ∨ x0 = 5 ∨ x0 = 6 := by omega
      rcases hc with rfl | rfl | rfl | rfl | rfl | rfl <;> rfl
    rw [e, ints_app]
    exact this
  · rw [if_neg (by simpa using q1)]
    rw [if_neg q1] at NEXT FAIL
    by_cases q7 : x0 = 7
    · rw [if_pos q7, if_pos hi0, if_pos hi1]
      rw [if_neg (show ¬ x0 = 10 by omega), if_pos q7] at NEXT FAIL
      rw [Quote_pure x1 (by omega) (k + 1) (by omega), Option.bind_some, if_pos (by rw [size_toB, quoteR]; simp only [List.length_cons, List.length_append, List.length_nil]; omega)]
      have := NEXT _ rfl (k + 1) (by omega)
      rw [show bytesOf (toB (quoteR x1.data.toList)) = ints (quoteR x1.data.toList) from rfl, ints_app]
      exact this
    · rw [if_neg q7]
      by_cases q8 : x0 = 8
      · rw [if_pos q8, if_pos hi0, if_pos hi1]
        rw [if_neg (show ¬ x0 = 10 by omega), if_neg q7, if_pos q8] at NEXT FAIL
        have hf : strconv_FormatInt.f (k + 1) x2 10 = some (toB (Lib.itoa x2)) := by
          unfold strconv_FormatInt.f
          rw [decide_eq_true rfl, decide_eq_true w2.1, decide_eq_true w2.2]
          rfl
        have hil := Lib.itoa_length_le x2 w2.1 w2.2
        rw [hf, Option.bind_some, if_pos (by rw [size_toB]; omega)]
        have := NEXT _ rfl (k + 1) (by omega)
        rw [show bytesOf (toB (Lib.itoa x2)) = ints (Lib.itoa x2) from rfl, ints_app]
        exact this
      · rw [if_neg q8]
        have J4 : ∀ b : Bool, b = (x0 == 9 && isWord x1.data.toList) → assizeref01_Join.j4 (k + 1) l (ints acc) x0 (i : Int) x0 b = some R := by
          intro b hb
          simp only [assizeref01_Join.j4, hrd]
          cases b with
          | true =>
            have hb' : x0 = 9 ∧ isWord x1.data.toList = true := by simpa using hb.symm
            rw [if_pos rfl, if_pos hi0, if_pos hi1, if_pos (by rw [size_list]; omega)]
            rw [if_neg (show ¬ x0 = 10 by omega), if_neg q7, if_neg q8, if_pos hb'] at NEXT FAIL
            have := NEXT _ rfl k (Nat.le_refl _)
            rw [show bytesOf x1 = ints x1.data.toList from rfl, ints_app]
            exact this
          | false =>
            have hb' : ¬ (x0 = 9 ∧ isWord x1.data.toList = true) := by simpa using hb.symm
            rw [if_neg (by decide)]
            by_cases q10 : x0 = 10
            · rw [if_pos q10, if_pos (by omega)]
              rw [if_pos q10] at NEXT FAIL
              have := NEXT _ rfl k (Nat.le_refl _)
              rw [show ([10] : List Int) = ints [10] from rfl, ints_app]
              exact this
            · rw [if_neg q10]
              rw [if_neg q10, if_neg q7, if_neg q8, if_neg hb'] at FAIL
              rw [FAIL rfl]
        by_cases q9 : x0 = 9
        · rw [if_pos q9, if_pos hi0, if_pos hi1, toL]
          by_cases t1 : x1.data.toList = [116, 114, 117, 101]
          · rw [if_pos t1]
            exact J4 true (by rw [t1, q9]; rfl)
          · rw [if_neg t1]
            by_cases t2 : x1.data.toList = [102, 97, 108, 115, 101]
            · rw [if_pos t2]
              exact J4 true (by rw [t2, q9]; rfl)
            · rw [if_neg t2]
              refine J4 _ ?_
              have e1 : (x1.data.toList == wTrue) = false := beq_eq_false_iff_ne.2 t1
              have e2 : (x1.data.toList == wFalse) = false := beq_eq_false_iff_ne.2 t2
              unfold isWord
              rw [e1, e2, q9]
              rfl
        · rw [if_neg q9]
          exact J4 false (by rw [beq_eq_false_iff_ne.2 q9]; rfl)
theorem Join_loop (l : List S33) (hl : ToksOk l) : ∀ (d k i : Nat) (prev : Int) (acc : List UInt8), d = l.length - i → i ≤ l.length → acc.length ≤ i * 6291500 → 5 * d + 2097170 ≤ k →
    assizeref01_Join.l0 k l (ints acc) prev (i : Int) = some (JR acc (joinF (wordy prev) ((l.drop i).map toJ)))
  | 0, k, i, prev, acc, hd, hi, hacc, hk => by
    obtain ⟨k, rfl⟩ : ∃ m, k = m + 1 := ⟨k - 1, by omega⟩
    simp only [assizeref01_Join.l0]
    rw [if_neg (by omega), List.drop_eq_nil_of_le (by omega)]
    have : strOfNums (ints acc) = toB acc := strOf_bytes acc
    rw [this]
    simp [JR, joinF]
  | d + 1, k, i, prev, acc, hd, hi, hacc, hk => by
    obtain ⟨k, rfl⟩ : ∃ m, k = m + 5 := ⟨k - 5, by omega⟩
    have hlt : i < l.length := by omega
    have hll := hl.1
    have hrd : rd_T33 l (i : Int) = l[i] := by
      unfold rd_T33
      rw [List.getD_eq_getElem?_getD, Int.toNat_natCast, List.getElem?_eq_getElem hlt]
      rfl
    have hdr : (l.drop i).map toJ = toJ l[i] :: (l.drop (i + 1)).map toJ := by rw [List.drop_eq_getElem_cons hlt]; rfl
    have J1 : assizeref01_Join.l0 (k + 4 + 1) l (ints acc) prev (i : Int) = assizeref01_Join.j1 (k + 4) l (ints acc) (i : Int) l[i].f0 (wordy prev && wordy l[i].f0) := by
      simp only [assizeref01_Join.l0, hrd]
      rw [if_pos (by omega), if_pos (by omega)]
      unfold wordy
      by_cases p8 : prev = 8
      · rw [if_pos p8, p8]
        by_cases x8 : l[i].f0 = 8
        · rw [if_pos x8, x8]; rfl
        · rw [if_neg x8, beq_eq_false_iff_ne.2 x8]; rfl
      · rw [if_neg p8, beq_eq_false_iff_ne.2 p8]
        by_cases p9 : prev = 9
        · rw [if_pos p9, p9]
          by_cases x8 : l[i].f0 = 8
          · rw [if_pos x8, x8]; rfl
          · rw [if_neg x8, beq_eq_false_iff_ne.2 x8]; rfl
        · rw [if_neg p9, beq_eq_false_iff_ne.2 p9]; rfl
    obtain ⟨sep, hsep, hsl⟩ : ∃ sep : List UInt8, sep = (if (wordy prev && wordy l[i].f0) = true then [32] else []) ∧ sep.length ≤ 1 := ⟨_, rfl, by split <;> simp⟩
    have hal : (ints acc).length ≤ 7000000000000 := by
      rw [ints_len]
      have : i * 6291500 ≤ 1048576 * 6291500 := Nat.mul_le_mul_right _ (by omega)
      omega
    have J2 : assizeref01_Join.j1 (k + 3 + 1) l (ints acc) (i : Int) l[i].f0 (wordy prev && wordy l[i].f0) = assizeref01_Join.j2 (k + 3) l (ints (acc ++ sep)) (i : Int) l[i].f0 := by
      simp only [assizeref01_Join.j1]
      cases hb : (wordy prev && wordy l[i].f0) with
      | true =>
        rw [hb, if_pos rfl] at hsep
        rw [if_pos rfl, if_pos (by omega), hsep, ← ints_app]
        rfl
      | false =>
        rw [hb, if_neg (by decide)] at hsep
        rw [if_neg (by decide), hsep, List.append_nil]
    have J3 : assizeref01_Join.j2 (k + 2 + 1) l (ints (acc ++ sep)) (i : Int) l[i].f0 = assizeref01_Join.j3 (k + 2) l (ints (acc ++ sep)) l[i].f0 (i : Int) l[i].f0 (decide (1 ≤ l[i].f0 ∧ l[i].f0 ≤ 6)) := by
      simp only [assizeref01_Join.j2]
      by_cases h1 : l[i].f0 ≥ 1
      · rw [if_pos h1]
        congr 1
        by_cases h6 : l[i].f0 ≤ 6
        · rw [decide_eq_true h6, decide_eq_true ⟨h1, h6⟩]
        · rw [decide_eq_false h6, decide_eq_false (fun h => h6 h.2)]
      · rw [if_neg h1, decide_eq_false (fun h => h1 h.1)]
    have hacc2 : (acc ++ sep).length ≤ i * 6291500 + 1 := by rw [List.length_append]; omega
    have hal2 : (acc ++ sep).length ≤ 10000000000000 := by rw [List.length_append]; rw [ints_len] at hal; omega
    obtain ⟨w1, w2, w3⟩ := hl.2 l[i] (List.getElem_mem hlt)
    rw [show k + 5 = k + 4 + 1 from rfl, J1, show k + 4 = k + 3 + 1 from rfl, J2, show k + 3 = k + 2 + 1 from rfl, J3]
    refine join_j3 l i hlt hl (acc ++ sep) hal2 _ k (by omega) (fun s hs k' hk' => ?_) (fun hn => ?_)
    · have hsl2 := written_len w2 hs
      have hx1 : l[i].f1.data.toList.length ≤ 1048576 := w3
      rw [w64 _ (by omega) (by omega), show ((i : Int) + 1) = ((i + 1 : Nat) : Int) by omega]
      rw [Join_loop l hl d k' (i + 1) l[i].f0 (acc ++ sep ++ s) (by omega) (by omega) (by rw [List.length_append, Nat.succ_mul]; omega) (by omega)]
      congr 1
      rw [hdr, joinF]
      have hw : writtenR (toJ l[i]).k (toJ l[i]).t (toJ l[i]).n = some s := hs
      rw [hw]
      simp only
      have hsep' : (if (wordy prev && wordy (toJ l[i]).k) = true then [32] else ([] : List UInt8)) = sep := hsep.symm
      rw [hsep']
      have e : ((joinF (wordy (toJ l[i]).k) ((l.drop (i + 1)).map toJ)).map fun o => sep ++ s ++ o) = (joinF (wordy l[i].f0) ((l.drop (i + 1)).map toJ)).map fun o => (sep ++ s) ++ o := rfl
      rw [e, JR_app, List.append_assoc]
    · rw [hdr, joinF]
      have hw : writtenR (toJ l[i]).k (toJ l[i]).t (toJ l[i]).n = none := hn
      rw [hw]
      rfl
theorem Join_pure (l : List S33) (hl : ToksOk l) : ∃ o cd, lex_Join.f 0 l = some (o, cd) ∧ assizeref01_Join.f 8000000 l = some (o, cd) := by
  have hll := hl.1
  have h2 : assizeref01_Join.f 8000000 l = some (JR [] (joinF false (l.map toJ))) := by
    unfold assizeref01_Join.f
    rw [show ([] : List Int) = ints [] from rfl, show (0 : Int) = ((0 : Nat) : Int) from rfl, Join_loop l hl l.length 8000000 0 ((0 : Nat) : Int) [] rfl (by omega) (by simp) (by omega), List.drop_zero]
    rfl
  refine ⟨(JR [] (joinF false (l.map toJ))).1, (JR [] (joinF false (l.map toJ))).2, ?_, h2⟩
  unfold lex_Join.f
  rw [toksOk_join hl]
  unfold joinA JR
  cases joinF false (l.map toJ) <;> rfl
end Go.Proofs.YtidkjiglmfhjpaaDoor.PS
namespace Go.Proofs.YtidkjiglmfhjpaaDoor.Lx
open Go.RowKit Go.Proofs.YtidkjiglmfhjpaaDoorW.PrintWords Go.Proofs.YtidkjiglmfhjpaaDoorW.PrintLast Go.Proofs.YtidkjiglmfhjpaaDoorW.PrintMore
open Go.Proofs.YtidkjiglmfhjpaaDoor.PS
set_option maxRecDepth 100000 in
set_option maxHeartbeats 4000000 in
theorem LexJoins_calls (A : Option Addr) (c : Nat) (l : List S33) (w : World) (hC : Kd.C k33 w A l.length l) (hc : l.length ≤ c) (hl : ToksOk l) (htab : LW w) :
    Calls Tryd.prog 6 #[.slice A l.length c] w fun e w' => e = .returned (.bool true) ∧ Below w.heap.size w w' := by
  obtain ⟨o, cd, hj1, hj2⟩ := Join_pure l hl
  have hll := hl.1
  have HJ1 := Aside0.mk hj1
  have HJ2 := Aside0.mk hj2
  have HT := Aside0.mk htab
  have HC := Aside0.mk hC
  clear htab hC hl hj1 hj2
  go_enter Tryd.func6, Tryd.ntmps6
  go_wp2_with fail
  refine (assizelaw01_alive.calls 0 true _ (alive_pure 0) HT.out).mono ?_
  rintro e w1 ⟨rfl, h1⟩
  have HB := Aside0.mk h1
  clear h1
  go_wp2_with (first | ((with_reducible refine gate_dst (N := 10) rfl ?_); (try (refine gate_guard (by rfl) ?_; dsimp only)); refine Kd.R_lit k33 _ 33 ?hg (N := 10) ?hd (xs := ([] : List (S33))) (inner := []) (ok := fun _ => True) (okp := fun _ => True) ?hr ?hp (fun _ hk => hk) trivial (Below.refl _ _) (Nat.le_refl _) (by simp) ?_; (case hd => rfl); (case hg => rfl); (case hr => first | (go_simp; done) | (go_simp; rfl)); (case hp => exact (Reps.none _ _)); intro v264 w18 ho19 hb hg_ hnew_; clear hg_ hnew_; have n0_ := Aside0.mk (Kd.R_lower ho19 (below_size (by repeat (first | (with_reducible first | exact HB.out | apply below_alloc | apply pw_below_drewN | apply below_drew1) | exact HB.out)))); have n1_ := Aside0.mk (below_step (by repeat (first | (with_reducible first | exact HB.out | apply below_alloc | apply pw_below_drewN | apply below_drew1) | exact HB.out)) hb); clear HB; have HO265 := n0_; have HB := n1_; clear n0_ n1_; clear hb ho19) | ((with_reducible refine gate_builtin (b := .append) (xs := #[.tmp 10, .tmp 11]) rfl ?_); (try (refine gate_guard (by rfl) ?_; dsimp only)); at_builtin; refine Kd.R_append_rows k33 (w0 := w) w.heap.size rfl (.tmp 10) (.tmp 11) 23 33 (.agg #[(.int .i64 0), (.string ⟨#[]⟩), (.int .i64 0), (.int .i64 0)]) 40 rfl Tryd.underlying23 info33 rfl (by decide) (by omega) v264 ([] : List S33) l _ _ _ (fun _ => True) (fun _ => False) rfl rfl ?aO ?aR (fun _ _ h => h) (fun _ h => h.elim) ?aF ?aB ?aS ?aL ?_; (case aR => repeat (first | exact (Kd.C_below HC.out HB.out) | (with_reducible refine Kd.C_alloc ?_ _) | (with_reducible refine Kd.C_drewN ?_ _) | (with_reducible refine Kd.C_drew ?_))); (case aB => exact (by repeat (first | (with_reducible first | exact HB.out | apply below_alloc | apply pw_below_drewN | apply below_drew1) | exact HB.out))); (case aF => exact (fun _ _ => trivial)); (case aO => exact (by (with_reducible repeat (first | apply Kd.R_alloc | apply Kd.R_drewN | apply Kd.R_drew)); exact HO265.out)); (case aS => exact (below_size (by repeat (first | (with_reducible first | exact HB.out | apply below_alloc | apply pw_below_drewN | apply below_drew1) | exact HB.out)))); (case aL => simp only [List.length_nil]; omega); intro v267 w20 ho hb hg hat; rw [List.nil_append] at ho; have n0_ := Aside0.mk (hb); have n1_ := Aside0.mk (ho); clear HB; clear HO265; have HB := n0_; have HO268 := n1_; clear n0_ n1_; clear ho hb hg hat) | ((with_reducible refine gate_builtin (b := .append) (xs := #[.tmp 12, .tmp 14]) rfl ?_); (try (refine gate_guard (by rfl) ?_; dsimp only)); at_builtin; refine Kd.R_append k33 (w0 := w) w.heap.size rfl (.tmp 12) (.tmp 14) 23 33 (.agg #[(.int .i64 0), (.string ⟨#[]⟩), (.int .i64 0), (.int .i64 0)]) 40 rfl Tryd.underlying23 info33 rfl (by decide) (by omega) v267 l (⟨77, (⟨#[]⟩ : ByteArray), 0, 0⟩ : S33) [.int .i64 77, .string (⟨#[]⟩ : ByteArray), .int .i64 0, .int .i64 0] (fun _ => True) (fun _ => False) rfl rfl ?aP (fun _ hk => hk.elim) ?aF ?aO ?aB ?aS ?aL ?_; (case aP => exact k33_mkM _ _ _ (⟨77, (⟨#[]⟩ : ByteArray), 0, 0⟩ : S33)); (case aB => exact (by repeat (first | (with_reducible first | exact HB.out | apply below_alloc | apply pw_below_drewN | apply below_drew1) | exact HB.out))); (case aF => exact (fun _ _ => trivial)); (case aO => exact (by (with_reducible repeat (first | apply Kd.R_alloc | apply Kd.R_drewN | apply Kd.R_drew)); exact HO268.out)); (case aS => exact (below_size (by repeat (first | (with_reducible first | exact HB.out | apply below_alloc | apply pw_below_drewN | apply below_drew1) | exact HB.out)))); (case aL => omega); intro v270 w21 ho hb hg hat; have n0_ := Aside0.mk (hb); have n1_ := Aside0.mk (ho); clear HB; clear HO268; have HB := n0_; have HO271 := n1_; clear n0_ n1_; clear ho hb hg hat; obtain ⟨A1, c1, eo⟩ := Kd.R_slice HO271.out; subst eo; have hro : l.length + 1 ≤ c1 := by { have := (Kd.R_reads' HO271.out).2.1; rw [List.length_append] at this; exact this }; obtain ⟨i0, hi0, _, hsz0, _⟩ := info_parts info33; have hcut := cut_to (P := Tryd.prog) 23 33 .i64 Tryd.underlying23 hi0 A1 (l ++ [(⟨77, (⟨#[]⟩ : ByteArray), 0, 0⟩ : S33)]).length c1 (l.length : Int) (by omega) (by rw [List.length_append]; simp; omega) (by rw [List.length_append]; simp; omega); rw [Int.toNat_natCast] at hcut; clear hi0 hsz0))
  have hR := Kd.R_reads' HO271.out
  have CG := hR.2.2
  have hlen1 : (l ++ [(⟨77, (⟨#[]⟩ : ByteArray), 0, 0⟩ : S33)]).length = l.length + 1 := by rw [List.length_append]; rfl
  have hgt := Kd.C_take (m := l.length) CG (by rw [hlen1]; omega)
  rw [List.take_left] at hgt
  refine (lex_Join.calls 0 A1 c1 l _ _ _ hgt (by omega) HJ1.out (HT.out.below HB.out)).mono ?_
  rintro e w2 ⟨rfl, h2⟩
  have G2 := Aside0.mk (Kd.C_below CG h2)
  have T2 := Aside0.mk (Kd.C_below hgt h2)
  have B2 := Aside0.mk (HB.out.trans (h2.mono HB.out.size))
  clear hgt CG hR h2 HO271 HB
  go_wp2_with fail
  refine (assizeref01_Join.calls 8000000 A c l _ _ _ (Kd.C_below HC.out B2.out) hc HJ2.out (HT.out.below B2.out)).mono ?_
  rintro e w3 ⟨rfl, h3⟩
  have G3 := Aside0.mk (Kd.C_below G2.out h3)
  have T3 := Aside0.mk (Kd.C_below T2.out h3)
  have B3 := Aside0.mk (B2.out.trans (h3.mono B2.out.size))
  clear h3
  go_wp2_with fail
  have hsm := assizelaw01_same.calls 2000000 A1 c1 l A c l true w3 T3.out (by omega) (Kd.C_below HC.out B3.out) hc (same_pure l (by omega) _ (by omega))
  refine hsm.mono ?_
  rintro e w4 ⟨rfl, h4⟩
  clear hsm
  have B4 := Aside0.mk (B3.out.trans (h4.below.mono B3.out.size))
  obtain ⟨ad, rfl, r0, r1, r2, r3⟩ := at_T33 (Kd.C_below G3.out h4.below) (l.length : Int) (by omega) (by rw [hlen1]; omega)
  have hrd : rd_T33 (l ++ [(⟨77, (⟨#[]⟩ : ByteArray), 0, 0⟩ : S33)]) (l.length : Int) = ⟨77, ⟨#[]⟩, 0, 0⟩ := by
    unfold rd_T33
    rw [List.getD_eq_getElem?_getD, Int.toNat_natCast, List.getElem?_append_right (Nat.le_refl _)]
    simp
  rw [hrd, Int.toNat_natCast] at r0
  clear r1 r2 r3 h4 hlen1 hrd
  have q4 : (l.length : Int) < (l.length : Int) + 1 := by omega
  go_wp2
  go_ret
  exact ⟨rfl, B4.out⟩
end Go.Proofs.YtidkjiglmfhjpaaDoor.Lx
