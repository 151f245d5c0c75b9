/- dot: edge: the walk. -/
import Derived.Test.YtohlbnbfpcbpdaaDoorDtW
set_option linter.unusedVariables false
set_option linter.unusedSimpArgs false
namespace Go.Proofs.YtohlbnbfpcbpdaaDoor.Dt
open Go.RowKit Go.Proofs.YtohlbnbfpcbpdaaDoorW.PrintWords Go.Proofs.YtohlbnbfpcbpdaaDoorW.PrintLast Go.Proofs.YtohlbnbfpcbpdaaDoorW.PrintMore
open Go.Proofs.YtohlbnbfpcbpdaaDoor.Lx

def edV (e : Ed) : Value := .agg #[.int .i64 e.f, .int .i64 e.t, .int .i64 e.k, .int .i64 e.y]
/-- How edge ends. -/
def EdgePost (names : List (List UInt8)) (x : List UInt8) (e : Ending) : Prop := (∀ d, edgeD names x = some d → e = .returned (.tuple #[edV d, .bool true])) ∧ (edgeD names x = none → ∃ d, e = .returned (.tuple #[edV d, .bool false]))
theorem edge_parts (names : List (List UInt8)) (x : List UInt8) : edgeD names x =
  (if Lib.hasPrefix x p1 = true ∧ (Lib.cut (Lib.trimPrefix x p1) p2).2.2 = true ∧ (Lib.cut (Lib.cut (Lib.trimPrefix x p1) p2).2.1 p3).2.2 = true ∧ Lib.hasSuffix (Lib.cut (Lib.cut (Lib.trimPrefix x p1) p2).2.1 p3).2.1 p4 = true then
    (numD (Lib.cut (Lib.trimPrefix x p1) p2).1).bind fun a => (numD (Lib.cut (Lib.cut (Lib.trimPrefix x p1) p2).2.1 p3).1).bind fun b => (quoD (Lib.trimSuffix (Lib.cut (Lib.cut (Lib.trimPrefix x p1) p2).2.1 p3).2.1 p4)).bind fun t => (labD names t).map fun ky => ⟨a, b, ky.1, ky.2⟩
  else none) := by
  unfold edgeD
  simp only [Bool.and_eq_true, and_assoc]
  split
  · cases numD (Lib.cut (Lib.trimPrefix x p1) p2).1 with
    | none => simp
    | some a =>
      cases numD (Lib.cut (Lib.cut (Lib.trimPrefix x p1) p2).2.1 p3).1 with
      | none => simp
      | some b =>
        cases quoD (Lib.trimSuffix (Lib.cut (Lib.cut (Lib.trimPrefix x p1) p2).2.1 p3).2.1 p4) with
        | none => simp
        | some t => simp
  · rfl
theorem cut_len (s sep : List UInt8) : (Lib.cut s sep).1.length ≤ s.length ∧ (Lib.cut s sep).2.1.length ≤ s.length := by
  unfold Lib.cut
  split
  · simp only [List.length_take, List.length_drop]
    omega
  · simp
theorem trimP_len (s p : List UInt8) : (Lib.trimPrefix s p).length ≤ s.length := by unfold Lib.trimPrefix; split <;> simp
theorem trimS_len (s p : List UInt8) : (Lib.trimSuffix s p).length ≤ s.length := by unfold Lib.trimSuffix; split <;> simp
theorem runeB_len (n : Nat) : (runeB n).length ≤ 3 := by
  unfold runeB
  split
  · simp
  · split <;> simp
theorem escR_len {l : List UInt8} {a b : Nat} {o : List UInt8} (h : escR l a = some (o, b)) : o.length ≤ 3 := by
  unfold escR at h
  split at h
  · cases h
  · split at h
    · cases h; simp
    · split at h
      · cases h
      · split at h
        · cases h
        · split at h
          · cases h
          · cases h
            exact runeB_len _
theorem textR_len (l : List UInt8) : ∀ (f a : Nat) (acc o : List UInt8) (b : Nat), textR l f a acc = some (o, b) → o.length ≤ acc.length + 3 * f
  | 0, _, _, _, _, h => by cases h
  | f + 1, a, acc, o, b, h => by
    rw [textR] at h
    split at h
    · cases h
    · split at h
      · cases h; omega
      · split at h
        · cases h
        · split at h
          · split at h
            · cases h
            · rename_i o1 a2 he
              have h1 := escR_len he
              have := textR_len l f _ _ _ _ h
              rw [List.length_append] at this
              omega
          · have := textR_len l f _ _ _ _ h
            rw [List.length_append] at this
            simp only [List.length_cons, List.length_nil] at this
            omega
theorem nextR_text {l : List UInt8} {a b : Nat} {t : Tk} (h : nextR l a = some (t, b)) : t.text.length ≤ 3 * (l.length + 1) := by
  unfold nextR at h
  split at h
  · cases h
  · split at h
    · cases h; simp
    · split at h
      · cases h; simp
      · split at h
        · obtain ⟨⟨o, b'⟩, h1, h2⟩ := Option.map_eq_some_iff.1 h
          have := textR_len l _ _ _ _ _ h1
          cases h2
          simpa using this
        · split at h
          · obtain ⟨v, _, h2⟩ := Option.map_eq_some_iff.1 h
            cases h2; simp
          · split at h
            · obtain ⟨v, _, h2⟩ := Option.map_eq_some_iff.1 h
              cases h2; simp
            · split at h
              · cases h
                have h1 : ((l.drop a).takeWhile isLow).length ≤ (l.drop a).length := (List.takeWhile_sublist _).length_le
                have h2 : (l.drop a).length ≤ l.length := by simp
                show ((l.drop a).takeWhile isLow).length ≤ _
                omega
              · cases h
theorem toksR_text (l : List UInt8) : ∀ (f a : Nat) (acc ts : List Tk), toksR l f a acc = .inl ts → (∀ x ∈ acc, x.text.length ≤ 3 * (l.length + 1)) → ∀ x ∈ ts, x.text.length ≤ 3 * (l.length + 1)
  | 0, _, _, _, h, _ => by cases h
  | f + 1, a, acc, ts, h, ha => by
    rw [toksR] at h
    split at h
    · cases h; exact ha
    · split at h
      · cases h
      · rename_i t a2 hn
        refine toksR_text l f _ _ ts h fun x hx => ?_
        rcases List.mem_append.1 hx with hx | hx
        · exact ha x hx
        · obtain rfl : x = t := by simpa using hx
          exact nextR_text hn
theorem tokensR_text (l : List UInt8) : ∀ t ∈ (tokensR l).1, t.text.length ≤ 200000 := by
  unfold tokensR
  intro t ht
  split at ht
  · cases ht
  · rename_i hl
    split at ht
    · rename_i ts h
      have := toksR_text l _ _ _ _ h (by simp) t ht
      omega
    · cases ht
theorem below_set4 {B : Nat} {w w' : World} (h : Below B w w') (b : Nat) (hb : B ≤ b) (v0 v1 v2 v3 : Value) : Below B w ((((w'.setCell ⟨b, 0, none⟩ v0).setCell ⟨b, 1, none⟩ v1).setCell ⟨b, 2, none⟩ v2).setCell ⟨b, 3, none⟩ v3) :=
  (((h.setCell (p := ⟨b, 0, none⟩) hb _).setCell (p := ⟨b, 1, none⟩) hb _).setCell (p := ⟨b, 2, none⟩) hb _).setCell (p := ⟨b, 3, none⟩) hb _
theorem blk_set4 {w : World} {b : Nat} {t : TypeId} {a0 a1 a2 a3 : Value} (h : w.heap[b]? = some (.cells #[a0, a1, a2, a3] t (0, 0))) (v0 v1 v2 v3 : Value) :
    ((((w.setCell ⟨b, 0, none⟩ v0).setCell ⟨b, 1, none⟩ v1).setCell ⟨b, 2, none⟩ v2).setCell ⟨b, 3, none⟩ v3).heap[b]? = some (.cells #[v0, v1, v2, v3] t (0, 0)) :=
  blk_put (blk_put (blk_put (blk_put h 0 v0 rfl) 1 v1 rfl) 2 v2 rfl) 3 v3 rfl
theorem results_edge (tmps : Array Value) (w : World) (b : Nat) (v0 v1 v2 v3 o : Value) (h4 : tmps.getD 4 undef = .pointer (some ⟨b, 0, none⟩)) (h5 : tmps.getD 5 undef = o)
    (hb : w.heap[b]? = some (.cells #[v0, v1, v2, v3] 34 (0, 0))) : (results Tryd.f29 tmps).run Tryd.prog w = .ok (.tuple #[.agg #[v0, v1, v2, v3], o]) w := by
  have c0 := blk_cell hb 0
  have c1 := blk_cell hb 1
  have c2 := blk_cell hb 2
  have c3 := blk_cell hb 3
  rw [Array.getD_eq_getD_getElem?] at h4 h5
  simp [results, Tryd.results29, h4, h5, c0, c1, c2, c3, go_sem]
theorem NumPost.get {s : List UInt8} {e : Ending} (h : NumPost s e) : ∃ n o, e = .returned (.tuple #[.int .i64 n, .bool o]) ∧ (numD s = if o = true then some n else none) := by
  cases hx : numD s with
  | some n => exact ⟨n, true, h.1 n hx, rfl⟩
  | none =>
    obtain ⟨n, hn⟩ := h.2 hx
    exact ⟨n, false, hn, rfl⟩
theorem LabPost.get {names : List (List UInt8)} {s : List UInt8} {e : Ending} (h : LabPost names s e) : ∃ k y o, e = .returned (.tuple #[.int .i64 k, .int .i64 y, .bool o]) ∧ (labD names s = if o = true then some (k, y) else none) := by
  cases hx : labD names s with
  | some p => exact ⟨p.1, p.2, true, h.1 _ _ hx, rfl⟩
  | none =>
    obtain ⟨k, y, hn⟩ := h.2 hx
    exact ⟨k, y, false, hn, rfl⟩
/-- What Tokens leaves, as edge reads it. -/
theorem tok_calls (q : List UInt8) (w : World) (h : ∀ w1, Below w.heap.size w w1 → TE w1) : Calls Tryd.prog 42 #[.string ⟨q.toArray⟩] w fun e w' => ∃ A c, e = .returned (.tuple #[.slice A (tokensR q).1.length c, .agg #[.int .i64 (tokensR q).2.1, .int .i64 (tokensR q).2.2]]) ∧
    Below w.heap.size w w' ∧ ∀ t, (tokensR q).1[0]? = some t → ∃ g, A = some ⟨g, 0, none⟩ ∧ w.heap.size ≤ g ∧ w'.cell? ⟨g, 0, none⟩ = some (.int .i64 t.kind) ∧ w'.cell? ⟨g, 1, none⟩ = some (.string ⟨t.text.toArray⟩) := by
  unfold tokensR
  by_cases hl : 65536 < q.length
  · rw [if_pos hl]
    refine (Tokens_long q w hl).mono ?_
    rintro e w' ⟨rfl, hb⟩
    exact ⟨_, _, rfl, hb, fun t ht => by cases ht⟩
  · rw [if_neg hl]
    refine (Tokens_short q w (by omega) h).mono ?_
    rintro e w' ⟨hb, h1, h2⟩
    cases hx : toksR q (q.length + 1) 0 [] with
    | inl ts =>
      obtain ⟨v, rfl, ho⟩ := h1 ts hx
      obtain ⟨A, c, rfl⟩ := own_slice ho
      refine ⟨_, _, rfl, hb, fun t ht => ?_⟩
      cases ts with
      | nil => cases ht
      | cons t0 r =>
        obtain rfl : t0 = t := by simpa using ht
        obtain ⟨g, rfl, hg⟩ : ∃ g, A = some ⟨g, 0, none⟩ ∧ w.heap.size ≤ g := by
          rcases ho.2 with ⟨h, _⟩ | ⟨g, cap, cur, h, hg, _⟩
          · cases h
          · cases h
            exact ⟨g, rfl, hg⟩
        have hc := ho.cells (g := g) rfl
        refine ⟨g, rfl, hg, ?_, ?_⟩
        · exact hc 0 (.int .i64 t0.kind) rfl
        · exact hc 1 (.string ⟨t0.text.toArray⟩) rfl
    | inr a =>
      have := h2 a hx
      subst this
      exact ⟨_, _, rfl, hb, fun t ht => by cases ht⟩
theorem quoD_cases (q : List UInt8) : (quoD q = none ∧ (tokensR q).2.1 ≠ 0) ∨ (quoD q = none ∧ (tokensR q).2.1 = 0 ∧ (tokensR q).1.length ≠ 1) ∨
    ∃ t, (tokensR q).2.1 = 0 ∧ (tokensR q).1 = [t] ∧ ((quoD q = none ∧ t.kind ≠ 7) ∨ (quoD q = none ∧ t.kind = 7 ∧ quoteR t.text ≠ q) ∨ (quoD q = some t.text ∧ t.kind = 7 ∧ quoteR t.text = q)) := by
  unfold quoD
  obtain ⟨⟨ts, c, a⟩, h⟩ : ∃ x, x = tokensR q := ⟨_, rfl⟩
  rw [← h]
  simp only
  by_cases hc : c = 0
  · subst hc
    match ts with
    | [] => exact .inr (.inl ⟨rfl, rfl, by simp⟩)
    | [t] =>
      refine .inr (.inr ⟨t, rfl, rfl, ?_⟩)
      simp only
      by_cases h7 : t.kind = 7
      · by_cases hq : quoteR t.text = q
        · rw [if_pos ⟨h7, hq⟩]; exact .inr (.inr ⟨rfl, h7, hq⟩)
        · rw [if_neg (fun h => hq h.2)]; exact .inr (.inl ⟨rfl, h7, hq⟩)
      · rw [if_neg (fun h => h7 h.1)]; exact .inl ⟨rfl, h7⟩
    | _ :: _ :: _ => exact .inr (.inl ⟨rfl, rfl, by simp⟩)
  · refine .inl ⟨?_, hc⟩
    split
    · rename_i h; cases h; exact absurd rfl hc
    · rfl
set_option maxRecDepth 100000 in
set_option maxHeartbeats 4000000 in
theorem edge_calls (names : List (List UInt8)) (x : List UInt8) (b : Nat) (w : World) (hm : MapL.Is encS w b (bookL names)) (hn : names.Nodup) (hs : x.length < 4294967281) (hw : DW w) :
    Calls Tryd.prog 29 #[.string ⟨x.toArray⟩, .map (some b)] w fun e w' => Below w.heap.size w w' ∧ EdgePost names x e := by
  have HW := Aside0.mk hw
  have HM := Aside0.mk hm
  clear hw hm
  have HP0 := Aside0.mk (show ∀ e, EdgePost names x e ↔ (∀ d, edgeD names x = some d → e = .returned (.tuple #[edV d, .bool true])) ∧ (edgeD names x = none → ∃ d, e = .returned (.tuple #[edV d, .bool false])) from fun e => Iff.rfl)
  have HD := Aside0.mk (edge_parts names x)
  generalize edgeD names x = D at HP0 HD
  obtain ⟨m, hml⟩ := HW.out.ml
  have HML := Aside0.mk hml
  clear hml
  go_enter Tryd.func29, Tryd.ntmps29
  go_wp2_with fail
  refine (Tryd.strings_CutPrefix ⟨x.toArray⟩ ⟨#[32, 32, 116]⟩ _).mono ?_
  rintro e w1 ⟨rfl, rfl⟩
  simp only [List.toList_toArray]
  have hx1 : (Lib.trimPrefix x p1).length < 4294967281 := Nat.lt_of_le_of_lt (trimP_len _ _) hs
  obtain ⟨r1, hr1⟩ : ∃ c, c = Lib.trimPrefix x p1 := ⟨_, rfl⟩
  obtain ⟨o1, ho1⟩ : ∃ c, c = Lib.hasPrefix x p1 := ⟨_, rfl⟩
  unfold p1 at hr1 ho1 hx1 HD
  rw [← hr1] at hx1 HD
  rw [← ho1] at HD
  rw [← hr1, ← ho1]
  clear hr1 ho1
  go_wp2_with fail
  refine (Tryd.strings_Cut ⟨r1.toArray⟩ ⟨#[32, 45, 62, 32, 116]⟩ m _ (show (ByteArray.mk r1.toArray).size < 4294967281 from hx1) (cellB ((Below.refl _ _).alloc (Nat.le_refl _) _) HML.out)).mono ?_
  rintro e w2 ⟨rfl, n2, hw2⟩
  simp only [List.toList_toArray]
  have hx2 : (Lib.cut r1 p2).1.length < 4294967281 ∧ (Lib.cut r1 p2).2.1.length < 4294967281 := ⟨Nat.lt_of_le_of_lt (cut_len _ _).1 hx1, Nat.lt_of_le_of_lt (cut_len _ _).2 hx1⟩
  obtain ⟨⟨c1, r2, o2⟩, hc2⟩ : ∃ c, c = Lib.cut r1 p2 := ⟨_, rfl⟩
  unfold p2 at hc2 hx2 HD
  rw [← hc2] at hx2 HD ⊢
  clear hc2
  simp only at hx2 HD ⊢
  have hml2 : w2.cell? ⟨0, 0, none⟩ = some (.int .i64 m) := by rw [hw2]; exact cellB (pw_below_drewN ((Below.refl w.heap.size w).alloc (Nat.le_refl _) _) n2) HML.out
  have HB2 := Aside0.mk (show Below w.heap.size w w2 by rw [hw2]; exact pw_below_drewN ((Below.refl _ _).alloc (Nat.le_refl _) _) n2)
  have HX2 := Aside0.mk (show w2.heap[w.heap.size]? = some (.cells #[.int .i64 0, .int .i64 0, .int .i64 0, .int .i64 0] 34 (0, 0)) by rw [hw2]; exact blk_drewN (blk_new _ _) n2)
  clear hw2
  go_wp2_with fail
  refine (Tryd.strings_Cut ⟨r2.toArray⟩ ⟨#[32, 91, 108, 97, 98, 101, 108, 61]⟩ m _ (show (ByteArray.mk r2.toArray).size < 4294967281 from hx2.2) hml2).mono ?_
  rintro e w3 ⟨rfl, n3, hw3⟩
  simp only [List.toList_toArray]
  have hx3 : (Lib.cut r2 p3).1.length < 4294967281 ∧ (Lib.cut r2 p3).2.1.length < 4294967281 := ⟨Nat.lt_of_le_of_lt (cut_len _ _).1 hx2.2, Nat.lt_of_le_of_lt (cut_len _ _).2 hx2.2⟩
  obtain ⟨⟨c2, r3, o3⟩, hc3⟩ : ∃ c, c = Lib.cut r2 p3 := ⟨_, rfl⟩
  unfold p3 at hc3 hx3 HD
  rw [← hc3] at hx3 HD ⊢
  clear hc3
  simp only at hx3 HD ⊢
  have HB3 := Aside0.mk (show Below w.heap.size w w3 by rw [hw3]; exact pw_below_drewN HB2.out n3)
  have HX3 := Aside0.mk (show w3.heap[w.heap.size]? = some (.cells #[.int .i64 0, .int .i64 0, .int .i64 0, .int .i64 0] 34 (0, 0)) by rw [hw3]; exact HX2.out)
  clear hw3 hml2 HB2 HX2
  go_wp2_with fail
  refine (Tryd.strings_CutSuffix ⟨r3.toArray⟩ ⟨#[93, 59]⟩ _ (show (ByteArray.mk r3.toArray).size ≤ 9223372036854775807 from by have h := hx3.2; show r3.length ≤ _; omega)).mono ?_
  rintro e w4 ⟨rfl, rfl⟩
  simp only [List.toList_toArray]
  have hx4 : (Lib.trimSuffix r3 p4).length < 4294967281 := Nat.lt_of_le_of_lt (trimS_len _ _) hx3.2
  obtain ⟨q, hq⟩ : ∃ c, c = Lib.trimSuffix r3 p4 := ⟨_, rfl⟩
  obtain ⟨o4, ho4⟩ : ∃ c, c = Lib.hasSuffix r3 p4 := ⟨_, rfl⟩
  unfold p4 at hq ho4 hx4 HD
  rw [← hq] at hx4 HD
  rw [← ho4] at HD
  rw [← hq, ← ho4]
  clear hq ho4
  go_wp2_with fail
  refine (number_calls c1 _ (by omega) (HW.out.below HB3.out)).mono ?_
  rintro e w5 ⟨hb5, hn5⟩
  obtain ⟨n5, o5, rfl, he5⟩ := hn5.get
  have HB5 := Aside0.mk (HB3.out.trans (hb5.mono HB3.out.size))
  have HX5 := Aside0.mk (blk_below HX3.out hb5)
  have HE5 := Aside0.mk he5
  clear hb5 hn5 he5 HB3 HX3
  go_wp2_with fail
  refine (number_calls c2 _ (by omega) (HW.out.below HB5.out)).mono ?_
  rintro e w6 ⟨hb6, hn6⟩
  obtain ⟨n6, o6, rfl, he6⟩ := hn6.get
  have HB6 := Aside0.mk (HB5.out.trans (hb6.mono HB5.out.size))
  have HX6 := Aside0.mk (blk_below HX5.out hb6)
  have HE6 := Aside0.mk he6
  clear hb6 hn6 he6 HB5 HX5
  by_cases hall : o1 = true ∧ o2 = true ∧ o3 = true ∧ o4 = true ∧ o5 = true ∧ o6 = true
  · obtain ⟨rfl, rfl, rfl, rfl, rfl, rfl⟩ := hall
    have HD6 := Aside0.mk (show D = (quoD q).bind fun t => (labD names t).map fun ky => ⟨n5, n6, ky.1, ky.2⟩ by
      rw [HD.out, if_pos ⟨rfl, rfl, rfl, rfl⟩, HE5.out, HE6.out]
      rfl)
    clear HD HE5 HE6
    go_wp2_with fail
    refine (tok_calls q _ (fun w1 h1 => ((HW.out.below HB6.out).lw.te.below h1))).mono ?_
    rintro e w7 ⟨A, c, rfl, hb7, ht7⟩
    have HB7 := Aside0.mk (HB6.out.trans (hb7.mono HB6.out.size))
    have HX7 := Aside0.mk (blk_below HX6.out hb7)
    have HT7 := Aside0.mk ht7
    have hsz7 : w.heap.size < w7.heap.size := blk_lt HX7.out
    have HB6s := Aside0.mk (show w.heap.size < w6.heap.size from blk_lt HX6.out)
    clear hb7 ht7 HB6
    have c0 := blk_cell HX7.out 0
    have c1' := blk_cell HX7.out 1
    have c2' := blk_cell HX7.out 2
    have c3' := blk_cell HX7.out 3
    have fz := fun j => blk_frozen HX7.out j
    have BAD : D = none → ∀ w' : World, Below w.heap.size w w' → Below w.heap.size w w' ∧ EdgePost names x (.returned (.tuple #[edV ⟨0, 0, 0, 0⟩, .bool false])) := fun h w' hb => ⟨hb, (HP0.out _).2 ⟨(fun d h' => by rw [h] at h'; cases h'), fun _ => ⟨_, rfl⟩⟩⟩
    have HBAD := Aside0.mk BAD
    clear BAD
    have hne : w7.heap.size ≠ w.heap.size := by omega
    have hne' : w.heap.size ≠ w7.heap.size := by omega
    clear HX6
    have hqc := quoD_cases q
    have HTX := Aside0.mk (tokensR_text q)
    obtain ⟨⟨ts, cd, ac⟩, hts⟩ : ∃ z, z = tokensR q := ⟨_, rfl⟩
    rw [← hts] at hqc HT7 HTX ⊢
    clear hts
    simp only at hqc HT7 HTX ⊢
    rcases hqc with ⟨h1, h2⟩ | ⟨h1, h2, h3⟩ | ⟨t, h2, h3, h4⟩
    · have HN := Aside0.mk (HBAD.out (by rw [HD6.out, h1]; rfl))
      have hc : ((cd : Int) != 0) = true := by simpa using h2
      have hc' : ((cd : Int) == 0) = false := by simpa using h2
      clear h1 h2 HD6 HT7 hx4 hx3 hx2 hx1
      go_wp2_with fail
      exact bodyPost_ret (v := .tuple #[edV ⟨0, 0, 0, 0⟩, .bool false]) (results_edge _ _ w.heap.size _ _ _ _ _ rfl rfl (blk_alloc (blk_set4 HX7.out _ _ _ _) _)) rfl (HN.out _ ((below_set4 HB7.out _ (Nat.le_refl _) _ _ _ _).alloc (by simp; omega) _))
    · have HN := Aside0.mk (HBAD.out (by rw [HD6.out, h1]; rfl))
      have hc : ((cd : Int) != 0) = false := by simp [h2]
      have hc2 : (ts.length != 1) = true := by simpa using h3
      have hc3 : ((ts.length : Int) != 1) = true := by simp; omega
      clear h1 h2 h3 HD6 HT7 hx4 hx3 hx2 hx1
      go_wp2_with fail
      exact bodyPost_ret (v := .tuple #[edV ⟨0, 0, 0, 0⟩, .bool false]) (results_edge _ _ w.heap.size _ _ _ _ _ rfl rfl (blk_alloc (blk_set4 HX7.out _ _ _ _) _)) rfl (HN.out _ ((below_set4 HB7.out _ (Nat.le_refl _) _ _ _ _).alloc (by simp; omega) _))
    · obtain ⟨g, rfl, hg, t0, t1⟩ := HT7.out t (by rw [h3]; rfl)
      have hc : ((cd : Int) != 0) = false := by simp [h2]
      have hl1 : ts.length = 1 := by rw [h3]; rfl
      have hc2 : ((ts.length : Int) != 1) = false := by simp [hl1]
      have hgl := World.block_lt_of_cell? _ _ t0
      simp only at hgl
      have hgn : g ≠ w7.heap.size := by omega
      have hne2 : g ≠ w.heap.size := by have := HB6s.out; omega
      have HTL := Aside0.mk (show t.text.length ≤ 200000 from HTX.out t (by rw [h3]; simp))
      have HT1 := Aside0.mk (show ∀ w' : World, Below w7.heap.size w7 w' → w'.cell? ⟨g, 1, none⟩ = some (.string ⟨t.text.toArray⟩) from fun w' hb => cellB hb t1)
      subst h3
      clear h2 HT7 hx4 hx3 hx2 hx1
      rcases h4 with ⟨h5, h6⟩ | ⟨h5, h6, h7⟩ | ⟨h5, h6, h7⟩
      · have HN := Aside0.mk (HBAD.out (by rw [HD6.out, h5]; rfl))
        have hc7 : ((t.kind : Int) != 7) = true := by simp; omega
        clear h5 h6 HD6
        go_wp2_with fail
        exact bodyPost_ret (v := .tuple #[edV ⟨0, 0, 0, 0⟩, .bool false]) (results_edge _ _ w.heap.size _ _ _ _ _ rfl rfl (blk_alloc (blk_set4 HX7.out _ _ _ _) _)) rfl (HN.out _ ((below_set4 HB7.out _ (Nat.le_refl _) _ _ _ _).alloc (by simp; omega) _))
      · have HN := Aside0.mk (HBAD.out (by rw [HD6.out, h5]; rfl))
        have hc7 : ((t.kind : Int) != 7) = false := by simp; omega
        have hc8 : (quoteR t.text == q) = false := beq_eq_false_iff_ne.2 h7
        clear h5 h6 h7 HD6
        go_wp2_with fail
        refine (Quote_calls t.text _ ?_ (fun w1 h1 => ((HW.out.below (HB7.out.alloc (Nat.le_of_lt hsz7) _)).lw.deb.below h1))).mono ?_
        · have := HTL.out; omega
        rintro e w8 ⟨rfl, hb8⟩
        have HB8 := Aside0.mk ((HB7.out.alloc (Nat.le_of_lt hsz7) _).trans (hb8.mono (by simp; omega)))
        have HX8 := Aside0.mk (blk_below (blk_alloc HX7.out _) hb8)
        have HB8x := Aside0.mk (show Below w7.heap.size w7 w8 from ((Below.refl _ _).alloc (Nat.le_refl _) _).trans (hb8.mono (by simp)))
        have HM8 := Aside0.mk (show MapL.Is encS w8 b (bookL names) from HM.out.same (HB8.out.block b HM.out.lt))
        clear hb8 HB7 HX7 t0 t1 c0 c1' c2' c3' fz
        have c0 := blk_cell HX8.out 0
        have c1' := blk_cell HX8.out 1
        have c2' := blk_cell HX8.out 2
        have c3' := blk_cell HX8.out 3
        have fz := fun j => blk_frozen HX8.out j
        have t1 := HT1.out w8 HB8x.out
        go_wp2_with fail
        exact bodyPost_ret (v := .tuple #[edV ⟨0, 0, 0, 0⟩, .bool false]) (results_edge _ _ w.heap.size _ _ _ _ _ rfl rfl (blk_set4 HX8.out _ _ _ _)) rfl (HN.out _ (below_set4 HB8.out _ (Nat.le_refl _) _ _ _ _))
      · have HD8 := Aside0.mk (show D = (labD names t.text).map fun ky => ⟨n5, n6, ky.1, ky.2⟩ by rw [HD6.out, h5]; rfl)
        have hc7 : ((t.kind : Int) != 7) = false := by simp; omega
        have hc8 : (quoteR t.text == q) = true := beq_iff_eq.2 h7
        clear h5 h6 h7 HD6
        go_wp2_with fail
        refine (Quote_calls t.text _ ?_ (fun w1 h1 => ((HW.out.below (HB7.out.alloc (Nat.le_of_lt hsz7) _)).lw.deb.below h1))).mono ?_
        · have := HTL.out; omega
        rintro e w8 ⟨rfl, hb8⟩
        have HB8 := Aside0.mk ((HB7.out.alloc (Nat.le_of_lt hsz7) _).trans (hb8.mono (by simp; omega)))
        have HX8 := Aside0.mk (blk_below (blk_alloc HX7.out _) hb8)
        have HB8x := Aside0.mk (show Below w7.heap.size w7 w8 from ((Below.refl _ _).alloc (Nat.le_refl _) _).trans (hb8.mono (by simp)))
        have HM8 := Aside0.mk (show MapL.Is encS w8 b (bookL names) from HM.out.same (HB8.out.block b HM.out.lt))
        clear hb8 HB7 HX7 t0 t1 c0 c1' c2' c3' fz
        have c0 := blk_cell HX8.out 0
        have c1' := blk_cell HX8.out 1
        have c2' := blk_cell HX8.out 2
        have c3' := blk_cell HX8.out 3
        have fz := fun j => blk_frozen HX8.out j
        have t1 := HT1.out w8 HB8x.out
        go_wp2_with fail
        refine (label_calls names t.text b _ HM8.out hn (by have := HTL.out; omega) (HW.out.below HB8.out).ml).mono ?_
        rintro e w9 ⟨⟨n9, hw9⟩, hl9⟩
        obtain ⟨ky, yy, oo, rfl, he9⟩ := hl9.get
        have HB9 := Aside0.mk (show Below w.heap.size w w9 by rw [hw9]; exact pw_below_drewN HB8.out n9)
        have HX9 := Aside0.mk (show w9.heap[w.heap.size]? = some (.cells #[.int .i64 0, .int .i64 0, .int .i64 0, .int .i64 0] 34 (0, 0)) by rw [hw9]; exact HX8.out)
        have HE9 := Aside0.mk he9
        clear hw9 hl9 he9 HB8 HX8 t1 c0 c1' c2' c3' fz
        have c0 := blk_cell HX9.out 0
        have c1' := blk_cell HX9.out 1
        have c2' := blk_cell HX9.out 2
        have c3' := blk_cell HX9.out 3
        have fz := fun j => blk_frozen HX9.out j
        go_wp2_with fail
        refine bodyPost_ret (v := .tuple #[edV ⟨n5, n6, ky, yy⟩, .bool oo]) (results_edge _ _ w.heap.size _ _ _ _ _ rfl rfl (blk_set4 HX9.out _ _ _ _)) rfl ⟨below_set4 HB9.out _ (Nat.le_refl _) _ _ _ _, (HP0.out _).2 ?_⟩
        rw [HD8.out, HE9.out]
        cases oo with
        | true => exact ⟨(fun d h => by cases h; rfl), (fun h => by cases h)⟩
        | false => exact ⟨(fun d h => by cases h), fun _ => ⟨_, rfl⟩⟩
  · have hbad : o1 = false ∨ (o1 = true ∧ o2 = false) ∨ (o1 = true ∧ o2 = true ∧ o3 = false) ∨ (o1 = true ∧ o2 = true ∧ o3 = true ∧ o4 = false) ∨ (o1 = true ∧ o2 = true ∧ o3 = true ∧ o4 = true ∧ o5 = false) ∨ (o1 = true ∧ o2 = true ∧ o3 = true ∧ o4 = true ∧ o5 = true ∧ o6 = false) := by
      cases o1 <;> cases o2 <;> cases o3 <;> cases o4 <;> cases o5 <;> cases o6 <;> simp at hall ⊢
    have HDN := Aside0.mk (show D = none by
      rw [HD.out]
      by_cases h : o1 = true ∧ o2 = true ∧ o3 = true ∧ o4 = true
      · rw [if_pos h, HE5.out, HE6.out]
        obtain ⟨rfl, rfl, rfl, rfl⟩ := h
        cases o5 <;> cases o6 <;> simp at hall ⊢
      · rw [if_neg h])
    clear hall HD HE5 HE6
    have c0 := blk_cell HX6.out 0
    have c1' := blk_cell HX6.out 1
    have c2' := blk_cell HX6.out 2
    have c3' := blk_cell HX6.out 3
    have fz := fun j => blk_frozen HX6.out j
    rcases hbad with rfl | ⟨rfl, rfl⟩ | ⟨rfl, rfl, rfl⟩ | ⟨rfl, rfl, rfl, rfl⟩ | ⟨rfl, rfl, rfl, rfl, rfl⟩ | ⟨rfl, rfl, rfl, rfl, rfl, rfl⟩
    all_goals
      go_wp2_with fail
      exact bodyPost_ret (v := .tuple #[edV ⟨0, 0, 0, 0⟩, .bool false]) (by simp [results, Tryd.results29, go_sem, c0, c1', c2', c3', edV]) rfl ⟨below_set4 HB6.out _ (Nat.le_refl _) _ _ _ _, (HP0.out _).2 ⟨(fun d h => by rw [HDN.out] at h; cases h), fun _ => ⟨_, rfl⟩⟩⟩
end Go.Proofs.YtohlbnbfpcbpdaaDoor.Dt

/- dot: Read: the walk. -/
namespace Go.Proofs.YtohlbnbfpcbpdaaDoor.Dt
open Go.RowKit Go.Proofs.YtohlbnbfpcbpdaaDoorW.PrintWords Go.Proofs.YtohlbnbfpcbpdaaDoorW.PrintLast Go.Proofs.YtohlbnbfpcbpdaaDoorW.PrintMore
open Go.Proofs.YtohlbnbfpcbpdaaDoor.Lx

theorem EdgePost.get {names : List (List UInt8)} {x : List UInt8} {e : Ending} (h : EdgePost names x e) : ∃ d o, e = .returned (.tuple #[edV d, .bool o]) ∧ (edgeD names x = if o = true then some d else none) := by
  cases hx : edgeD names x with
  | some p => exact ⟨p, true, h.1 _ hx, rfl⟩
  | none =>
    obtain ⟨d, hn⟩ := h.2 hx
    exact ⟨d, false, hn, rfl⟩
def edCs (l : List Ed) : List Value := l.flatMap fun e => [.int .i64 e.f, .int .i64 e.t, .int .i64 e.k, .int .i64 e.y]
theorem edCs_snoc (l : List Ed) (e : Ed) : edCs l ++ [.int .i64 e.f, .int .i64 e.t, .int .i64 e.k, .int .i64 e.y] = edCs (l ++ [e]) := by simp [edCs]
theorem infoEd : (Tryd.prog.info? 34).map (fun i => (i.zero, i.size, i.bytes)) = some (some (.agg #[.int .i64 0, .int .i64 0, .int .i64 0, .int .i64 0]), 4, 32) := by kernel_rfl
theorem bad3 : ∀ o1 o2 a b : Bool, ¬ ((o1 && o2) && (a || b)) = true → o1 = false ∨ (o1 = true ∧ o2 = false) ∨ (o1 = true ∧ o2 = true ∧ a = false ∧ b = false) := by decide
theorem own_base_le {w : World} {b b' n z : Nat} {e : TypeId} {v : Value} {xs : List Value} (h : w.ownsRow b e z v n xs) (hb : b' ≤ b) : w.ownsRow b' e z v n xs := by
  refine ⟨h.1, ?_⟩
  rcases h.2 with h | ⟨g, cap, cur, h1, h2, h3⟩
  · exact .inl h
  · exact .inr ⟨g, cap, cur, h1, Nat.le_trans hb h2, h3⟩
theorem own_ne {w : World} {b n z : Nat} {e : TypeId} {v : Value} {xs : List Value} (h : w.ownsRow b e z v n xs) {k : Nat} (hk : k < b) : some k ≠ v.ownBlock := fun q => by
  have := (h.lt k q.symm).1
  omega
theorem cut_snd_lt (s : List UInt8) : s ≠ [] → (Lib.cut s [10]).2.1.length < s.length := fun h => by
  unfold Lib.cut
  have : 0 < s.length := List.length_pos_iff.2 h
  split
  · simp only [List.length_drop, List.length_cons, List.length_nil]
    omega
  · simpa using this
/-- What is known in the loop of Read. -/
structure RI (w0 : World) (names : List (List UInt8)) (v : Value) (acc : List Ed) (w : World) : Prop where
  is : MapL.Is encS w w0.heap.size (bookL names)
  bel : Below w0.heap.size w0 w
  own : w.ownsRow (w0.heap.size + 1) 34 4 v acc.length (edCs acc)
/-- How Read ends. -/
def ReadPost (w : World) (L : List Ed) (c : Int) (e : Ending) (w' : World) : Prop := ∃ v, e = .returned (.tuple #[v, .int .i64 c]) ∧ w'.ownsRow w.heap.size 34 4 v L.length (edCs L) ∧ Below w.heap.size w w'
set_option maxRecDepth 100000 in
set_option maxHeartbeats 4000000 in
theorem Read_calls (names : List (List UInt8)) (s : List UInt8) (A : Option Addr) (c : Nat) (w : World) (hr : NRow w A names) (hl : names.length ≤ 1000000000000) (hn : ∀ n ∈ names, n.length ≤ 1000000000000) (hs : s.length < 4294967281) (hw : DW w) :
    Calls Tryd.prog 13 #[.slice A names.length c, .string ⟨s.toArray⟩] w (ReadPost w (readR names s).1 (readR names s).2) := by
  have HW := Aside0.mk hw
  have HB0 := book_calls names A c w hr hl hn
  have HB := Aside0.mk HB0
  clear hw HB0 hr
  obtain ⟨L, hL⟩ : ∃ L, L = (readR names s).1 := ⟨_, rfl⟩
  obtain ⟨C, hC⟩ : ∃ L, L = (readR names s).2 := ⟨_, rfl⟩
  rw [← hL, ← hC]
  have HR := Aside0.mk (show (L, C) = readR names s by rw [hL, hC])
  clear hL hC
  unfold readR at HR
  go_enter Tryd.func13, Tryd.ntmps13
  go_wp2_with fail
  refine HB.out.mono ?_
  rintro e w1 ⟨rfl, hm1, hb1⟩
  have HM1 := Aside0.mk hm1
  have HB1 := Aside0.mk hb1
  clear hm1 hb1
  by_cases q0 : wrongR names = 0
  · obtain ⟨hnd, hn32⟩ := wrongR_zero q0
    have HND := Aside0.mk hnd
    clear hn32 hnd
    rw [if_pos q0] at HR
    rw [q0]
    clear q0
    go_wp2_with fail
    refine (Tryd.strings_CutPrefix ⟨s.toArray⟩ ⟨#[100, 105, 103, 114, 97, 112, 104, 32, 104, 105, 115, 116, 111, 114, 121, 32, 123, 10]⟩ _).mono ?_
    rintro e w2 ⟨rfl, rfl⟩
    simp only [List.toList_toArray]
    have hx1 : (Lib.trimPrefix s hd).length ≤ s.length := trimP_len _ _
    obtain ⟨r1, hr1⟩ : ∃ c, c = Lib.trimPrefix s hd := ⟨_, rfl⟩
    obtain ⟨o1, ho1⟩ : ∃ c, c = Lib.hasPrefix s hd := ⟨_, rfl⟩
    rw [← hr1, ← ho1] at HR
    rw [← hr1] at hx1
    unfold hd at hr1 ho1
    rw [← hr1, ← ho1]
    clear hr1 ho1
    go_wp2_with fail
    refine (Tryd.strings_CutSuffix ⟨r1.toArray⟩ ⟨#[125, 10]⟩ _ (show (ByteArray.mk r1.toArray).size ≤ 9223372036854775807 from by show r1.length ≤ _; omega)).mono ?_
    rintro e w2 ⟨rfl, rfl⟩
    simp only [List.toList_toArray]
    have hx2 : (Lib.trimSuffix r1 tl).length ≤ s.length := Nat.le_trans (trimS_len _ _) hx1
    obtain ⟨r2, hr2⟩ : ∃ c, c = Lib.trimSuffix r1 tl := ⟨_, rfl⟩
    obtain ⟨o2, ho2⟩ : ∃ c, c = Lib.hasSuffix r1 tl := ⟨_, rfl⟩
    rw [← hr2, ← ho2] at HR
    rw [← hr2] at hx2
    unfold tl at hr2 ho2
    rw [← hr2, ← ho2]
    clear hr2 ho2
    have BAD : ∀ w' : World, (L, C) = (([] : List Ed), (230 : Int)) → Below w.heap.size w w' → ReadPost w L C (.returned (.tuple #[.slice none 0 0, .int .i64 230])) w' := fun w' h hb => by
      cases h
      exact ⟨_, rfl, World.ownsRow_nil _ _ _ _, hb⟩
    have HBAD := Aside0.mk BAD
    clear BAD
    have hK : ∀ b : Bool, b = true ∨ b = false := fun b => by cases b <;> simp
    by_cases hall : ((o1 && o2) && (r2 == [] || Lib.hasSuffix r2 [10])) = true
    · rw [if_pos hall] at HR
      have HR2 := Aside0.mk (show (L, C) = match bodyD names (s.length + 1) r2 [] with
        | none => (([] : List Ed), (230 : Int))
        | some l => (l, 0) from HR.out)
      clear HR
      have HLEN := Aside0.mk (show r2.length < s.length + 1 by omega)
      simp only [Bool.and_eq_true, Bool.or_eq_true] at hall
      obtain ⟨⟨rfl, rfl⟩, hsx⟩ := hall
      by_cases q : r2 = []
      · subst q
        obtain ⟨rfl, rfl⟩ : L = [] ∧ C = 0 := by
          have := HR2.out
          rw [bodyD, if_pos rfl] at this
          simpa using this
        clear HR2 hsx HLEN
        have HBD := Aside0.mk HB1.out
        go_wp2_with fail
        go_loopg [8, 11] 1 (fun kq v8 v11 wx => v8 = .string ⟨#[]⟩ ∧ v11 = .slice none 0 0 ∧ Aside0 (wx = w2))
        case atStart => exact ⟨rfl, rfl, Aside0.mk rfl⟩
        case round =>
          obtain ⟨rfl, rfl, HWW⟩ := hrel
          go_wp2_with fail
          go_ret2
          rw [HWW.out]
          exact ⟨_, rfl, World.ownsRow_nil _ _ _ _, HBD.out⟩
      · have hsx' : Lib.hasSuffix r2 [10] = true := hsx.resolve_left (by simpa using q)
        have HSX := Aside0.mk hsx'
        have hq1 : (r2 == []) = false := beq_eq_false_iff_ne.2 q
        clear q hsx hsx'
        go_wp2_with fail
        refine (Tryd.strings_HasSuffix ⟨r2.toArray⟩ ⟨#[10]⟩ _ (show (ByteArray.mk r2.toArray).size ≤ 9223372036854775807 from by show r2.length ≤ _; omega)).mono ?_
        rintro e w2 ⟨rfl, rfl⟩
        simp only [List.toList_toArray]
        rw [HSX.out]
        clear HSX hq1
        have HI0 := Aside0.mk (show RI w names (.slice none 0 0) [] w2 from ⟨HM1.out, HB1.out, World.ownsRow_nil _ _ _ _⟩)
        go_wp2_with fail
        go_loopg [8, 11] (s.length + 1) (fun kq v8 v11 w2 => ∃ (rest : List UInt8) (acc : List Ed), rest.length < kq ∧ kq ≤ s.length + 1 ∧ v8 = .string ⟨rest.toArray⟩ ∧ Aside0 (RI w names v11 acc w2) ∧ Aside0 (acc.length ≤ 262144 ∧ (L, C) = match bodyD names kq rest acc with
          | none => (([] : List Ed), (230 : Int))
          | some l => (l, 0)))
        case atStart => exact ⟨r2, [], HLEN.out, Nat.le_refl _, rfl, HI0, Aside0.mk ⟨by simp, HR2.out⟩⟩
        case round =>
          clear HI0 HR2 HLEN
          obtain ⟨rest, acc, hf, hks, rfl, HI, HV⟩ := hrel
          cases gk with
          | zero => omega
          | succ k1 =>
            rw [bodyD] at HV
            obtain ⟨A1, c1, rfl⟩ := own_slice HI.out.own
            by_cases q : rest = []
            · subst q
              obtain ⟨rfl, rfl⟩ : L = acc ∧ C = 0 := by
                have := HV.out.2
                rw [if_pos rfl] at this
                simpa using this
              go_wp2_with fail
              go_ret2
              exact ⟨_, rfl, own_base_le HI.out.own (by omega), HI.out.bel⟩
            · have hq1 : (rest == []) = false := beq_eq_false_iff_ne.2 q
              rw [if_neg q] at HV
              have HCM := Aside0.mk (cut_snd_lt rest q)
              clear q
              obtain ⟨m, hml⟩ := (HW.out.below HI.out.bel).ml
              have HML := Aside0.mk hml
              clear hml
              have hcl := cut_len rest [10]
              go_wp2_with fail
              refine (Tryd.strings_Cut ⟨rest.toArray⟩ ⟨#[10]⟩ m _ (show (ByteArray.mk rest.toArray).size < 4294967281 from by show rest.length < _; omega) HML.out).mono ?_
              rintro e w3 ⟨rfl, n3, rfl⟩
              simp only [List.toList_toArray]
              obtain ⟨⟨x1, x2, x3⟩, hc⟩ : ∃ c, c = Lib.cut rest [10] := ⟨_, rfl⟩
              rw [← hc] at HV HCM hcl ⊢
              clear hc HML
              simp only at HV HCM hcl ⊢
              have HI3 := Aside0.mk (show RI w names (.slice A1 acc.length c1) acc (wr.drewN n3) from ⟨HI.out.is.drewN n3, pw_below_drewN HI.out.bel n3, own_move HI.out.own (fun k hk => rfl)⟩)
              clear HI
              go_wp2_with fail
              refine (edge_calls names x1 w.heap.size _ HI3.out.is HND.out (by omega) (HW.out.below HI3.out.bel)).mono ?_
              rintro e w4 ⟨hb4, he4⟩
              obtain ⟨d, o, rfl, hd4⟩ := he4.get
              rw [hd4] at HV
              have HI4 := Aside0.mk (show RI w names (.slice A1 acc.length c1) acc w4 from ⟨HI3.out.is.same (hb4.block _ HI3.out.is.lt), HI3.out.bel.trans (hb4.mono HI3.out.bel.size), own_move HI3.out.own (fun k hk => hb4.block k (own_lt HI3.out.own k hk))⟩)
              clear hb4 he4 hd4 HI3
              have hlt4 : w.heap.size < w4.heap.size := HI4.out.is.lt
              cases o with
              | false =>
                have HV2 := Aside0.mk (HBAD.out · HV.out.2 ·)
                clear HV
                unfold edV
                go_wp2_with fail
                go_ret2
                exact HV2.out _ (HI4.out.bel.alloc (Nat.le_of_lt hlt4) _)
              | true =>
                rw [if_pos rfl] at HV
                by_cases q2 : acc.length = 262144
                · have HV2 := Aside0.mk (HBAD.out · (by have := HV.out.2; simp only [if_pos q2] at this; exact this) ·)
                  have hq2 : ((acc.length : Int) == 262144) = true := by simp; omega
                  clear HV q2
                  unfold edV
                  go_wp2_with fail
                  go_ret2
                  exact HV2.out _ (HI4.out.bel.alloc (Nat.le_of_lt hlt4) _)
                · have HV2 := Aside0.mk (show (L, C) = match bodyD names k1 x2 (acc ++ [d]) with
                    | none => (([] : List Ed), (230 : Int))
                    | some l => (l, 0) by have := HV.out.2; simp only [if_neg q2] at this; exact this)
                  have hq2 : ((acc.length : Int) == 262144) = false := by simp; omega
                  have ha : acc.length < 262144 := by have := HV.out.1; omega
                  clear HV q2
                  have hz4 : w.heap.size + 1 ≤ w4.heap.size := hlt4
                  obtain ⟨i0, hi, hz0, hz1, hz2⟩ := info_parts infoEd
                  unfold edV
                  go_wp2_with (at_builtin; refine wpList_append_own _ rfl (.tmp 69) (.tmp 71) 23 rfl (w.heap.size + 1) 34 i0 (.agg #[.int .i64 0, .int .i64 0, .int .i64 0, .int .i64 0]) 4 32 Tryd.underlying23 hi hz0 hz1 hz2 rfl (by decide) (.slice A1 acc.length c1) acc.length (edCs acc) rfl ((HI4.out.own.alloc _).alloc _) ⟨w4.heap.size + 1, 0, none⟩ 1 1 [.int .i64 d.f, .int .i64 d.t, .int .i64 d.k, .int .i64 d.y] rfl rfl ?c1 (by simp [Value.oneCell']) (by simp only [maxLen]; omega) (by omega) (by simp; omega) ?_)
                  case c1 =>
                    intro j u hu
                    have e : (⟨w4.heap.size + 1, 0, none⟩ : Addr).add j = ⟨w4.heap.size + 1, j, none⟩ := by
                      simp [Addr.add]
                      try omega
                    rw [e]
                    have hnew := blk_new (w4.alloc (.cells #[.int .i64 d.f, .int .i64 d.t, .int .i64 d.k, .int .i64 d.y] 34)) (.cells #[.int .i64 d.f, .int .i64 d.t, .int .i64 d.k, .int .i64 d.y] 34)
                    rw [show (w4.alloc (.cells #[.int .i64 d.f, .int .i64 d.t, .int .i64 d.k, .int .i64 d.y] 34)).heap.size = w4.heap.size + 1 by simp] at hnew
                    rw [blk_cell hnew j]
                    simpa using hu
                  intro v' w5 hown' hgrow _
                  rw [edCs_snoc] at hown'
                  have HI5 := Aside0.mk (show RI w names v' (acc ++ [d]) w5 from ⟨by
                    refine ((HI4.out.is.alloc _).alloc _).same (hgrow.block _ (by simp; omega) (own_ne HI4.out.own (by omega))), ((HI4.out.bel.alloc (by omega) _).alloc (by simp; omega) _).grown hgrow (by simp; omega) (fun k hk => by have := (HI4.out.own.lt k hk).1; omega), by rw [List.length_append]; exact hown'⟩)
                  clear hown' hgrow HI4
                  go_wp2
                  go_roundg k1
                  case measure => omega
                  case rel => exact ⟨x2, acc ++ [d], by have := HCM.out; omega, by omega, rfl, HI5, Aside0.mk ⟨by rw [List.length_append]; simp; omega, HV2.out⟩⟩
    · rw [if_neg hall] at HR
      have hbad := bad3 _ _ _ _ hall
      clear hall
      rcases hbad with rfl | ⟨rfl, rfl⟩ | ⟨rfl, rfl, hq1, hq2⟩
      · go_wp2_with fail
        go_ret2
        exact HBAD.out _ HR.out HB1.out
      · go_wp2_with fail
        go_ret2
        exact HBAD.out _ HR.out HB1.out
      · have hq3 : (r2 != []) = true := by rw [bne, hq1]; rfl
        have HQ2 := Aside0.mk hq2
        clear hq2
        go_wp2_with fail
        refine (Tryd.strings_HasSuffix ⟨r2.toArray⟩ ⟨#[10]⟩ _ (show (ByteArray.mk r2.toArray).size ≤ 9223372036854775807 from by show r2.length ≤ _; omega)).mono ?_
        rintro e w2 ⟨rfl, rfl⟩
        simp only [List.toList_toArray]
        rw [HQ2.out]
        go_wp2_with fail
        go_ret2
        exact HBAD.out _ HR.out HB1.out
  · rw [if_neg q0] at HR
    have hq : (wrongR names == 0) = false := beq_eq_false_iff_ne.2 q0
    obtain ⟨rfl, rfl⟩ : L = [] ∧ C = wrongR names := by have := HR.out; simpa using this
    clear q0
    go_wp2_with fail
    go_ret2
    exact ⟨_, rfl, World.ownsRow_nil _ _ _ _, HB1.out⟩
end Go.Proofs.YtohlbnbfpcbpdaaDoor.Dt
