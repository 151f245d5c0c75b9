/- dot: Print: the walk. -/
import Derived.Test.YtohlbnbfpcbpdaaDoorDtW
import Derived.Test.YtohlbnbfpcbpdaaDoorDtP
set_option linter.unusedVariables false
set_option linter.unusedSimpArgs false
namespace Go.Proofs.YtohlbnbfpcbpdaaDoor.Dt
open Go.RowKit Go.Proofs.YtohlbnbfpcbpdaaDoorW.PrintWords Go.Proofs.YtohlbnbfpcbpdaaDoorW.PrintLast Go.Proofs.YtohlbnbfpcbpdaaDoorW.PrintMore
open Go.Proofs.YtohlbnbfpcbpdaaDoor.Lx

def i64R (n : Int) : Prop := -9223372036854775808 ≤ n ∧ n ≤ 9223372036854775807
def Ed.ok (e : Ed) : Prop := i64R e.f ∧ i64R e.t ∧ i64R e.k ∧ i64R e.y
theorem nodeD_iff (n : Int) : nodeD n = true ↔ 0 ≤ n ∧ n < 64 := by unfold nodeD; simp
theorem cellB' {W W' : World} {v0 v1 v2 v3 : Value} {t : TypeId} (h : Below (W.heap.size + 1) (W.alloc (.cells #[v0, v1, v2, v3] t)) W') {j : Nat} {u : Value} (hj : (#[v0, v1, v2, v3] : Array Value)[j]? = some u) : W'.cell? ⟨W.heap.size, j, none⟩ = some u := by
  have hb := (h.block W.heap.size (by omega)).trans (blk_new W (.cells #[v0, v1, v2, v3] t))
  rw [blk_cell hb j, hj]
theorem quoteR_len {t : List UInt8} (h : t.length ≤ 35) : (quoteR t).length ≤ 212 := by
  have := quote_len t
  unfold quoteR
  simp only [List.length_cons, List.length_append, List.length_nil]
  omega
/-- A row of edges that is read. -/
def ERow (w : World) (A : Option Addr) (l : List Ed) : Prop := ∀ i (hi : i < l.length), ∃ ad, A = some ad ∧ (ad.add (i * 4)).block < w.heap.size ∧ w.cell? (ad.add (i * 4)) = some (.int .i64 l[i].f) ∧
  w.cell? ⟨(ad.add (i * 4)).block, (ad.add (i * 4)).off + 1, none⟩ = some (.int .i64 l[i].t) ∧ w.cell? ⟨(ad.add (i * 4)).block, (ad.add (i * 4)).off + 2, none⟩ = some (.int .i64 l[i].k) ∧
  w.cell? ⟨(ad.add (i * 4)).block, (ad.add (i * 4)).off + 3, none⟩ = some (.int .i64 l[i].y)
theorem ERow.below {w w' : World} {A : Option Addr} {l : List Ed} (h : ERow w A l) (hb : Below w.heap.size w w') : ERow w' A l := fun i hi => by
  obtain ⟨ad, h0, h1, h2, h3, h4, h5⟩ := h i hi
  exact ⟨ad, h0, Nat.lt_of_lt_of_le h1 hb.size, cellB hb h2, cellB hb h3, cellB hb h4, cellB hb h5⟩
/-- What is known in the loop of Print. -/
structure PI (w0 : World) (b : Nat) (v : Value) (acc : List UInt8) (w : World) : Prop where
  bel : Below w0.heap.size w0 w
  at' : BAt (b + 1) b v (Lib.byteCells acc) w
  sz : b + 1 ≤ w.heap.size
  lo : w0.heap.size ≤ b
set_option maxRecDepth 100000 in
set_option maxHeartbeats 4000000 in
theorem Print_calls (names : List (List UInt8)) (l : List Ed) (A B : Option Addr) (c cB : Nat) (w : World) (hr : NRow w A names) (hrl : ERow w B l) (hok : ∀ e ∈ l, e.ok) (hl : names.length ≤ 1000000000000) (hll : l.length ≤ 1000000000000) (hn : ∀ n ∈ names, n.length ≤ 1000000000000) (hw : DW w) :
    Calls Tryd.prog 9 #[.slice A names.length c, .slice B l.length cB] w fun e w' => e = .returned (.tuple #[.string ⟨(printR names l).1.toArray⟩, .int .i64 (printR names l).2]) ∧ Below w.heap.size w w' := by
  have HW := Aside0.mk hw
  have HB0 := book_calls names A c w hr hl hn
  have HB := Aside0.mk HB0
  have HN := Aside0.mk hr
  have HE := Aside0.mk hrl
  have HOK := Aside0.mk hok
  clear hw HB0 hr hrl hok
  obtain ⟨L, hL⟩ : ∃ L, L = (printR names l).1 := ⟨_, rfl⟩
  obtain ⟨C, hC⟩ : ∃ L, L = (printR names l).2 := ⟨_, rfl⟩
  rw [← hL, ← hC]
  have HR := Aside0.mk (show (L, C) = printR names l by rw [hL, hC])
  clear hL hC
  unfold printR at HR
  go_enter Tryd.func9, Tryd.ntmps9
  go_wp2_with fail
  refine HB.out.mono ?_
  rintro e w1 ⟨rfl, hm1, hb1⟩
  have HB1 := Aside0.mk hb1
  have hsz1 : w.heap.size ≤ w1.heap.size := hb1.size
  clear hm1 hb1
  by_cases q0 : wrongR names = 0
  · obtain ⟨hnd, hn32⟩ := wrongR_zero q0
    have H32 := Aside0.mk hn32
    clear hn32 hnd
    rw [if_pos q0] at HR
    rw [q0]
    clear q0
    by_cases q1 : 262144 < l.length
    · rw [if_pos q1] at HR
      obtain ⟨rfl, rfl⟩ : L = [] ∧ C = 1 := by have := HR.out; simpa using this
      have hq : (262144 : Int) < (l.length : Int) := by omega
      go_wp2_with fail
      go_ret2
      exact ⟨rfl, HB1.out⟩
    · rw [if_neg q1] at HR
      have hq : ¬ (262144 : Int) < (l.length : Int) := by omega
      have hl2 : l.length ≤ 262144 := by omega
      clear q1 hll
      go_wp2_with fail
      refine (Write_calls (w1.heap.size + 1) w1.heap.size (.slice none 0 0) (Lib.byteCells []) ⟨#[100, 105, 103, 114, 97, 112, 104, 32, 104, 105, 115, 116, 111, 114, 121, 32, 123, 10]⟩ _ (BAt.new w1) (by simp [Lib.byteCells, ByteArray.size]) (by simp)).mono ?_
      rintro e w2 ⟨rfl, v2, hb2, hk2⟩
      have HI2 := Aside0.mk (show PI w w1.heap.size v2 hd w2 from ⟨HB1.out.trans (((Below.refl _ _).alloc (Nat.le_refl _) _).trans hk2.1 |>.mono hsz1), by simpa [Lib.byteCells, Lib.strCells, hd] using hb2, by have := hk2.1.size; simpa using this, hsz1⟩)
      clear hb2 hk2
      go_wp2_with fail
      go_loopg [27] l.length (fun kq v27 w2 => ∃ (i : Nat) (acc : List UInt8) (v : Value), i + kq = l.length ∧ v27 = .int .i64 i ∧ Aside0 (PI w w1.heap.size v acc w2) ∧ Aside0 (acc.length ≤ 18 + 300 * i ∧ (L, C) = match linesR names (l.drop i) with
        | none => (([] : List UInt8), (1 : Int))
        | some o => (acc ++ o ++ tl, 0)))
      case atStart => exact ⟨0, hd, v2, by omega, rfl, HI2, Aside0.mk ⟨by decide, HR.out⟩⟩
      case round =>
        clear HI2 HR
        obtain ⟨i, acc, v, hi, rfl, HI, HV⟩ := hrel
        cases gk with
        | zero =>
          have hge : ¬ ((i : Nat) : Int) < (l.length : Int) := by omega
          have HV2 := Aside0.mk (show (L, C) = (acc ++ tl, 0) by
            have := HV.out.2
            rw [List.drop_eq_nil_of_le (by omega)] at this
            simpa [linesR] using this)
          have HLA := Aside0.mk (show (Lib.byteCells acc).length ≤ 100000000000 by have := HV.out.1; rw [Lib.byteCells_length]; omega)
          clear HV
          go_wp2_with fail
          refine (Write_calls (w1.heap.size + 1) w1.heap.size v (Lib.byteCells acc) ⟨#[125, 10]⟩ _ HI.out.at' (by have := HLA.out; simp [ByteArray.size]; omega) HI.out.sz).mono ?_
          rintro e w3 ⟨rfl, v3, hb3, hk3⟩
          have HI3 := Aside0.mk (show PI w w1.heap.size v3 (acc ++ tl) w3 from ⟨HI.out.bel.trans (hk3.1.mono hsz1), by simpa [Lib.byteCells, Lib.strCells, tl] using hb3, Nat.le_trans HI.out.sz (by have := hk3.1.size; omega), hsz1⟩)
          clear hb3 hk3 HI
          go_wp2_with fail
          refine (Tryd.Builder_String_any w1.heap.size w1.heap.size _ _ HI3.out.at'.is (by have := HI3.out.sz; omega)).mono ?_
          rintro e w4 ⟨rfl, hb4⟩
          have HB4 := Aside0.mk (HI3.out.bel.trans (hb4.mono hsz1))
          obtain ⟨rfl, rfl⟩ : L = acc ++ tl ∧ C = 0 := by have := HV2.out; simpa using this
          clear hb4
          go_wp2
          go_ret2
          exact ⟨rfl, HB4.out⟩
        | succ k1 =>
          have hlt : i < l.length := by omega
          have hltz : ((i : Nat) : Int) < (l.length : Int) := by omega
          obtain ⟨ad, rfl, hblk, r0, r1, r2, r3⟩ := HE.out.below HI.out.bel i hlt
          have hne : (ad.add (i * 4)).block ≠ wr.heap.size := by omega
          have hd : l.drop i = l[i] :: l.drop (i + 1) := List.drop_eq_getElem_cons hlt
          have hok := HOK.out l[i] (List.getElem_mem hlt)
          rw [hd, linesR] at HV
          clear hd
          generalize l[i] = x at *
          obtain ⟨f, t, k, y⟩ := x
          obtain ⟨hf, ht, hk, hy⟩ := hok
          unfold i64R at hf ht hk hy
          simp only at hf ht hk hy r0 r1 r2 r3
          have hszr : w1.heap.size + 1 ≤ wr.heap.size := HI.out.sz
          have BAD : lineR names ⟨f, t, k, y⟩ = none → L = [] ∧ C = 1 := fun h => by
            have := HV.out.2
            rw [h] at this
            simpa using this
          have HBAD := Aside0.mk BAD
          clear BAD
          have HBOX := Aside0.mk (HI.out.bel.alloc (by omega) (.cells #[.int .i64 f, .int .i64 t, .int .i64 k, .int .i64 y] 34))
          go_wp2_with fail
          refine (bit_calls k hk _).mono ?_
          rintro e w3 ⟨rfl, rfl⟩
          cases hb : bitOf k with
          | none =>
            obtain ⟨rfl, rfl⟩ := HBAD.out (by unfold lineR; rw [hb])
            have hbi : bitI k = -1 := by unfold bitI; rw [hb]
            rw [hbi]
            clear hb hbi HV
            go_wp2_with fail
            go_ret2
            exact ⟨rfl, HBOX.out⟩
          | some b =>
            have hb5 : b < 5 := (bitOf_some hb).2
            have hbi : bitI k = b := by unfold bitI; rw [hb]
            have HBB := Aside0.mk hb
            rw [hbi]
            clear hb hbi
            have hb0 : ¬ ((b : Nat) : Int) < 0 := by omega
            by_cases hfair : fairE names ⟨f, t, k, y⟩
            · have HF := Aside0.mk hfair
              obtain ⟨f1, f2, t1, t2, y1, y2⟩ := hfair
              simp only at f1 f2 t1 t2 y1 y2
              have hnf := (nodeD_iff f).2 ⟨f1, f2⟩
              have hnt := (nodeD_iff t).2 ⟨t1, t2⟩
              have HLX := Aside0.mk (lineR_of (names := names) (e := ⟨f, t, k, y⟩) HBB.out HF.out)
              have hy1 : ¬ y < -1 := by omega
              have hy2 : ¬ (names.length : Int) ≤ y := by omega
              go_wp2_with fail
              refine (node_calls f hf _).mono ?_
              rintro e w3 ⟨rfl, rfl⟩
              rw [hnf]
              clear hnf
              go_wp2_with fail
              refine (node_calls t ht _).mono ?_
              rintro e w3 ⟨rfl, rfl⟩
              rw [hnt]
              clear hnt
              go_wp2_with fail
              refine (word_calls b hb5 _).mono ?_
              rintro e w3 ⟨rfl, rfl⟩
              rcases (show y = -1 ∨ 0 ≤ y by omega) with rfl | hy0
              · have hlab : labR names b (-1) = kw b := by unfold labR; rw [if_neg (by decide), List.append_nil]
                rw [← hlab]
                clear hlab
                go_wp2_with fail
                have HAT := Aside0.mk (show ∀ W', Below (wr.heap.size + 1) (wr.alloc (.cells #[.int .i64 f, .int .i64 t, .int .i64 k, .int .i64 (-1)] 34)) W' → ∃ v3, BAt (w1.heap.size + 1) w1.heap.size v3 (Lib.byteCells acc) W' ∧ w1.heap.size + 1 ≤ W'.heap.size ∧ Below w.heap.size w W' from fun W' h =>
                  ⟨v, HI.out.at'.move (fun k' hk' _ => (h.block k' (by omega)).trans (Below.heap_alloc _ _ k' hk')), Nat.le_trans hszr (Nat.le_trans (by simp) h.size), HBOX.out.trans (h.mono (by omega))⟩)
                have HLL := Aside0.mk (labR_len H32.out hb5 (-1))
                have HDW := Aside0.mk (HW.out)
                have hlq := quoteR_len HLL.out
                have hl1 := Lib.itoa_length_le f (by omega) (by omega)
                have hl2 := Lib.itoa_length_le t (by omega) (by omega)
                refine start_ (n := 15) (S := (fun w' => Below (wr.heap.size + 1) (wr.alloc (.cells #[.int .i64 f, .int .i64 t, .int .i64 k, .int .i64 (-1)] 34)) w')) (ds := [14]) #[false, false, false, false, false, false, false, false, false, false, false, false, false, false, false] (by kernel_rfl) rfl rfl (by first | exact (Below.refl _ _).drew | exact Below.refl _ _) (fun hHeld => ?_)
                refine pure_ (i := 0) (N := some 73) (v := ?_) (a' := ?_) #[true, false, false, false, false, false, false, false, false, false, false, false, false, false, false] rfl rfl (by kernel_rfl) (fun _ _ _ h => h) (Or.inl ⟨by rfl, ?_⟩) ?_ ?_
                rotate_left
                · intro w'
                  go_simp
                  with_reducible rfl
                rotate_left
                · simp only [Act.put, List.setIfInBounds_toArray, List.set_cons_zero, List.set_cons_succ, i64_w, i32_w]
                  rfl
                refine take_ (i := 1) (N := some 74) (v := ?_) (a' := ?_) #[true, true, false, false, false, false, false, false, false, false, false, false, false, false, false] rfl rfl (by kernel_rfl) (fun _ _ _ h => h) (Or.inl ⟨by rfl, ?_⟩) hHeld ?_ ?_
                rotate_left
                · rintro w' sb
                  have c0 := cellB' sb (j := 0) (by rfl)
                  have c1 := cellB' sb (j := 1) (by rfl)
                  go_simp
                  with_reducible rfl
                rotate_left
                · simp only [Act.put, List.setIfInBounds_toArray, List.set_cons_zero, List.set_cons_succ, i64_w, i32_w]
                  rfl
                refine pure_ (i := 5) (N := some 78) (v := ?_) (a' := ?_) #[true, true, false, false, false, true, false, false, false, false, false, false, false, false, false] rfl rfl (by kernel_rfl) (fun _ _ _ h => h) (Or.inl ⟨by rfl, ?_⟩) ?_ ?_
                rotate_left
                · intro w'
                  go_simp
                  with_reducible rfl
                rotate_left
                · simp only [Act.put, List.setIfInBounds_toArray, List.set_cons_zero, List.set_cons_succ, i64_w, i32_w]
                  rfl
                refine take_ (i := 6) (N := some 79) (v := ?_) (a' := ?_) #[true, true, false, false, false, true, true, false, false, false, false, false, false, false, false] rfl rfl (by kernel_rfl) (fun _ _ _ h => h) (Or.inl ⟨by rfl, ?_⟩) hHeld ?_ ?_
                rotate_left
                · rintro w' sb
                  have c0 := cellB' sb (j := 0) (by rfl)
                  have c1 := cellB' sb (j := 1) (by rfl)
                  go_simp
                  with_reducible rfl
                rotate_left
                · simp only [Act.put, List.setIfInBounds_toArray, List.set_cons_zero, List.set_cons_succ, i64_w, i32_w]
                  rfl
                refine pure_ (i := 10) (N := some 83) (v := ?_) (a' := ?_) #[true, true, false, false, false, true, true, false, false, false, true, false, false, false, false] rfl rfl (by kernel_rfl) (fun _ _ _ h => h) (Or.inl ⟨by rfl, ?_⟩) ?_ ?_
                rotate_left
                · intro w'
                  go_simp
                  with_reducible rfl
                rotate_left
                · simp only [Act.put, List.setIfInBounds_toArray, List.set_cons_zero, List.set_cons_succ, i64_w, i32_w]
                  rfl
                refine one_ (i := 2) (N := some 75) #[true, true, true, false, false, true, true, false, false, false, true, false, false, false, false] rfl rfl (by kernel_rfl) (by decide) (fun K hK => ?_)
                have hS' : (fun w' => Below (wr.heap.size + 1) (wr.alloc (.cells #[.int .i64 f, .int .i64 t, .int .i64 k, .int .i64 (-1)] 34)) w') _ := hHeld
                refine goes_ Tryd.func20 (by kernel_rfl) rfl #[.int .i64 f] (by rfl) rfl rfl (by simp only [List.map_toArray, List.map_cons, List.map_nil]; rfl) ?_
                refine (Tryd.strconv_Itoa f (by omega) (by omega) _ (p10_below HDW.out.lw.p10 (HBOX.out.trans (hS'.mono (by omega))))).mono ?_
                rintro e w4 ⟨rfl, k4, os4, rfl⟩
                refine ⟨_, rfl, ?_⟩
                refine hK.out _ _ (hS'.trans (Lib.below_grow _ _ (Nat.le_trans (by simp) hS'.size) _ _)) (fun hHeld => ?_)
                clear hK K hS'
                refine norm_ (a' := ?_) ?_ ?_
                rotate_left
                · show Act.put _ (some 75) _ = _
                  simp only [Act.put, List.setIfInBounds_toArray, List.set_cons_zero, List.set_cons_succ, i64_w, i32_w]
                  rfl
                refine pure_ (i := 3) (N := some 76) (v := ?_) (a' := ?_) #[true, true, true, true, false, true, true, false, false, false, true, false, false, false, false] rfl rfl (by kernel_rfl) (fun _ _ _ h => h) (Or.inl ⟨by rfl, ?_⟩) ?_ ?_
                rotate_left
                · intro w'
                  go_simp
                  rw [if_neg (by omega)]
                rotate_left
                · simp only [Act.put, List.setIfInBounds_toArray, List.set_cons_zero, List.set_cons_succ, i64_w, i32_w]
                  rfl
                refine pure_ (i := 4) (N := some 77) (v := ?_) (a' := ?_) #[true, true, true, true, true, true, true, false, false, false, true, false, false, false, false] rfl rfl (by kernel_rfl) (fun _ _ _ h => h) (Or.inl ⟨by rfl, ?_⟩) ?_ ?_
                rotate_left
                · intro w'
                  go_simp
                  rw [if_neg (by omega)]
                rotate_left
                · simp only [Act.put, List.setIfInBounds_toArray, List.set_cons_zero, List.set_cons_succ, i64_w, i32_w]
                  rfl
                refine one_ (i := 7) (N := some 80) #[true, true, true, true, true, true, true, true, false, false, true, false, false, false, false] rfl rfl (by kernel_rfl) (by decide) (fun K hK => ?_)
                have hS' : (fun w' => Below (wr.heap.size + 1) (wr.alloc (.cells #[.int .i64 f, .int .i64 t, .int .i64 k, .int .i64 (-1)] 34)) w') _ := hHeld
                refine goes_ Tryd.func20 (by kernel_rfl) rfl #[.int .i64 t] (by rfl) rfl rfl (by simp only [List.map_toArray, List.map_cons, List.map_nil]; rfl) ?_
                refine (Tryd.strconv_Itoa t (by omega) (by omega) _ (p10_below HDW.out.lw.p10 (HBOX.out.trans (hS'.mono (by omega))))).mono ?_
                rintro e w4 ⟨rfl, k4, os4, rfl⟩
                refine ⟨_, rfl, ?_⟩
                refine hK.out _ _ (hS'.trans (Lib.below_grow _ _ (Nat.le_trans (by simp) hS'.size) _ _)) (fun hHeld => ?_)
                clear hK K hS'
                refine norm_ (a' := ?_) ?_ ?_
                rotate_left
                · show Act.put _ (some 80) _ = _
                  simp only [Act.put, List.setIfInBounds_toArray, List.set_cons_zero, List.set_cons_succ, i64_w, i32_w]
                  rfl
                refine pure_ (i := 8) (N := some 81) (v := ?_) (a' := ?_) #[true, true, true, true, true, true, true, true, true, false, true, false, false, false, false] rfl rfl (by kernel_rfl) (fun _ _ _ h => h) (Or.inl ⟨by rfl, ?_⟩) ?_ ?_
                rotate_left
                · intro w'
                  go_simp
                  rw [if_neg (by omega)]
                rotate_left
                · simp only [Act.put, List.setIfInBounds_toArray, List.set_cons_zero, List.set_cons_succ, i64_w, i32_w]
                  rfl
                refine pure_ (i := 9) (N := some 82) (v := ?_) (a' := ?_) #[true, true, true, true, true, true, true, true, true, true, true, false, false, false, false] rfl rfl (by kernel_rfl) (fun _ _ _ h => h) (Or.inl ⟨by rfl, ?_⟩) ?_ ?_
                rotate_left
                · intro w'
                  go_simp
                  rw [if_neg (by omega)]
                rotate_left
                · simp only [Act.put, List.setIfInBounds_toArray, List.set_cons_zero, List.set_cons_succ, i64_w, i32_w]
                  rfl
                refine one_ (i := 11) (N := some 84) #[true, true, true, true, true, true, true, true, true, true, true, true, false, false, false] rfl rfl (by kernel_rfl) (by decide) (fun K hK => ?_)
                have hS' : (fun w' => Below (wr.heap.size + 1) (wr.alloc (.cells #[.int .i64 f, .int .i64 t, .int .i64 k, .int .i64 (-1)] 34)) w') _ := hHeld
                refine goes_ Tryd.func21 (by kernel_rfl) rfl #[.string ⟨(labR names b (-1)).toArray⟩] (by rfl) rfl rfl (by simp only [List.map_toArray, List.map_cons, List.map_nil]; rfl) ?_
                refine (Quote_calls (labR names b (-1)) _ (by have := HLL.out; omega) (fun w9 h9 => (HDW.out.below (HBOX.out.trans ((hS'.trans (h9.mono (Nat.le_trans (by simp) hS'.size))).mono (by omega)))).lw.deb)).mono ?_
                rintro e w4 ⟨rfl, hb4⟩
                refine ⟨_, rfl, ?_⟩
                refine hK.out _ _ (hS'.trans (hb4.mono (Nat.le_trans (by simp) hS'.size))) (fun hHeld => ?_)
                clear hK K hS' hb4
                refine norm_ (a' := ?_) ?_ ?_
                rotate_left
                · show Act.put _ (some 84) _ = _
                  simp only [Act.put, List.setIfInBounds_toArray, List.set_cons_zero, List.set_cons_succ, i64_w, i32_w]
                  rfl
                refine pure_ (i := 12) (N := some 85) (v := ?_) (a' := ?_) #[true, true, true, true, true, true, true, true, true, true, true, true, true, false, false] rfl rfl (by kernel_rfl) (fun _ _ _ h => h) (Or.inl ⟨by rfl, ?_⟩) ?_ ?_
                rotate_left
                · intro w'
                  go_simp
                  rw [if_neg (by omega)]
                rotate_left
                · simp only [Act.put, List.setIfInBounds_toArray, List.set_cons_zero, List.set_cons_succ, i64_w, i32_w]
                  rfl
                refine pure_ (i := 13) (N := some 86) (v := ?_) (a' := ?_) #[true, true, true, true, true, true, true, true, true, true, true, true, true, true, false] rfl rfl (by kernel_rfl) (fun _ _ _ h => h) (Or.inl ⟨by rfl, ?_⟩) ?_ ?_
                rotate_left
                · intro w'
                  go_simp
                  rw [if_neg (by omega)]
                rotate_left
                · simp only [Act.put, List.setIfInBounds_toArray, List.set_cons_zero, List.set_cons_succ, i64_w, i32_w]
                  rfl
                have hS3 : (fun w' => Below (wr.heap.size + 1) (wr.alloc (.cells #[.int .i64 f, .int .i64 t, .int .i64 k, .int .i64 (-1)] 34)) w') _ := hHeld
                refine last_ (i := 14) (N := some 87) #[true, true, true, true, true, true, true, true, true, true, true, true, true, true, true] rfl rfl (by kernel_rfl) (by decide) (fun K hK => ?_)
                obtain ⟨v3, hat3, hsz3, hbel3⟩ := HAT.out _ hS3
                clear hS3 hHeld
                refine goes_ Tryd.func16 (by kernel_rfl) rfl #[.pointer (some ⟨w1.heap.size, 0, none⟩), .string ((((((({ data := #[32, 32, 116] } ++ { data := (Lib.itoa f).toArray } : ByteArray) ++ { data := #[32, 45, 62, 32, 116] } : ByteArray) ++ { data := (Lib.itoa t).toArray } : ByteArray) ++ { data := #[32, 91, 108, 97, 98, 101, 108, 61] } : ByteArray) ++ { data := (quoteR (labR names b (-1))).toArray } : ByteArray) ++ { data := #[93, 59, 10] } : ByteArray))] (by rfl) rfl rfl (by simp only [List.map_toArray, List.map_cons, List.map_nil]; rfl) ?_
                refine (Write_calls (w1.heap.size + 1) w1.heap.size v3 (Lib.byteCells acc) _ _ hat3 (by rw [Lib.byteCells_length]; have := HV.out.1; simp [ByteArray.size]; omega) hsz3).mono ?_
                rintro e w5 ⟨rfl, v5, hb5, hk5⟩
                have HI5 := Aside0.mk (show PI w w1.heap.size v5 (acc ++ (lineX names ⟨f, t, k, (-1)⟩ b ++ [10])) w5 from ⟨hbel3.trans (hk5.1.mono hsz1), by
                  have e : Lib.byteCells (acc ++ (lineX names ⟨f, t, k, (-1)⟩ b ++ [10])) = Lib.byteCells acc ++ Lib.strCells ((((((({ data := #[32, 32, 116] } ++ { data := (Lib.itoa f).toArray } : ByteArray) ++ { data := #[32, 45, 62, 32, 116] } : ByteArray) ++ { data := (Lib.itoa t).toArray } : ByteArray) ++ { data := #[32, 91, 108, 97, 98, 101, 108, 61] } : ByteArray) ++ { data := (quoteR (labR names b (-1))).toArray } : ByteArray) ++ { data := #[93, 59, 10] } : ByteArray)) := by
                    rw [Lib.strCells_eq, Lib.byteCells_append]
                    simp [ByteArray.data_append, lineX, p1, p2, p3, p4]
                  rw [e]
                  exact hb5, Nat.le_trans hsz3 (by have := hk5.1.size; omega), hsz1⟩)
                have HV5 := Aside0.mk (show (acc ++ (lineX names ⟨f, t, k, (-1)⟩ b ++ [10])).length ≤ 18 + 300 * (i + 1) ∧ (L, C) = match linesR names (l.drop (i + 1)) with
                  | none => (([] : List UInt8), (1 : Int))
                  | some o => (acc ++ (lineX names ⟨f, t, k, (-1)⟩ b ++ [10]) ++ o ++ tl, 0) by
                  refine ⟨?_, ?_⟩
                  · have := HV.out.1
                    unfold lineX p1 p2 p3 p4
                    simp only [List.length_append, List.length_cons, List.length_nil]
                    omega
                  · have := HV.out.2
                    rw [HLX.out] at this
                    simp only at this
                    rw [this]
                    cases linesR names (l.drop (i + 1)) with
                    | none => rfl
                    | some o => simp)
                clear hb5 hk5 hat3 hbel3
                refine ⟨_, rfl, ?_⟩
                refine hK.out _ _ ?_
                clear hK K
                refine done_ (by kernel_rfl) ?_
                generalize acc ++ (lineX names ⟨f, t, k, (-1)⟩ b ++ [10]) = acc5 at *
                go_wp2
                go_roundg k1
                case measure => omega
                case rel => exact ⟨i + 1, acc5, v5, by omega, by go_num, HI5, HV5⟩
              · obtain ⟨Y, rfl⟩ := Int.eq_ofNat_of_zero_le hy0
                have hY : Y < names.length := by omega
                obtain ⟨an, rfl, hbn, n0⟩ := HN.out.below HI.out.bel Y hY
                unfold encS at n0
                have hnn : (an.add Y).block ≠ wr.heap.size := by omega
                have hlab : ByteArray.mk (kw b).toArray ++ (ByteArray.mk #[32] ++ ByteArray.mk names[Y].toArray) = ByteArray.mk (labR names b Y).toArray := by
                  unfold labR
                  rw [if_pos (by omega), Int.toNat_natCast, List.getD_eq_getElem?_getD, List.getElem?_eq_getElem hY]
                  apply ByteArray.ext
                  simp
                have HLAB := Aside0.mk hlab
                clear hlab
                have hn32 := H32.out names[Y] (List.getElem_mem hY)
                have hkw2 : (kw b).length ≤ 2 := by
                  have hb4 : b = 0 ∨ b = 1 ∨ b = 2 ∨ b = 3 ∨ b = 4 := by omega
                  rcases hb4 with rfl | rfl | rfl | rfl | rfl <;> decide
                go_wp2_with fail
                rw [HLAB.out]
                have HAT := Aside0.mk (show ∀ W', Below (wr.heap.size + 1) (wr.alloc (.cells #[.int .i64 f, .int .i64 t, .int .i64 k, .int .i64 (Y : Int)] 34)) W' → ∃ v3, BAt (w1.heap.size + 1) w1.heap.size v3 (Lib.byteCells acc) W' ∧ w1.heap.size + 1 ≤ W'.heap.size ∧ Below w.heap.size w W' from fun W' h =>
                  ⟨v, HI.out.at'.move (fun k' hk' _ => (h.block k' (by omega)).trans (Below.heap_alloc _ _ k' hk')), Nat.le_trans hszr (Nat.le_trans (by simp) h.size), HBOX.out.trans (h.mono (by omega))⟩)
                have HLL := Aside0.mk (labR_len H32.out hb5 (Y : Int))
                have HDW := Aside0.mk (HW.out)
                have hlq := quoteR_len HLL.out
                have hl1 := Lib.itoa_length_le f (by omega) (by omega)
                have hl2 := Lib.itoa_length_le t (by omega) (by omega)
                refine start_ (n := 15) (S := (fun w' => Below (wr.heap.size + 1) (wr.alloc (.cells #[.int .i64 f, .int .i64 t, .int .i64 k, .int .i64 (Y : Int)] 34)) w')) (ds := [14]) #[false, false, false, false, false, false, false, false, false, false, false, false, false, false, false] (by kernel_rfl) rfl rfl (by first | exact (Below.refl _ _).drew | exact Below.refl _ _) (fun hHeld => ?_)
                refine pure_ (i := 0) (N := some 73) (v := ?_) (a' := ?_) #[true, false, false, false, false, false, false, false, false, false, false, false, false, false, false] rfl rfl (by kernel_rfl) (fun _ _ _ h => h) (Or.inl ⟨by rfl, ?_⟩) ?_ ?_
                rotate_left
                · intro w'
                  go_simp
                  with_reducible rfl
                rotate_left
                · simp only [Act.put, List.setIfInBounds_toArray, List.set_cons_zero, List.set_cons_succ, i64_w, i32_w]
                  rfl
                refine take_ (i := 1) (N := some 74) (v := ?_) (a' := ?_) #[true, true, false, false, false, false, false, false, false, false, false, false, false, false, false] rfl rfl (by kernel_rfl) (fun _ _ _ h => h) (Or.inl ⟨by rfl, ?_⟩) hHeld ?_ ?_
                rotate_left
                · rintro w' sb
                  have c0 := cellB' sb (j := 0) (by rfl)
                  have c1 := cellB' sb (j := 1) (by rfl)
                  go_simp
                  with_reducible rfl
                rotate_left
                · simp only [Act.put, List.setIfInBounds_toArray, List.set_cons_zero, List.set_cons_succ, i64_w, i32_w]
                  rfl
                refine pure_ (i := 5) (N := some 78) (v := ?_) (a' := ?_) #[true, true, false, false, false, true, false, false, false, false, false, false, false, false, false] rfl rfl (by kernel_rfl) (fun _ _ _ h => h) (Or.inl ⟨by rfl, ?_⟩) ?_ ?_
                rotate_left
                · intro w'
                  go_simp
                  with_reducible rfl
                rotate_left
                · simp only [Act.put, List.setIfInBounds_toArray, List.set_cons_zero, List.set_cons_succ, i64_w, i32_w]
                  rfl
                refine take_ (i := 6) (N := some 79) (v := ?_) (a' := ?_) #[true, true, false, false, false, true, true, false, false, false, false, false, false, false, false] rfl rfl (by kernel_rfl) (fun _ _ _ h => h) (Or.inl ⟨by rfl, ?_⟩) hHeld ?_ ?_
                rotate_left
                · rintro w' sb
                  have c0 := cellB' sb (j := 0) (by rfl)
                  have c1 := cellB' sb (j := 1) (by rfl)
                  go_simp
                  with_reducible rfl
                rotate_left
                · simp only [Act.put, List.setIfInBounds_toArray, List.set_cons_zero, List.set_cons_succ, i64_w, i32_w]
                  rfl
                refine pure_ (i := 10) (N := some 83) (v := ?_) (a' := ?_) #[true, true, false, false, false, true, true, false, false, false, true, false, false, false, false] rfl rfl (by kernel_rfl) (fun _ _ _ h => h) (Or.inl ⟨by rfl, ?_⟩) ?_ ?_
                rotate_left
                · intro w'
                  go_simp
                  with_reducible rfl
                rotate_left
                · simp only [Act.put, List.setIfInBounds_toArray, List.set_cons_zero, List.set_cons_succ, i64_w, i32_w]
                  rfl
                refine one_ (i := 2) (N := some 75) #[true, true, true, false, false, true, true, false, false, false, true, false, false, false, false] rfl rfl (by kernel_rfl) (by decide) (fun K hK => ?_)
                have hS' : (fun w' => Below (wr.heap.size + 1) (wr.alloc (.cells #[.int .i64 f, .int .i64 t, .int .i64 k, .int .i64 (Y : Int)] 34)) w') _ := hHeld
                refine goes_ Tryd.func20 (by kernel_rfl) rfl #[.int .i64 f] (by rfl) rfl rfl (by simp only [List.map_toArray, List.map_cons, List.map_nil]; rfl) ?_
                refine (Tryd.strconv_Itoa f (by omega) (by omega) _ (p10_below HDW.out.lw.p10 (HBOX.out.trans (hS'.mono (by omega))))).mono ?_
                rintro e w4 ⟨rfl, k4, os4, rfl⟩
                refine ⟨_, rfl, ?_⟩
                refine hK.out _ _ (hS'.trans (Lib.below_grow _ _ (Nat.le_trans (by simp) hS'.size) _ _)) (fun hHeld => ?_)
                clear hK K hS'
                refine norm_ (a' := ?_) ?_ ?_
                rotate_left
                · show Act.put _ (some 75) _ = _
                  simp only [Act.put, List.setIfInBounds_toArray, List.set_cons_zero, List.set_cons_succ, i64_w, i32_w]
                  rfl
                refine pure_ (i := 3) (N := some 76) (v := ?_) (a' := ?_) #[true, true, true, true, false, true, true, false, false, false, true, false, false, false, false] rfl rfl (by kernel_rfl) (fun _ _ _ h => h) (Or.inl ⟨by rfl, ?_⟩) ?_ ?_
                rotate_left
                · intro w'
                  go_simp
                  rw [if_neg (by omega)]
                rotate_left
                · simp only [Act.put, List.setIfInBounds_toArray, List.set_cons_zero, List.set_cons_succ, i64_w, i32_w]
                  rfl
                refine pure_ (i := 4) (N := some 77) (v := ?_) (a' := ?_) #[true, true, true, true, true, true, true, false, false, false, true, false, false, false, false] rfl rfl (by kernel_rfl) (fun _ _ _ h => h) (Or.inl ⟨by rfl, ?_⟩) ?_ ?_
                rotate_left
                · intro w'
                  go_simp
                  rw [if_neg (by omega)]
                rotate_left
                · simp only [Act.put, List.setIfInBounds_toArray, List.set_cons_zero, List.set_cons_succ, i64_w, i32_w]
                  rfl
                refine one_ (i := 7) (N := some 80) #[true, true, true, true, true, true, true, true, false, false, true, false, false, false, false] rfl rfl (by kernel_rfl) (by decide) (fun K hK => ?_)
                have hS' : (fun w' => Below (wr.heap.size + 1) (wr.alloc (.cells #[.int .i64 f, .int .i64 t, .int .i64 k, .int .i64 (Y : Int)] 34)) w') _ := hHeld
                refine goes_ Tryd.func20 (by kernel_rfl) rfl #[.int .i64 t] (by rfl) rfl rfl (by simp only [List.map_toArray, List.map_cons, List.map_nil]; rfl) ?_
                refine (Tryd.strconv_Itoa t (by omega) (by omega) _ (p10_below HDW.out.lw.p10 (HBOX.out.trans (hS'.mono (by omega))))).mono ?_
                rintro e w4 ⟨rfl, k4, os4, rfl⟩
                refine ⟨_, rfl, ?_⟩
                refine hK.out _ _ (hS'.trans (Lib.below_grow _ _ (Nat.le_trans (by simp) hS'.size) _ _)) (fun hHeld => ?_)
                clear hK K hS'
                refine norm_ (a' := ?_) ?_ ?_
                rotate_left
                · show Act.put _ (some 80) _ = _
                  simp only [Act.put, List.setIfInBounds_toArray, List.set_cons_zero, List.set_cons_succ, i64_w, i32_w]
                  rfl
                refine pure_ (i := 8) (N := some 81) (v := ?_) (a' := ?_) #[true, true, true, true, true, true, true, true, true, false, true, false, false, false, false] rfl rfl (by kernel_rfl) (fun _ _ _ h => h) (Or.inl ⟨by rfl, ?_⟩) ?_ ?_
                rotate_left
                · intro w'
                  go_simp
                  rw [if_neg (by omega)]
                rotate_left
                · simp only [Act.put, List.setIfInBounds_toArray, List.set_cons_zero, List.set_cons_succ, i64_w, i32_w]
                  rfl
                refine pure_ (i := 9) (N := some 82) (v := ?_) (a' := ?_) #[true, true, true, true, true, true, true, true, true, true, true, false, false, false, false] rfl rfl (by kernel_rfl) (fun _ _ _ h => h) (Or.inl ⟨by rfl, ?_⟩) ?_ ?_
                rotate_left
                · intro w'
                  go_simp
                  rw [if_neg (by omega)]
                rotate_left
                · simp only [Act.put, List.setIfInBounds_toArray, List.set_cons_zero, List.set_cons_succ, i64_w, i32_w]
                  rfl
                refine one_ (i := 11) (N := some 84) #[true, true, true, true, true, true, true, true, true, true, true, true, false, false, false] rfl rfl (by kernel_rfl) (by decide) (fun K hK => ?_)
                have hS' : (fun w' => Below (wr.heap.size + 1) (wr.alloc (.cells #[.int .i64 f, .int .i64 t, .int .i64 k, .int .i64 (Y : Int)] 34)) w') _ := hHeld
                refine goes_ Tryd.func21 (by kernel_rfl) rfl #[.string ⟨(labR names b (Y : Int)).toArray⟩] (by rfl) rfl rfl (by simp only [List.map_toArray, List.map_cons, List.map_nil]; rfl) ?_
                refine (Quote_calls (labR names b (Y : Int)) _ (by have := HLL.out; omega) (fun w9 h9 => (HDW.out.below (HBOX.out.trans ((hS'.trans (h9.mono (Nat.le_trans (by simp) hS'.size))).mono (by omega)))).lw.deb)).mono ?_
                rintro e w4 ⟨rfl, hb4⟩
                refine ⟨_, rfl, ?_⟩
                refine hK.out _ _ (hS'.trans (hb4.mono (Nat.le_trans (by simp) hS'.size))) (fun hHeld => ?_)
                clear hK K hS' hb4
                refine norm_ (a' := ?_) ?_ ?_
                rotate_left
                · show Act.put _ (some 84) _ = _
                  simp only [Act.put, List.setIfInBounds_toArray, List.set_cons_zero, List.set_cons_succ, i64_w, i32_w]
                  rfl
                refine pure_ (i := 12) (N := some 85) (v := ?_) (a' := ?_) #[true, true, true, true, true, true, true, true, true, true, true, true, true, false, false] rfl rfl (by kernel_rfl) (fun _ _ _ h => h) (Or.inl ⟨by rfl, ?_⟩) ?_ ?_
                rotate_left
                · intro w'
                  go_simp
                  rw [if_neg (by omega)]
                rotate_left
                · simp only [Act.put, List.setIfInBounds_toArray, List.set_cons_zero, List.set_cons_succ, i64_w, i32_w]
                  rfl
                refine pure_ (i := 13) (N := some 86) (v := ?_) (a' := ?_) #[true, true, true, true, true, true, true, true, true, true, true, true, true, true, false] rfl rfl (by kernel_rfl) (fun _ _ _ h => h) (Or.inl ⟨by rfl, ?_⟩) ?_ ?_
                rotate_left
                · intro w'
                  go_simp
                  rw [if_neg (by omega)]
                rotate_left
                · simp only [Act.put, List.setIfInBounds_toArray, List.set_cons_zero, List.set_cons_succ, i64_w, i32_w]
                  rfl
                have hS3 : (fun w' => Below (wr.heap.size + 1) (wr.alloc (.cells #[.int .i64 f, .int .i64 t, .int .i64 k, .int .i64 (Y : Int)] 34)) w') _ := hHeld
                refine last_ (i := 14) (N := some 87) #[true, true, true, true, true, true, true, true, true, true, true, true, true, true, true] rfl rfl (by kernel_rfl) (by decide) (fun K hK => ?_)
                obtain ⟨v3, hat3, hsz3, hbel3⟩ := HAT.out _ hS3
                clear hS3 hHeld
                refine goes_ Tryd.func16 (by kernel_rfl) rfl #[.pointer (some ⟨w1.heap.size, 0, none⟩), .string ((((((({ data := #[32, 32, 116] } ++ { data := (Lib.itoa f).toArray } : ByteArray) ++ { data := #[32, 45, 62, 32, 116] } : ByteArray) ++ { data := (Lib.itoa t).toArray } : ByteArray) ++ { data := #[32, 91, 108, 97, 98, 101, 108, 61] } : ByteArray) ++ { data := (quoteR (labR names b (Y : Int))).toArray } : ByteArray) ++ { data := #[93, 59, 10] } : ByteArray))] (by rfl) rfl rfl (by simp only [List.map_toArray, List.map_cons, List.map_nil]; rfl) ?_
                refine (Write_calls (w1.heap.size + 1) w1.heap.size v3 (Lib.byteCells acc) _ _ hat3 (by rw [Lib.byteCells_length]; have := HV.out.1; simp [ByteArray.size]; omega) hsz3).mono ?_
                rintro e w5 ⟨rfl, v5, hb5, hk5⟩
                have HI5 := Aside0.mk (show PI w w1.heap.size v5 (acc ++ (lineX names ⟨f, t, k, (Y : Int)⟩ b ++ [10])) w5 from ⟨hbel3.trans (hk5.1.mono hsz1), by
                  have e : Lib.byteCells (acc ++ (lineX names ⟨f, t, k, (Y : Int)⟩ b ++ [10])) = Lib.byteCells acc ++ Lib.strCells ((((((({ data := #[32, 32, 116] } ++ { data := (Lib.itoa f).toArray } : ByteArray) ++ { data := #[32, 45, 62, 32, 116] } : ByteArray) ++ { data := (Lib.itoa t).toArray } : ByteArray) ++ { data := #[32, 91, 108, 97, 98, 101, 108, 61] } : ByteArray) ++ { data := (quoteR (labR names b (Y : Int))).toArray } : ByteArray) ++ { data := #[93, 59, 10] } : ByteArray)) := by
                    rw [Lib.strCells_eq, Lib.byteCells_append]
                    simp [ByteArray.data_append, lineX, p1, p2, p3, p4]
                  rw [e]
                  exact hb5, Nat.le_trans hsz3 (by have := hk5.1.size; omega), hsz1⟩)
                have HV5 := Aside0.mk (show (acc ++ (lineX names ⟨f, t, k, (Y : Int)⟩ b ++ [10])).length ≤ 18 + 300 * (i + 1) ∧ (L, C) = match linesR names (l.drop (i + 1)) with
                  | none => (([] : List UInt8), (1 : Int))
                  | some o => (acc ++ (lineX names ⟨f, t, k, (Y : Int)⟩ b ++ [10]) ++ o ++ tl, 0) by
                  refine ⟨?_, ?_⟩
                  · have := HV.out.1
                    unfold lineX p1 p2 p3 p4
                    simp only [List.length_append, List.length_cons, List.length_nil]
                    omega
                  · have := HV.out.2
                    rw [HLX.out] at this
                    simp only at this
                    rw [this]
                    cases linesR names (l.drop (i + 1)) with
                    | none => rfl
                    | some o => simp)
                clear hb5 hk5 hat3 hbel3
                refine ⟨_, rfl, ?_⟩
                refine hK.out _ _ ?_
                clear hK K
                refine done_ (by kernel_rfl) ?_
                generalize acc ++ (lineX names ⟨f, t, k, (Y : Int)⟩ b ++ [10]) = acc5 at *
                go_wp2
                go_roundg k1
                case measure => omega
                case rel => exact ⟨i + 1, acc5, v5, by omega, by go_num, HI5, HV5⟩
            · obtain ⟨rfl, rfl⟩ := HBAD.out (by unfold lineR; rw [HBB.out]; simp only; rw [if_neg hfair])
              have hbad : nodeD f = false ∨ (nodeD f = true ∧ nodeD t = false) ∨ (nodeD f = true ∧ nodeD t = true ∧ y < -1) ∨ (nodeD f = true ∧ nodeD t = true ∧ ¬ y < -1 ∧ (names.length : Int) ≤ y) := by
                unfold fairE at hfair
                have h1 := nodeD_iff f
                have h2 := nodeD_iff t
                cases hfn : nodeD f with
                | false => exact .inl rfl
                | true =>
                  cases htn : nodeD t with
                  | false => exact .inr (.inl ⟨rfl, rfl⟩)
                  | true =>
                    have h3 := h1.1 hfn
                    have h4 := h2.1 htn
                    by_cases h5 : y < -1
                    · exact .inr (.inr (.inl ⟨rfl, rfl, h5⟩))
                    · refine .inr (.inr (.inr ⟨rfl, rfl, h5, ?_⟩))
                      by_cases h6 : (names.length : Int) ≤ y
                      · exact h6
                      · exact absurd (show 0 ≤ f ∧ f < 64 ∧ 0 ≤ t ∧ t < 64 ∧ -1 ≤ y ∧ y < names.length by omega) hfair
              clear hfair HV
              rcases hbad with q | ⟨q, q2⟩ | ⟨q, q2, q3⟩ | ⟨q, q2, q3, q4⟩
              · go_wp2_with fail
                refine (node_calls f hf _).mono ?_
                rintro e w3 ⟨rfl, rfl⟩
                rw [q]
                clear q
                go_wp2_with fail
                go_ret2
                exact ⟨rfl, HBOX.out⟩
              · go_wp2_with fail
                refine (node_calls f hf _).mono ?_
                rintro e w3 ⟨rfl, rfl⟩
                rw [q]
                clear q
                go_wp2_with fail
                refine (node_calls t ht _).mono ?_
                rintro e w3 ⟨rfl, rfl⟩
                rw [q2]
                clear q2
                go_wp2_with fail
                go_ret2
                exact ⟨rfl, HBOX.out⟩
              · go_wp2_with fail
                refine (node_calls f hf _).mono ?_
                rintro e w3 ⟨rfl, rfl⟩
                rw [q]
                clear q
                go_wp2_with fail
                refine (node_calls t ht _).mono ?_
                rintro e w3 ⟨rfl, rfl⟩
                rw [q2]
                clear q2
                go_wp2_with fail
                go_ret2
                exact ⟨rfl, HBOX.out⟩
              · go_wp2_with fail
                refine (node_calls f hf _).mono ?_
                rintro e w3 ⟨rfl, rfl⟩
                rw [q]
                clear q
                go_wp2_with fail
                refine (node_calls t ht _).mono ?_
                rintro e w3 ⟨rfl, rfl⟩
                rw [q2]
                clear q2
                go_wp2_with fail
                go_ret2
                exact ⟨rfl, HBOX.out⟩
  · rw [if_neg q0] at HR
    have hq : (wrongR names == 0) = false := beq_eq_false_iff_ne.2 q0
    obtain ⟨rfl, rfl⟩ : L = [] ∧ C = wrongR names := by have := HR.out; simpa using this
    clear q0
    go_wp2_with fail
    go_ret2
    exact ⟨rfl, HB1.out⟩
end Go.Proofs.YtohlbnbfpcbpdaaDoor.Dt
