/- lex: written, Join's closure: the walks. -/
import Derived.Test.YtidkjiglmfhjpaaDoorLxQ
import Derived.Test.YtidkjiglmfhjpaaDoorShelf
import Derived.Lib.ItoaLen
import Derived.Lib.AppendIntMem
set_option linter.unusedVariables false
set_option linter.unusedSimpArgs false
namespace Go.Proofs.YtidkjiglmfhjpaaDoor.Lx
open Go.RowKit Go.Proofs.YtidkjiglmfhjpaaDoorW.PrintWords Go.Proofs.YtidkjiglmfhjpaaDoorW.PrintLast Go.Proofs.YtidkjiglmfhjpaaDoorW.PrintMore

def P10 (w : World) : Prop := Lib.TabIs Tryd.prog w "internal/strconv.uint64pow10" .u64 Lib.pow10Tab
/-- What the tables and the error variables are asked to hold. -/
structure LW (w : World) : Prop where
  te : TE w
  deb : DeB w
  p10 : P10 w
/-- A token's text; none: it has none. -/
def writtenR (k : Int) (t : List UInt8) (n : Int) : Option (List UInt8) :=
  if 1 ≤ k ∧ k ≤ 6 then some [singles.getD (k.toNat - 1) 0] else if k = 10 then some [10] else if k = 7 then some (quoteR t) else if k = 8 then some (Lib.itoa n) else if k = 9 ∧ isWord t = true then some t else none
set_option maxRecDepth 100000 in
set_option maxHeartbeats 4000000 in
theorem written_calls (k : Int) (t : List UInt8) (n a : Int) (w : World) (hk : -9223372036854775808 ≤ k ∧ k ≤ 9223372036854775807) (hn : -9223372036854775808 ≤ n ∧ n ≤ 9223372036854775807) (hl : t.length ≤ 10000000000000) (hw : ∀ w1, Below w.heap.size w w1 → LW w1) :
    Calls Tryd.prog 28 #[.agg #[.int .i64 k, .string ⟨t.toArray⟩, .int .i64 n, .int .i64 a]] w fun e w' => Below w.heap.size w w' ∧
      ((∀ out, writtenR k t n = some out → e = .returned (.tuple #[.string ⟨out.toArray⟩, .bool true])) ∧ (writtenR k t n = none → ∃ s, e = .returned (.tuple #[.string s, .bool false]))) := by
  have HW := Aside0.mk hw
  have HX := Aside0.mk (show writtenR k t n = if 1 ≤ k ∧ k ≤ 6 then some [singles.getD (k.toNat - 1) 0] else if k = 10 then some [10] else if k = 7 then some (quoteR t) else if k = 8 then some (Lib.itoa n) else if k = 9 ∧ isWord t = true then some t else none from rfl)
  clear hw
  by_cases q1 : 1 ≤ k ∧ k ≤ 6
  · rw [if_pos q1] at HX
    have hk6 : k = 1 ∨ k = 2 ∨ k = 3 ∨ k = 4 ∨ k = 5 ∨ k = 6 := by omega
    clear q1
    rcases hk6 with rfl | rfl | rfl | rfl | rfl | rfl
    all_goals
      go_enter Tryd.func28, Tryd.ntmps28
      go_wp2
      go_ret2
      exact ⟨(Below.refl _ _).alloc (Nat.le_refl _) _, (fun out h => by rw [HX.out] at h; cases h; rfl), (fun h => by rw [HX.out] at h; cases h)⟩
  · rw [if_neg q1] at HX
    have h1 : (k == 1) = false := by simp; omega
    have h2 : (k == 2) = false := by simp; omega
    have h3 : (k == 3) = false := by simp; omega
    have h4 : (k == 4) = false := by simp; omega
    have h5 : (k == 5) = false := by simp; omega
    have h6 : (k == 6) = false := by simp; omega
    clear q1
    by_cases q2 : k = 10
    · rw [if_pos q2] at HX
      have g1 : (k == 10) = true := by simp [q2]
      clear q2
      go_enter Tryd.func28, Tryd.ntmps28
      go_wp2
      go_ret2
      exact ⟨(Below.refl _ _).alloc (Nat.le_refl _) _, (fun out h => by rw [HX.out] at h; cases h; rfl), (fun h => by rw [HX.out] at h; cases h)⟩
    · rw [if_neg q2] at HX
      have g1 : (k == 10) = false := by simp [q2]
      clear q2
      by_cases q3 : k = 7
      · rw [if_pos q3] at HX
        have g2 : (k == 7) = true := by simp [q3]
        clear q3
        go_enter Tryd.func28, Tryd.ntmps28
        go_wp2_with fail
        refine (Quote_calls t _ hl (fun w1 h => (HW.out w1 (((Below.refl _ _).alloc (Nat.le_refl _) _).trans (h.mono (by simp)))).deb)).mono ?_
        rintro e w' ⟨rfl, hb⟩
        have HB := Aside0.mk (((Below.refl w.heap.size w).alloc (Nat.le_refl _) _).trans (hb.mono (by simp)))
        clear hb
        go_wp2
        go_ret2
        exact ⟨HB.out, (fun out h => by rw [HX.out] at h; cases h; rfl), (fun h => by rw [HX.out] at h; cases h)⟩
      · rw [if_neg q3] at HX
        have g2 : (k == 7) = false := by simp [q3]
        clear q3
        by_cases q4 : k = 8
        · rw [if_pos q4] at HX
          have g3 : (k == 8) = true := by simp [q4]
          clear q4
          go_enter Tryd.func28, Tryd.ntmps28
          go_wp2_with fail
          refine (Tryd.strconv_FormatInt_10 n hn.1 hn.2 _ (HW.out _ ((Below.refl _ _).alloc (Nat.le_refl _) _)).p10).mono ?_
          rintro e w' ⟨rfl, kk, os, hw'⟩
          have HB := Aside0.mk (show Below w.heap.size w w' by
            rw [hw']
            exact ((Below.refl _ _).alloc (Nat.le_refl _) _).trans (Lib.below_grow _ _ (by simp) _ _))
          clear hw'
          go_wp2
          go_ret2
          exact ⟨HB.out, (fun out h => by rw [HX.out] at h; cases h; rfl), (fun h => by rw [HX.out] at h; cases h)⟩
        · rw [if_neg q4] at HX
          have g3 : (k == 8) = false := by simp [q4]
          clear q4
          by_cases q5 : k = 9
          · have g4 : (k == 9) = true := by simp [q5]
            clear q5
            have END : ∀ (b : Bool) (w' : World), isWord t = b → Below w.heap.size w w' → Below w.heap.size w w' ∧ ((∀ out, writtenR k t n = some out → (Ending.returned (.tuple #[.string ⟨t.toArray⟩, .bool b])) = .returned (.tuple #[.string ⟨out.toArray⟩, .bool true])) ∧
                (writtenR k t n = none → ∃ s, Ending.returned (.tuple #[.string ⟨t.toArray⟩, .bool b]) = .returned (.tuple #[.string s, .bool false]))) := by
              intro b w' hb hbel
              have h9 : k = 9 := by simpa using g4
              rw [HX.out]
              cases b with
              | true =>
                rw [if_pos ⟨h9, hb⟩]
                exact ⟨hbel, (fun out h => by cases h; rfl), (fun h => by cases h)⟩
              | false =>
                rw [if_neg (fun h => by rw [hb] at h; cases h.2)]
                exact ⟨hbel, (fun out h => by cases h), (fun _ => ⟨_, rfl⟩)⟩
            have HEND := Aside0.mk END
            clear END HX
            by_cases e1 : t = wTrue
            · subst e1
              unfold wTrue at *
              go_enter Tryd.func28, Tryd.ntmps28
              go_wp2
              go_quiet (fail)
              go_wp2
              go_ret2
              exact HEND.out true _ rfl (pw_below_drewN ((Below.refl _ _).alloc (Nat.le_refl _) _) _)
            · have b1 : (t == [116, 114, 117, 101]) = false := beq_eq_false_iff_ne.2 e1
              clear e1
              by_cases e2 : t = wFalse
              · subst e2
                unfold wFalse at *
                go_enter Tryd.func28, Tryd.ntmps28
                go_wp2
                go_quiet (fail)
                go_wp2
                go_ret2
                exact HEND.out true _ rfl (pw_below_drewN ((Below.refl _ _).alloc (Nat.le_refl _) _) _)
              · have b2 : (t == [102, 97, 108, 115, 101]) = false := beq_eq_false_iff_ne.2 e2
                clear e2
                by_cases e3 : t = wNull
                · subst e3
                  unfold wNull at *
                  go_enter Tryd.func28, Tryd.ntmps28
                  go_wp2
                  go_quiet (fail)
                  go_wp2
                  go_ret2
                  exact HEND.out true _ rfl (pw_below_drewN ((Below.refl _ _).alloc (Nat.le_refl _) _) _)
                · have b3 : (t == [110, 117, 108, 108]) = false := beq_eq_false_iff_ne.2 e3
                  clear e3
                  have HNO := Aside0.mk (show isWord t = false by
                    unfold isWord wTrue wFalse wNull
                    rw [b1, b2, b3]
                    rfl)
                  go_enter Tryd.func28, Tryd.ntmps28
                  go_wp2
                  go_quiet (fail)
                  go_wp2
                  go_ret2
                  exact HEND.out false _ HNO.out (pw_below_drewN ((Below.refl _ _).alloc (Nat.le_refl _) _) _)
          · rw [if_neg (fun h => q5 h.1)] at HX
            have g4 : (k == 9) = false := by simp [q5]
            clear q5
            go_enter Tryd.func28, Tryd.ntmps28
            go_wp2
            go_ret2
            exact ⟨(Below.refl _ _).alloc (Nat.le_refl _) _, (fun out h => by rw [HX.out] at h; cases h), (fun _ => ⟨_, rfl⟩)⟩
end Go.Proofs.YtidkjiglmfhjpaaDoor.Lx
/- lex: Join: the walk. -/
namespace Go.Proofs.YtidkjiglmfhjpaaDoor.Lx
open Go.RowKit Go.Proofs.YtidkjiglmfhjpaaDoorW.PrintWords Go.Proofs.YtidkjiglmfhjpaaDoorW.PrintLast Go.Proofs.YtidkjiglmfhjpaaDoorW.PrintMore

/-- A token as it is handed in. -/
structure JT where
  k : Int
  t : List UInt8
  n : Int
  a : Int
def wordy (k : Int) : Bool := k == 8 || k == 9
def JT.v (x : JT) : Value := .agg #[.int .i64 x.k, .string ⟨x.t.toArray⟩, .int .i64 x.n, .int .i64 x.a]
def JT.ok (x : JT) : Prop := (-9223372036854775808 ≤ x.k ∧ x.k ≤ 9223372036854775807) ∧ (-9223372036854775808 ≤ x.n ∧ x.n ≤ 9223372036854775807) ∧ x.t.length ≤ 10000000000000
def joinF : Bool → List JT → Option (List UInt8)
  | _, [] => some []
  | pw, x :: r => match writtenR x.k x.t x.n with
    | none => none
    | some s => (joinF (wordy x.k) r).map fun o => (if pw && wordy x.k then [32] else []) ++ s ++ o
def jb (l : List JT) : Nat := (l.map fun x => 6 * x.t.length + 30).sum
theorem wordy_enters (args : Array Value) (w : World) : (callFunc 27 args).run Tryd.prog w = .ok (.enter 27 args) w := enters_ Tryd.func27 (by kernel_rfl) (by kernel_rfl) args w
theorem wordy_calls (x : JT) (w : World) : Calls Tryd.prog 27 #[x.v] w fun e w' => e = .returned (.bool (wordy x.k)) ∧ Below w.heap.size w w' := by
  unfold JT.v wordy
  by_cases q1 : x.k = 8
  · have h1 : (x.k == 8) = true := by simp [q1]
    rw [h1]
    clear q1
    go_enter Tryd.func27, Tryd.ntmps27
    go_wp2
    go_ret
    exact ⟨rfl, (Below.refl _ _).alloc (Nat.le_refl _) _⟩
  · have h1 : (x.k == 8) = false := by simp [q1]
    rw [h1]
    clear q1
    go_enter Tryd.func27, Tryd.ntmps27
    go_wp2
    go_ret
    exact ⟨rfl, (Below.refl _ _).alloc (Nat.le_refl _) _⟩
/-- A row of tokens that is read. -/
def TRow (w : World) (A : Option Addr) (l : List JT) : Prop := ∀ i (hi : i < l.length), ∃ ad, A = some ad ∧ (ad.add (i * 4)).block < w.heap.size ∧ w.cell? (ad.add (i * 4)) = some (.int .i64 l[i].k) ∧
  w.cell? ⟨(ad.add (i * 4)).block, (ad.add (i * 4)).off + 1, none⟩ = some (.string ⟨l[i].t.toArray⟩) ∧ w.cell? ⟨(ad.add (i * 4)).block, (ad.add (i * 4)).off + 2, none⟩ = some (.int .i64 l[i].n) ∧
  w.cell? ⟨(ad.add (i * 4)).block, (ad.add (i * 4)).off + 3, none⟩ = some (.int .i64 l[i].a)
theorem TRow.below {w w' : World} {A : Option Addr} {l : List JT} (h : TRow w A l) (hb : Below w.heap.size w w') : TRow w' A l := fun i hi => by
  obtain ⟨ad, h0, h1, h2, h3, h4, h5⟩ := h i hi
  exact ⟨ad, h0, Nat.lt_of_lt_of_le h1 hb.size, cell_below' hb h2, cell_below' hb h3, cell_below' hb h4, cell_below' hb h5⟩
theorem written_len {k : Int} {t : List UInt8} {n : Int} {s : List UInt8} (hn : -9223372036854775808 ≤ n ∧ n ≤ 9223372036854775807) (h : writtenR k t n = some s) : s.length ≤ 6 * t.length + 21 := by
  unfold writtenR at h
  split at h
  · cases h; simp
  · split at h
    · cases h; simp
    · split at h
      · cases h
        have := quote_len t
        simp only [quoteR, List.length_cons, List.length_append, List.length_nil]
        omega
      · split at h
        · cases h
          have := Lib.itoa_length_le n hn.1 hn.2
          omega
        · split at h
          · cases h
            omega
          · cases h
set_option maxRecDepth 100000 in
set_option maxHeartbeats 2000000 in
theorem Join_calls (l : List JT) (A : Option Addr) (c : Nat) (w : World) (hr : TRow w A l) (hok : ∀ x ∈ l, x.ok) (hl : l.length ≤ 10000000000000) (hjb : jb l ≤ 100000000000000) (hw : ∀ w1, Below w.heap.size w w1 → LW w1) :
    Calls Tryd.prog 15 #[.slice A l.length c] w fun e w' => Below w.heap.size w w' ∧
      ((∀ o, joinF false l = some o → e = .returned (.tuple #[.string ⟨o.toArray⟩, .int .i64 0])) ∧ (joinF false l = none → e = .returned (.tuple #[.string ⟨#[]⟩, .int .i64 1]))) := by
  have HW := Aside0.mk hw
  have HR := Aside0.mk hr
  have HOK := Aside0.mk hok
  clear hw hr hok
  generalize hX : joinF false l = X
  have HX := Aside0.mk hX
  clear hX
  go_enter Tryd.func15, Tryd.ntmps15
  go_wp2
  go_loopg [12] (l.length) (fun kq u12 w2 => ∃ (i : Nat) (acc : List UInt8) (v : Value), i + kq = l.length ∧ u12 = .int .i64 i ∧ w.heap.size + 1 ≤ w2.heap.size ∧ acc.length + jb (l.drop i) ≤ 100000000000000 ∧ Aside0 ((joinF (decide (0 < i) && wordy (((l[i - 1]?).map (·.k)).getD 0)) (l.drop i)).map (acc ++ ·) = X) ∧
    Aside0 (BAt (w.heap.size + 1) w.heap.size v (Lib.byteCells acc) w2) ∧ Aside0 (Below w.heap.size w w2))
  case atStart =>
    refine ⟨0, [], .slice none 0 0, by omega, rfl, by simp, by simpa using hjb, Aside0.mk ?_, Aside0.mk (BAt.new w), Aside0.mk ((Below.refl _ _).alloc (Nat.le_refl _) _)⟩
    rw [← HX.out]
    simp
  case round =>
    obtain ⟨i, acc, v, hi, rfl, hsz2, hacc, HT, HB, HBel⟩ := hrel
    cases gk with
    | zero =>
      have hge : ¬ ((i : Nat) : Int) < (l.length : Int) := by omega
      have hd : l.drop i = [] := List.drop_eq_nil_of_le (by omega)
      have HX0 := Aside0.mk (show X = some acc by rw [← HT.out, hd]; simp [joinF])
      clear hd
      go_wp2_with fail
      refine (Tryd.Builder_String_any w.heap.size w.heap.size acc _ HB.out.is (by omega)).mono ?_
      rintro e w3 ⟨rfl, hb3⟩
      have HBel3 := Aside0.mk (HBel.out.trans hb3)
      clear hb3
      go_wp2
      go_ret2
      exact ⟨HBel3.out, (fun o h => by rw [HX0.out] at h; cases h; rfl), (fun h => by rw [HX0.out] at h; cases h)⟩
    | succ k1 =>
      have hlt : i < l.length := by omega
      have hltz : ((i : Nat) : Int) < (l.length : Int) := by omega
      have hRw := HR.out.below HBel.out
      obtain ⟨ad, rfl, hb, r0, r1, r2, r3⟩ := hRw i hlt
      have hne : (ad.add (i * 4)).block ≠ wr.heap.size := by omega
      go_wp2_with fail
      have hx := (HOK.out l[i] (List.getElem_mem hlt))
      refine (written_calls l[i].k l[i].t l[i].n l[i].a _ hx.1 hx.2.1 hx.2.2 (fun w1 h => HW.out w1 (HBel.out.trans (((Below.refl _ _).alloc (Nat.le_refl _) _).trans (h.mono (by simp)) |>.mono (by omega))))).mono ?_
      rintro e w3 ⟨hb3, hs3, hn3⟩
      have hbox : (wr.alloc (.cells #[.int .i64 l[i].k, .string ⟨l[i].t.toArray⟩, .int .i64 l[i].n, .int .i64 l[i].a] 33)).heap[wr.heap.size]? = some (.cells #[.int .i64 l[i].k, .string ⟨l[i].t.toArray⟩, .int .i64 l[i].n, .int .i64 l[i].a] 33 (0, 0)) := by
        simp [World.alloc, -World.alloc_eq]
      have hbox3 := (hb3.block _ (by simp)).trans hbox
      have hbel3 := ((Below.refl wr.heap.size wr).alloc (Nat.le_refl _) (.cells #[.int .i64 l[i].k, .string ⟨l[i].t.toArray⟩, .int .i64 l[i].n, .int .i64 l[i].a] 33)).trans (hb3.mono (by simp))
      have HBel3 := Aside0.mk (HBel.out.trans (hbel3.mono (by omega)))
      have HB3 := Aside0.mk (HB.out.move fun k hk _ => hbel3.block k hk)
      have hsz3 : w.heap.size + 1 ≤ w3.heap.size := Nat.le_trans hsz2 hbel3.size
      have HR3 := Aside0.mk (HR.out.below HBel3.out)
      have hd : l.drop i = l[i] :: l.drop (i + 1) := List.drop_eq_getElem_cons hlt
      have hjd : jb (l.drop i) = 6 * l[i].t.length + 30 + jb (l.drop (i + 1)) := by rw [hd]; simp only [jb, List.map_cons, List.sum_cons]
      rw [hd] at HT
      cases hwr : writtenR l[i].k l[i].t l[i].n with
      | none =>
        obtain ⟨sx, he⟩ := hn3 hwr
        subst he
        have HX0 := Aside0.mk (show X = none by rw [← HT.out, joinF, hwr]; rfl)
        clear hwr hs3 hn3 hb3 hbox hbel3 hbox3 hd hjd hx
        go_wp2
        go_ret2
        exact ⟨HBel3.out, (fun o h => by rw [HX0.out] at h; cases h), (fun _ => rfl)⟩
      | some s =>
        have hsl := written_len hx.2.1 hwr
        have he := hs3 s hwr
        subst he
        have HE : Aside0 (∀ sep : List UInt8, (if (decide (0 < i) && wordy (((l[i - 1]?).map (·.k)).getD 0)) && wordy l[i].k then [32] else []) = sep →
          ((joinF (decide (0 < i) && wordy (((l[i - 1]?).map (·.k)).getD 0)) (l[i] :: l.drop (i + 1))).map (acc ++ ·)) = (joinF (decide (0 < i + 1) && wordy (((l[i + 1 - 1]?).map (·.k)).getD 0)) (l.drop (i + 1))).map ((acc ++ sep ++ s) ++ ·)) := Aside0.mk (by
          intro sep hsep
          rw [joinF, hwr]
          simp only [hsep, Nat.add_sub_cancel, List.getElem?_eq_getElem hlt, Option.map_some, Option.getD_some, Nat.zero_lt_succ, decide_true, Bool.true_and, Option.map_map]
          congr 1
          funext o
          simp)
        clear hwr hs3 hn3 hb3 hbox hbel3 hd hx r0 r1 r2 r3
        have b0 := blk_cell hbox3 0
        have b1 := blk_cell hbox3 1
        have b2 := blk_cell hbox3 2
        have b3 := blk_cell hbox3 3
        have HBX := Aside0.mk hbox3
        have hbl := blk_lt hbox3
        clear hbox3
        by_cases h0 : i = 0
        · have h0' : ¬ (0 : Int) < (i : Int) := by omega
          have HSEP := Aside0.mk (show (if (decide (0 < i) && wordy (((l[i - 1]?).map (·.k)).getD 0)) && wordy l[i].k then ([32] : List UInt8) else []) = [] by simp [h0])
          clear h0
          go_wp2_with fail
          refine (Write_calls (w.heap.size + 1) w.heap.size _ (Lib.byteCells acc) ⟨s.toArray⟩ _ HB3.out (by simp [Lib.byteCells, ByteArray.size]; omega) hsz3).mono ?_
          rintro e w8 ⟨rfl, v8, hb8, hk8⟩
          rw [strCells_list] at hb8
          have HB8 := Aside0.mk (show BAt (w.heap.size + 1) w.heap.size v8 (Lib.byteCells (acc ++ s)) w8 by simpa [Lib.byteCells] using hb8)
          have HBel8 := Aside0.mk (HBel3.out.trans hk8.1)
          have hsz8 : w.heap.size + 1 ≤ w8.heap.size := Nat.le_trans hsz3 hk8.1.size
          clear hb8 hk8
          go_wp2
          go_roundg k1
          case measure => omega
          case rel =>
            refine ⟨i + 1, acc ++ s, v8, by omega, by go_num, hsz8, by simp only [List.length_append, List.length_cons, List.length_nil]; omega, Aside0.mk ?_, HB8, HBel8⟩
            rw [← HT.out, HE.out [] HSEP.out]
            simp [List.append_assoc]
        · have hi1 : (0 : Int) < (i : Int) := by omega
          have hi1' : (1 : Int) ≤ (i : Int) := by omega
          obtain ⟨ad', had, hb', r0, r1, r2, r3⟩ := HR3.out (i - 1) (by omega)
          cases had
          go_wp2_with fail
          refine (wordy_calls l[i] _).mono ?_
          rintro e w4 ⟨rfl, hb4⟩
          have HBel4 := Aside0.mk (HBel3.out.trans (hb4.mono (by omega)))
          have HB4 := Aside0.mk (HB3.out.move fun k hk _ => hb4.block k hk)
          have hsz4 : w.heap.size + 1 ≤ w4.heap.size := Nat.le_trans hsz3 hb4.size
          have HR4 := Aside0.mk (HR3.out.below hb4)
          clear hb4 r0 r1 r2 r3 hb' b0 b1 b2 b3
          obtain ⟨ad', had, hb', r0, r1, r2, r3⟩ := HR4.out (i - 1) (by omega)
          cases had
          cases hwi : wordy l[i].k with
          | false =>
            have hsep : (if (decide (0 < i) && wordy (((l[i - 1]?).map (·.k)).getD 0)) && wordy l[i].k then ([32] : List UInt8) else []) = [] := by simp [hwi]
            have HSEP := Aside0.mk hsep
            clear hsep hwi
            go_wp2_with fail
            refine (Write_calls (w.heap.size + 1) w.heap.size _ (Lib.byteCells acc) ⟨s.toArray⟩ _ HB4.out (by simp [Lib.byteCells, ByteArray.size]; omega) hsz4).mono ?_
            rintro e w8 ⟨rfl, v8, hb8, hk8⟩
            rw [strCells_list] at hb8
            have HB8 := Aside0.mk (show BAt (w.heap.size + 1) w.heap.size v8 (Lib.byteCells (acc ++ s)) w8 by simpa [Lib.byteCells] using hb8)
            have HBel8 := Aside0.mk (HBel4.out.trans hk8.1)
            have hsz8 : w.heap.size + 1 ≤ w8.heap.size := Nat.le_trans hsz4 hk8.1.size
            clear hb8 hk8
            go_wp2
            go_roundg k1
            case measure => omega
            case rel =>
              refine ⟨i + 1, acc ++ s, v8, by omega, by go_num, hsz8, by simp only [List.length_append, List.length_cons, List.length_nil]; omega, Aside0.mk ?_, HB8, HBel8⟩
              rw [← HT.out, HE.out [] HSEP.out]
              simp [List.append_assoc]
          | true =>
            have hi2 : ((i : Int) - 1) < (l.length : Int) := by omega
            have hi3 : ((i : Int) - 1).toNat = i - 1 := by omega
            have HWI := Aside0.mk hwi
            clear hwi
            go_wp2_with fail
            refine (wordy_calls l[i - 1] _).mono ?_
            rintro e w5 ⟨rfl, hb5⟩
            have HBel5 := Aside0.mk (HBel4.out.trans (hb5.mono (by omega)))
            have HB5 := Aside0.mk (HB4.out.move fun k hk _ => hb5.block k hk)
            have hsz5 : w.heap.size + 1 ≤ w5.heap.size := Nat.le_trans hsz4 hb5.size
            clear hb5 r0 r1 r2 r3 hb'
            have hpr : ((l[i - 1]?).map (·.k)).getD 0 = l[i - 1].k := by rw [List.getElem?_eq_getElem (by omega)]; rfl
            cases hwp : wordy l[i - 1].k with
            | false =>
              have HSEP := Aside0.mk (show (if (decide (0 < i) && wordy (((l[i - 1]?).map (·.k)).getD 0)) && wordy l[i].k then ([32] : List UInt8) else []) = [] by rw [hpr, hwp]; simp)
              clear hwp hpr
              go_wp2_with fail
              refine (Write_calls (w.heap.size + 1) w.heap.size _ (Lib.byteCells acc) ⟨s.toArray⟩ _ HB5.out (by simp [Lib.byteCells, ByteArray.size]; omega) hsz5).mono ?_
              rintro e w8 ⟨rfl, v8, hb8, hk8⟩
              rw [strCells_list] at hb8
              have HB8 := Aside0.mk (show BAt (w.heap.size + 1) w.heap.size v8 (Lib.byteCells (acc ++ s)) w8 by simpa [Lib.byteCells] using hb8)
              have HBel8 := Aside0.mk (HBel5.out.trans hk8.1)
              have hsz8 : w.heap.size + 1 ≤ w8.heap.size := Nat.le_trans hsz5 hk8.1.size
              clear hb8 hk8
              go_wp2
              go_roundg k1
              case measure => omega
              case rel =>
                refine ⟨i + 1, acc ++ s, v8, by omega, by go_num, hsz8, by simp only [List.length_append, List.length_cons, List.length_nil]; omega, Aside0.mk ?_, HB8, HBel8⟩
                rw [← HT.out, HE.out [] HSEP.out]
                simp [List.append_assoc]
            | true =>
              have HSEP := Aside0.mk (show (if (decide (0 < i) && wordy (((l[i - 1]?).map (·.k)).getD 0)) && wordy l[i].k then ([32] : List UInt8) else []) = [32] by rw [hpr, hwp, HWI.out]; simp; omega)
              clear hwp hpr
              go_wp2_with fail
              refine (WriteByte_calls (w.heap.size + 1) w.heap.size _ (Lib.byteCells acc) 32 _ HB5.out (by simp [Lib.byteCells]; omega) hsz5).mono ?_
              rintro e w6 ⟨rfl, v6, hb6, hk6⟩
              rw [byteCells_snoc] at hb6
              have HB6 := Aside0.mk hb6
              have HBel6 := Aside0.mk (HBel5.out.trans hk6.1)
              have hsz6 : w.heap.size + 1 ≤ w6.heap.size := Nat.le_trans hsz5 hk6.1.size
              clear hb6 hk6
              go_wp2_with fail
              refine (Write_calls (w.heap.size + 1) w.heap.size _ (Lib.byteCells (acc ++ [32])) ⟨s.toArray⟩ _ HB6.out (by simp [Lib.byteCells, ByteArray.size]; omega) hsz6).mono ?_
              rintro e w8 ⟨rfl, v8, hb8, hk8⟩
              rw [strCells_list] at hb8
              have HB8 := Aside0.mk (show BAt (w.heap.size + 1) w.heap.size v8 (Lib.byteCells ((acc ++ [32]) ++ s)) w8 by simpa [Lib.byteCells] using hb8)
              have HBel8 := Aside0.mk (HBel6.out.trans hk8.1)
              have hsz8 : w.heap.size + 1 ≤ w8.heap.size := Nat.le_trans hsz6 hk8.1.size
              clear hb8 hk8
              go_wp2
              go_roundg k1
              case measure => omega
              case rel =>
                refine ⟨i + 1, (acc ++ [32]) ++ s, v8, by omega, by go_num, hsz8, by simp only [List.length_append, List.length_cons, List.length_nil]; omega, Aside0.mk ?_, HB8, HBel8⟩
                rw [← HT.out, HE.out [32] HSEP.out]
end Go.Proofs.YtidkjiglmfhjpaaDoor.Lx
