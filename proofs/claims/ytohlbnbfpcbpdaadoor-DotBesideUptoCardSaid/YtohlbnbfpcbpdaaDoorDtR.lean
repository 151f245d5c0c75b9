/- dot: Read: the walk. -/
import Derived.Test.YtohlbnbfpcbpdaaDoorDtE
set_option linter.unusedVariables false
set_option linter.unusedSimpArgs false
namespace Go.Proofs.YtohlbnbfpcbpdaaDoor.Dt
open Go.RowKit Go.Proofs.YtohlbnbfpcbpdaaDoorW.PrintWords Go.Proofs.YtohlbnbfpcbpdaaDoorW.PrintLast Go.Proofs.YtohlbnbfpcbpdaaDoorW.PrintMore
open Go.Proofs.YtohlbnbfpcbpdaaDoor.Lx

theorem EdgePost.get {names : List (List UInt8)} {x : List UInt8} {e : Ending} (h : EdgePost names x e) : ∃ d o, e = .returned (.tuple #[edV d, .bool o]) ∧ (edgeD names x = if o = true then some d else none) := by
  cases hx : edgeD names x with
  | some p => exact ⟨p, true, h.1 _ hx, rfl⟩
  | none =>
    obtain ⟨d, hn⟩ := h.2 hx
    exact ⟨d, false, hn, rfl⟩
def edCs (l : List Ed) : List Value := l.flatMap fun e => [.int .i64 e.f, .int .i64 e.t, .int .i64 e.k, .int .i64 e.y]
theorem edCs_snoc (l : List Ed) (e : Ed) : edCs l ++ [.int .i64 e.f, .int .i64 e.t, .int .i64 e.k, .int .i64 e.y] = edCs (l ++ [e]) := by simp [edCs]
theorem infoEd : (Tryd.prog.info? 34).map (fun i => (i.zero, i.size, i.bytes)) = some (some (.agg #[.int .i64 0, .int .i64 0, .int .i64 0, .int .i64 0]), 4, 32) := by kernel_rfl
theorem bad3 : ∀ o1 o2 a b : Bool, ¬ ((o1 && o2) && (a || b)) = true → o1 = false ∨ (o1 = true ∧ o2 = false) ∨ (o1 = true ∧ o2 = true ∧ a = false ∧ b = false) := by decide
theorem own_base_le {w : World} {b b' n z : Nat} {e : TypeId} {v : Value} {xs : List Value} (h : w.ownsRow b e z v n xs) (hb : b' ≤ b) : w.ownsRow b' e z v n xs := by
  refine ⟨h.1, ?_⟩
  rcases h.2 with h | ⟨g, cap, cur, h1, h2, h3⟩
  · exact .inl h
  · exact .inr ⟨g, cap, cur, h1, Nat.le_trans hb h2, h3⟩
theorem own_ne {w : World} {b n z : Nat} {e : TypeId} {v : Value} {xs : List Value} (h : w.ownsRow b e z v n xs) {k : Nat} (hk : k < b) : some k ≠ v.ownBlock := fun q => by
  have := (h.lt k q.symm).1
  omega
theorem cut_snd_lt (s : List UInt8) : s ≠ [] → (Lib.cut s [10]).2.1.length < s.length := fun h => by
  unfold Lib.cut
  have : 0 < s.length := List.length_pos_iff.2 h
  split
  · simp only [List.length_drop, List.length_cons, List.length_nil]
    omega
  · simpa using this
/-- What is known in the loop of Read. -/
structure RI (w0 : World) (names : List (List UInt8)) (v : Value) (acc : List Ed) (w : World) : Prop where
  is : MapL.Is encS w w0.heap.size (bookL names)
  bel : Below w0.heap.size w0 w
  own : w.ownsRow (w0.heap.size + 1) 34 4 v acc.length (edCs acc)
/-- How Read ends. -/
def ReadPost (w : World) (L : List Ed) (c : Int) (e : Ending) (w' : World) : Prop := ∃ v, e = .returned (.tuple #[v, .int .i64 c]) ∧ w'.ownsRow w.heap.size 34 4 v L.length (edCs L) ∧ Below w.heap.size w w'
set_option maxRecDepth 100000 in
set_option maxHeartbeats 4000000 in
theorem Read_calls (names : List (List UInt8)) (s : List UInt8) (A : Option Addr) (c : Nat) (w : World) (hr : NRow w A names) (hl : names.length ≤ 1000000000000) (hn : ∀ n ∈ names, n.length ≤ 1000000000000) (hs : s.length < 4294967281) (hw : DW w) :
    Calls Tryd.prog 13 #[.slice A names.length c, .string ⟨s.toArray⟩] w (ReadPost w (readR names s).1 (readR names s).2) := by
  have HW := Aside0.mk hw
  have HB0 := book_calls names A c w hr hl hn
  have HB := Aside0.mk HB0
  clear hw HB0 hr
  obtain ⟨L, hL⟩ : ∃ L, L = (readR names s).1 := ⟨_, rfl⟩
  obtain ⟨C, hC⟩ : ∃ L, L = (readR names s).2 := ⟨_, rfl⟩
  rw [← hL, ← hC]
  have HR := Aside0.mk (show (L, C) = readR names s by rw [hL, hC])
  clear hL hC
  unfold readR at HR
  go_enter Tryd.func13, Tryd.ntmps13
  go_wp2_with fail
  refine HB.out.mono ?_
  rintro e w1 ⟨rfl, hm1, hb1⟩
  have HM1 := Aside0.mk hm1
  have HB1 := Aside0.mk hb1
  clear hm1 hb1
  by_cases q0 : wrongR names = 0
  · obtain ⟨hnd, hn32⟩ := wrongR_zero q0
    have HND := Aside0.mk hnd
    clear hn32 hnd
    rw [if_pos q0] at HR
    rw [q0]
    clear q0
    go_wp2_with fail
    refine (Tryd.strings_CutPrefix ⟨s.toArray⟩ ⟨#[100, 105, 103, 114, 97, 112, 104, 32, 104, 105, 115, 116, 111, 114, 121, 32, 123, 10]⟩ _).mono ?_
    rintro e w2 ⟨rfl, rfl⟩
    simp only [List.toList_toArray]
    have hx1 : (Lib.trimPrefix s hd).length ≤ s.length := trimP_len _ _
    obtain ⟨r1, hr1⟩ : ∃ c, c = Lib.trimPrefix s hd := ⟨_, rfl⟩
    obtain ⟨o1, ho1⟩ : ∃ c, c = Lib.hasPrefix s hd := ⟨_, rfl⟩
    rw [← hr1, ← ho1] at HR
    rw [← hr1] at hx1
    unfold hd at hr1 ho1
    rw [← hr1, ← ho1]
    clear hr1 ho1
    go_wp2_with fail
    refine (Tryd.strings_CutSuffix ⟨r1.toArray⟩ ⟨#[125, 10]⟩ _ (show (ByteArray.mk r1.toArray).size ≤ 9223372036854775807 from by show r1.length ≤ _; omega)).mono ?_
    rintro e w2 ⟨rfl, rfl⟩
    simp only [List.toList_toArray]
    have hx2 : (Lib.trimSuffix r1 tl).length ≤ s.length := Nat.le_trans (trimS_len _ _) hx1
    obtain ⟨r2, hr2⟩ : ∃ c, c = Lib.trimSuffix r1 tl := ⟨_, rfl⟩
    obtain ⟨o2, ho2⟩ : ∃ c, c = Lib.hasSuffix r1 tl := ⟨_, rfl⟩
    rw [← hr2, ← ho2] at HR
    rw [← hr2] at hx2
    unfold tl at hr2 ho2
    rw [← hr2, ← ho2]
    clear hr2 ho2
    have BAD : ∀ w' : World, (L, C) = (([] : List Ed), (230 : Int)) → Below w.heap.size w w' → ReadPost w L C (.returned (.tuple #[.slice none 0 0, .int .i64 230])) w' := fun w' h hb => by
      cases h
      exact ⟨_, rfl, World.ownsRow_nil _ _ _ _, hb⟩
    have HBAD := Aside0.mk BAD
    clear BAD
    have hK : ∀ b : Bool, b = true ∨ b = false := fun b => by cases b <;> simp
    by_cases hall : ((o1 && o2) && (r2 == [] || Lib.hasSuffix r2 [10])) = true
    · rw [if_pos hall] at HR
      have HR2 := Aside0.mk (show (L, C) = match bodyD names (s.length + 1) r2 [] with
        | none => (([] : List Ed), (230 : Int))
        | some l => (l, 0) from HR.out)
      clear HR
      have HLEN := Aside0.mk (show r2.length < s.length + 1 by omega)
      simp only [Bool.and_eq_true, Bool.or_eq_true] at hall
      obtain ⟨⟨rfl, rfl⟩, hsx⟩ := hall
      by_cases q : r2 = []
      · subst q
        obtain ⟨rfl, rfl⟩ : L = [] ∧ C = 0 := by
          have := HR2.out
          rw [bodyD, if_pos rfl] at this
          simpa using this
        clear HR2 hsx HLEN
        have HBD := Aside0.mk HB1.out
        go_wp2_with fail
        go_loopg [8, 11] 1 (fun kq v8 v11 wx => v8 = .string ⟨#[]⟩ ∧ v11 = .slice none 0 0 ∧ Aside0 (wx = w2))
        case atStart => exact ⟨rfl, rfl, Aside0.mk rfl⟩
        case round =>
          obtain ⟨rfl, rfl, HWW⟩ := hrel
          go_wp2_with fail
          go_ret2
          rw [HWW.out]
          exact ⟨_, rfl, World.ownsRow_nil _ _ _ _, HBD.out⟩
      · have hsx' : Lib.hasSuffix r2 [10] = true := hsx.resolve_left (by simpa using q)
        have HSX := Aside0.mk hsx'
        have hq1 : (r2 == []) = false := beq_eq_false_iff_ne.2 q
        clear q hsx hsx'
        go_wp2_with fail
        refine (Tryd.strings_HasSuffix ⟨r2.toArray⟩ ⟨#[10]⟩ _ (show (ByteArray.mk r2.toArray).size ≤ 9223372036854775807 from by show r2.length ≤ _; omega)).mono ?_
        rintro e w2 ⟨rfl, rfl⟩
        simp only [List.toList_toArray]
        rw [HSX.out]
        clear HSX hq1
        have HI0 := Aside0.mk (show RI w names (.slice none 0 0) [] w2 from ⟨HM1.out, HB1.out, World.ownsRow_nil _ _ _ _⟩)
        go_wp2_with fail
        go_loopg [8, 11] (s.length + 1) (fun kq v8 v11 w2 => ∃ (rest : List UInt8) (acc : List Ed), rest.length < kq ∧ kq ≤ s.length + 1 ∧ v8 = .string ⟨rest.toArray⟩ ∧ Aside0 (RI w names v11 acc w2) ∧ Aside0 (acc.length ≤ 262144 ∧ (L, C) = match bodyD names kq rest acc with
          | none => (([] : List Ed), (230 : Int))
          | some l => (l, 0)))
        case atStart => exact ⟨r2, [], HLEN.out, Nat.le_refl _, rfl, HI0, Aside0.mk ⟨by simp, HR2.out⟩⟩
        case round =>
          clear HI0 HR2 HLEN
          obtain ⟨rest, acc, hf, hks, rfl, HI, HV⟩ := hrel
          cases gk with
          | zero => omega
          | succ k1 =>
            rw [bodyD] at HV
            obtain ⟨A1, c1, rfl⟩ := own_slice HI.out.own
            by_cases q : rest = []
            · subst q
              obtain ⟨rfl, rfl⟩ : L = acc ∧ C = 0 := by
                have := HV.out.2
                rw [if_pos rfl] at this
                simpa using this
              go_wp2_with fail
              go_ret2
              exact ⟨_, rfl, own_base_le HI.out.own (by omega), HI.out.bel⟩
            · have hq1 : (rest == []) = false := beq_eq_false_iff_ne.2 q
              rw [if_neg q] at HV
              have HCM := Aside0.mk (cut_snd_lt rest q)
              clear q
              obtain ⟨m, hml⟩ := (HW.out.below HI.out.bel).ml
              have HML := Aside0.mk hml
              clear hml
              have hcl := cut_len rest [10]
              go_wp2_with fail
              refine (Tryd.strings_Cut ⟨rest.toArray⟩ ⟨#[10]⟩ m _ (show (ByteArray.mk rest.toArray).size < 4294967281 from by show rest.length < _; omega) HML.out).mono ?_
              rintro e w3 ⟨rfl, n3, rfl⟩
              simp only [List.toList_toArray]
              obtain ⟨⟨x1, x2, x3⟩, hc⟩ : ∃ c, c = Lib.cut rest [10] := ⟨_, rfl⟩
              rw [← hc] at HV HCM hcl ⊢
              clear hc HML
              simp only at HV HCM hcl ⊢
              have HI3 := Aside0.mk (show RI w names (.slice A1 acc.length c1) acc (wr.drewN n3) from ⟨HI.out.is.drewN n3, pw_below_drewN HI.out.bel n3, own_move HI.out.own (fun k hk => rfl)⟩)
              clear HI
              go_wp2_with fail
              refine (edge_calls names x1 w.heap.size _ HI3.out.is HND.out (by omega) (HW.out.below HI3.out.bel)).mono ?_
              rintro e w4 ⟨hb4, he4⟩
              obtain ⟨d, o, rfl, hd4⟩ := he4.get
              rw [hd4] at HV
              have HI4 := Aside0.mk (show RI w names (.slice A1 acc.length c1) acc w4 from ⟨HI3.out.is.same (hb4.block _ HI3.out.is.lt), HI3.out.bel.trans (hb4.mono HI3.out.bel.size), own_move HI3.out.own (fun k hk => hb4.block k (own_lt HI3.out.own k hk))⟩)
              clear hb4 he4 hd4 HI3
              have hlt4 : w.heap.size < w4.heap.size := HI4.out.is.lt
              cases o with
              | false =>
                have HV2 := Aside0.mk (HBAD.out · HV.out.2 ·)
                clear HV
                unfold edV
                go_wp2_with fail
                go_ret2
                exact HV2.out _ (HI4.out.bel.alloc (Nat.le_of_lt hlt4) _)
              | true =>
                rw [if_pos rfl] at HV
                by_cases q2 : acc.length = 262144
                · have HV2 := Aside0.mk (HBAD.out · (by have := HV.out.2; simp only [if_pos q2] at this; exact this) ·)
                  have hq2 : ((acc.length : Int) == 262144) = true := by simp; omega
                  clear HV q2
                  unfold edV
                  go_wp2_with fail
                  go_ret2
                  exact HV2.out _ (HI4.out.bel.alloc (Nat.le_of_lt hlt4) _)
                · have HV2 := Aside0.mk (show (L, C) = match bodyD names k1 x2 (acc ++ [d]) with
                    | none => (([] : List Ed), (230 : Int))
                    | some l => (l, 0) by have := HV.out.2; simp only [if_neg q2] at this; exact this)
                  have hq2 : ((acc.length : Int) == 262144) = false := by simp; omega
                  have ha : acc.length < 262144 := by have := HV.out.1; omega
                  clear HV q2
                  have hz4 : w.heap.size + 1 ≤ w4.heap.size := hlt4
                  obtain ⟨i0, hi, hz0, hz1, hz2⟩ := info_parts infoEd
                  unfold edV
                  go_wp2_with (at_builtin; refine wpList_append_own _ rfl (.tmp 69) (.tmp 71) 23 rfl (w.heap.size + 1) 34 i0 (.agg #[.int .i64 0, .int .i64 0, .int .i64 0, .int .i64 0]) 4 32 Tryd.underlying23 hi hz0 hz1 hz2 rfl (by decide) (.slice A1 acc.length c1) acc.length (edCs acc) rfl ((HI4.out.own.alloc _).alloc _) ⟨w4.heap.size + 1, 0, none⟩ 1 1 [.int .i64 d.f, .int .i64 d.t, .int .i64 d.k, .int .i64 d.y] rfl rfl ?c1 (by simp [Value.oneCell']) (by simp only [maxLen]; omega) (by omega) (by simp; omega) ?_)
                  case c1 =>
                    intro j u hu
                    have e : (⟨w4.heap.size + 1, 0, none⟩ : Addr).add j = ⟨w4.heap.size + 1, j, none⟩ := by
                      simp [Addr.add]
                      try omega
                    rw [e]
                    have hnew := blk_new (w4.alloc (.cells #[.int .i64 d.f, .int .i64 d.t, .int .i64 d.k, .int .i64 d.y] 34)) (.cells #[.int .i64 d.f, .int .i64 d.t, .int .i64 d.k, .int .i64 d.y] 34)
                    rw [show (w4.alloc (.cells #[.int .i64 d.f, .int .i64 d.t, .int .i64 d.k, .int .i64 d.y] 34)).heap.size = w4.heap.size + 1 by simp] at hnew
                    rw [blk_cell hnew j]
                    simpa using hu
                  intro v' w5 hown' hgrow _
                  rw [edCs_snoc] at hown'
                  have HI5 := Aside0.mk (show RI w names v' (acc ++ [d]) w5 from ⟨by
                    refine ((HI4.out.is.alloc _).alloc _).same (hgrow.block _ (by simp; omega) (own_ne HI4.out.own (by omega))), ((HI4.out.bel.alloc (by omega) _).alloc (by simp; omega) _).grown hgrow (by simp; omega) (fun k hk => by have := (HI4.out.own.lt k hk).1; omega), by rw [List.length_append]; exact hown'⟩)
                  clear hown' hgrow HI4
                  go_wp2
                  go_roundg k1
                  case measure => omega
                  case rel => exact ⟨x2, acc ++ [d], by have := HCM.out; omega, by omega, rfl, HI5, Aside0.mk ⟨by rw [List.length_append]; simp; omega, HV2.out⟩⟩
    · rw [if_neg hall] at HR
      have hbad := bad3 _ _ _ _ hall
      clear hall
      rcases hbad with rfl | ⟨rfl, rfl⟩ | ⟨rfl, rfl, hq1, hq2⟩
      · go_wp2_with fail
        go_ret2
        exact HBAD.out _ HR.out HB1.out
      · go_wp2_with fail
        go_ret2
        exact HBAD.out _ HR.out HB1.out
      · have hq3 : (r2 != []) = true := by rw [bne, hq1]; rfl
        have HQ2 := Aside0.mk hq2
        clear hq2
        go_wp2_with fail
        refine (Tryd.strings_HasSuffix ⟨r2.toArray⟩ ⟨#[10]⟩ _ (show (ByteArray.mk r2.toArray).size ≤ 9223372036854775807 from by show r2.length ≤ _; omega)).mono ?_
        rintro e w2 ⟨rfl, rfl⟩
        simp only [List.toList_toArray]
        rw [HQ2.out]
        go_wp2_with fail
        go_ret2
        exact HBAD.out _ HR.out HB1.out
  · rw [if_neg q0] at HR
    have hq : (wrongR names == 0) = false := beq_eq_false_iff_ne.2 q0
    obtain ⟨rfl, rfl⟩ : L = [] ∧ C = wrongR names := by have := HR.out; simpa using this
    clear q0
    go_wp2_with fail
    go_ret2
    exact ⟨_, rfl, World.ownsRow_nil _ _ _ _, HB1.out⟩
end Go.Proofs.YtohlbnbfpcbpdaaDoor.Dt
