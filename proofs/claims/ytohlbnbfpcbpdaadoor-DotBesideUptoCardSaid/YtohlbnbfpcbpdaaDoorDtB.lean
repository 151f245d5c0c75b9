/- dot: book, and the reference's wrong: the walks. -/
import Derived.Test.YtohlbnbfpcbpdaaDoorDtD
import Derived.Test.YtohlbnbfpcbpdaaDoorMapL
import Derived.Test.YtohlbnbfpcbpdaaDoorWMore
set_option linter.unusedVariables false
set_option linter.unusedSimpArgs false
namespace Go.Proofs.YtohlbnbfpcbpdaaDoor.Dt
open Go.RowKit Go.Proofs.YtohlbnbfpcbpdaaDoorW.PrintWords Go.Proofs.YtohlbnbfpcbpdaaDoorW.PrintLast Go.Proofs.YtohlbnbfpcbpdaaDoorW.PrintMore
open Go.Proofs.YtohlbnbfpcbpdaaDoor.Lx

/-- A text, as the machine holds it. -/
def encS (l : List UInt8) : Value := .string ⟨l.toArray⟩
theorem keyed_S : MapL.Keyed .string encS :=
  ⟨fun k => by simp [encS, MapKept.IsKey], fun a b => by
    simp only [Instr.sameNow, encS]
    congr 1
    rw [Bool.eq_iff_iff, decide_eq_true_eq, MapKept.bytes_beq]
    simp, fun a => by simp [encS, Instr.sameBits, MapKept.bytes_beq]⟩
theorem cellB {w w' : World} {a : Addr} {v : Value} (hb : Below w.heap.size w w') (h : w.cell? a = some v) : w'.cell? a = some v := (hb.cell (World.block_lt_of_cell? w _ h)).trans h
/-- A row of texts that is read. -/
def NRow (w : World) (A : Option Addr) (l : List (List UInt8)) : Prop := ∀ i (hi : i < l.length), ∃ ad, A = some ad ∧ (ad.add i).block < w.heap.size ∧ w.cell? (ad.add i) = some (encS l[i])
theorem NRow.below {w w' : World} {A : Option Addr} {l : List (List UInt8)} (h : NRow w A l) (hb : Below w.heap.size w w') : NRow w' A l := fun i hi => by
  obtain ⟨ad, h0, h1, h2⟩ := h i hi
  exact ⟨ad, h0, Nat.lt_of_lt_of_le h1 hb.size, cellB hb h2⟩
/-- The book of the first k names. -/
def bookTo (l : List (List UInt8)) : Nat → List (List UInt8 × Value)
  | 0 => []
  | k + 1 => MapL.put (l.getD k []) (.int .i64 k) (bookTo l k)
def bookL (l : List (List UInt8)) : List (List UInt8 × Value) := bookTo l l.length
def longTo (l : List (List UInt8)) (k : Nat) : Bool := (l.take k).any fun n => decide (32 < n.length)
theorem take_snoc (l : List (List UInt8)) (k : Nat) (h : k < l.length) : l.take (k + 1) = l.take k ++ [l.getD k []] := by
  rw [List.take_succ_eq_append_getElem h, List.getD_eq_getElem?_getD, List.getElem?_eq_getElem h]
  rfl
theorem look_put_if (k k' : List UInt8) (v : Value) (l : List (List UInt8 × Value)) : MapL.look k' (MapL.put k v l) = if k' = k then some v else MapL.look k' l := by
  by_cases h : k' = k
  · rw [if_pos h, h, MapL.look_put]
  · rw [if_neg h, MapL.look_put_ne h]
theorem bookTo_has (l : List (List UInt8)) : ∀ k, k ≤ l.length → ∀ n, (MapL.look n (bookTo l k)).isSome = decide (n ∈ l.take k)
  | 0, _, n => by simp [bookTo, MapL.look]
  | k + 1, h, n => by
    rw [bookTo, look_put_if, take_snoc l k (by omega), apply_ite Option.isSome, bookTo_has l k (by omega)]
    by_cases hn : n = l.getD k []
    · rw [if_pos hn]
      simp [hn]
    · rw [if_neg hn]
      have : (n ∈ l.take k ++ [l.getD k []]) ↔ n ∈ l.take k := by rw [List.mem_append, List.mem_singleton]; exact or_iff_left hn
      rw [decide_eq_decide.2 this]
theorem bookTo_len (l : List (List UInt8)) : ∀ k, k ≤ l.length → (bookTo l k).length ≤ k ∧ ((bookTo l k).length = k ↔ (l.take k).Nodup)
  | 0, _ => by simp [bookTo]
  | k + 1, h => by
    obtain ⟨h1, h2⟩ := bookTo_len l k (by omega)
    have hs := bookTo_has l k (by omega) (l.getD k [])
    rw [bookTo, MapL.length_put, take_snoc l k (by omega), List.nodup_append]
    by_cases hn : l.getD k [] ∈ l.take k
    · have : MapL.look (l.getD k []) (bookTo l k) ≠ none := by
        rw [decide_eq_true hn] at hs
        intro e
        rw [e] at hs
        cases hs
      rw [if_neg this]
      refine ⟨by omega, ⟨fun e => by omega, fun e => absurd rfl (e.2.2 _ hn (l.getD k []) (by simp))⟩⟩
    · have : MapL.look (l.getD k []) (bookTo l k) = none := by
        rw [decide_eq_false hn] at hs
        simpa using hs
      rw [if_pos this]
      refine ⟨by omega, ⟨fun e => ⟨h2.1 (by omega), by simp, fun a ha b hb => by
        have : b = l.getD k [] := by simpa using hb
        rintro rfl
        exact hn (this ▸ ha)⟩, fun e => by rw [h2.2 e.1]⟩⟩
theorem bookTo_look (l : List (List UInt8)) (hn : l.Nodup) (n : List UInt8) : ∀ k, k ≤ l.length → MapL.look n (bookTo l k) = if n ∈ l.take k then some (.int .i64 (l.idxOf n : Nat)) else none
  | 0, _ => by simp [bookTo, MapL.look]
  | k + 1, h => by
    rw [bookTo, look_put_if, take_snoc l k (by omega), bookTo_look l hn n k (by omega)]
    have hk : l.getD k [] = l[k] := by rw [List.getD_eq_getElem?_getD, List.getElem?_eq_getElem (by omega)]; rfl
    by_cases e : n = l.getD k []
    · rw [if_pos e, if_pos (by simp [e]), e, hk, hn.idxOf_getElem k (by omega)]
    · rw [if_neg e]
      by_cases hm : n ∈ l.take k
      · rw [if_pos hm, if_pos (by simp [hm])]
      · rw [if_neg hm, if_neg (by rw [List.mem_append, List.mem_singleton]; exact fun h => h.elim hm e)]
theorem bookL_look (l : List (List UInt8)) (hn : l.Nodup) (n : List UInt8) : MapL.look n (bookL l) = if n ∈ l then some (.int .i64 (l.idxOf n : Nat)) else none := by
  have := bookTo_look l hn n l.length (Nat.le_refl _)
  rwa [List.take_length] at this
theorem longTo_succ (l : List (List UInt8)) (k : Nat) (h : k < l.length) : longTo l (k + 1) = (longTo l k || decide (32 < (l.getD k []).length)) := by
  unfold longTo
  rw [take_snoc l k h, List.any_append]
  simp
theorem wrongR_book (l : List (List UInt8)) : wrongR l = if (bookL l).length = l.length then (if longTo l l.length = true then 2 else 0) else 3 := by
  have h1 := (bookTo_len l l.length (Nat.le_refl _)).2
  rw [List.take_length] at h1
  unfold wrongR bookL
  have h2 : longTo l l.length = true ↔ ∃ n ∈ l, 32 < n.length := by
    unfold longTo
    rw [List.take_length, List.any_eq_true]
    simp
  by_cases q : l.Nodup
  · rw [if_pos q, if_pos (h1.2 q)]
    by_cases q2 : ∃ n ∈ l, 32 < n.length
    · rw [if_pos q2, if_pos (h2.2 q2)]
    · rw [if_neg q2, if_neg (fun h => q2 (h2.1 h))]
  · rw [if_neg q, if_neg (fun h => q (h1.1 h))]

/-- What is known in the loop. -/
structure BI (w0 : World) (l : List (List UInt8)) (k : Nat) (w : World) : Prop where
  is : MapL.Is encS w w0.heap.size (bookTo l k)
  bel : Below w0.heap.size w0 w
set_option maxRecDepth 100000 in
set_option maxHeartbeats 2000000 in
theorem book_calls (l : List (List UInt8)) (A : Option Addr) (c : Nat) (w : World) (hr : NRow w A l) (hl : l.length ≤ 1000000000000) (hn : ∀ n ∈ l, n.length ≤ 1000000000000) :
    Calls Tryd.prog 15 #[.slice A l.length c] w fun e w' => e = .returned (.tuple #[.map (some w.heap.size), .int .i64 (wrongR l)]) ∧ MapL.Is encS w' w.heap.size (bookL l) ∧ Below w.heap.size w w' := by
  have HR := Aside0.mk hr
  have HN := Aside0.mk hn
  have HW := Aside0.mk (wrongR_book l)
  clear hr hn
  obtain ⟨r, hrr⟩ : ∃ r, r = wrongR l := ⟨_, rfl⟩
  rw [← hrr]
  have HRR := Aside0.mk hrr
  clear hrr
  go_enter Tryd.func15, Tryd.ntmps15
  have hmm := @run_makeMap Tryd.prog
  go_wp2
  clear hmm
  go_loopg [5, 11] l.length (fun kq v5 v11 w2 => ∃ k : Nat, k + kq = l.length ∧ v11 = .int .i64 k ∧ v5 = .int .i64 (if longTo l k = true then 2 else 0) ∧ Aside0 (BI w l k w2))
  case atStart => exact ⟨0, by omega, rfl, rfl, Aside0.mk ⟨MapL.Is.made _ _, (Below.refl _ _).alloc (Nat.le_refl _) _⟩⟩
  case round =>
    obtain ⟨k, hk, rfl, rfl, HB⟩ := hrel
    generalize hE : (if longTo l k = true then (2 : Int) else 0) = E
    have HE := Aside0.mk hE
    clear hE
    cases gk with
    | zero =>
      have hge : ¬ ((k : Nat) : Int) < (l.length : Int) := by omega
      obtain rfl : k = l.length := by omega
      have HM := Aside0.mk HB.out.is
      by_cases q : (bookTo l l.length).length = l.length
      · have hb : (((bookTo l l.length).length : Int) != (l.length : Int)) = false := by simp [q]
        have HQ := Aside0.mk q
        clear q
        go_wp2_with (refine MapL.wp_len _ rfl (.tmp 23) _ rfl _ _ Tryd.underlying36 w.heap.size _ rfl HM.out ?_)
        go_ret2
        refine ⟨?_, HM.out, HB.out.bel⟩
        rw [HRR.out, HW.out, ← HE.out]
        unfold bookL
        rw [if_pos HQ.out]
        rfl
      · have hb : (((bookTo l l.length).length : Int) != (l.length : Int)) = true := by simp; omega
        have HQ := Aside0.mk q
        clear q
        go_wp2_with (refine MapL.wp_len _ rfl (.tmp 23) _ rfl _ _ Tryd.underlying36 w.heap.size _ rfl HM.out ?_)
        go_ret2
        refine ⟨?_, HM.out, HB.out.bel⟩
        rw [HRR.out, HW.out]
        unfold bookL
        rw [if_neg HQ.out]
        rfl
    | succ k1 =>
      have hlt : k < l.length := by omega
      have hltz : ((k : Nat) : Int) < (l.length : Int) := by omega
      obtain ⟨ad, rfl, hb, r0⟩ := HR.out.below HB.out.bel k hlt
      have hnl := HN.out l[k] (List.getElem_mem hlt)
      have HM := Aside0.mk HB.out.is
      have HLS := Aside0.mk (longTo_succ l k hlt)
      have hk : l.getD k [] = l[k] := by rw [List.getD_eq_getElem?_getD, List.getElem?_eq_getElem hlt]; rfl
      have HK := Aside0.mk hk
      clear hk
      unfold encS at r0
      have NEXT : ∀ w4, MapL.Is encS w4 w.heap.size (MapL.put l[k] (.int .i64 k) (bookTo l k)) → wr.grownBy w4 (some w.heap.size) → BI w l (k + 1) w4 := fun w4 h1 h2 =>
        ⟨by rw [bookTo, HK.out]; exact h1, HB.out.bel.grown h2 HB.out.bel.size (fun b e => by cases e; exact Nat.le_refl _)⟩
      have HNX := Aside0.mk NEXT
      clear NEXT
      by_cases q : 32 < l[k].length
      · have HV := Aside0.mk (show (if longTo l (k + 1) = true then (2 : Int) else 0) = 2 by rw [HLS.out, HK.out, decide_eq_true q, Bool.or_true]; rfl)
        go_wp2_with (refine MapL.wp_update _ rfl (.tmp 16) (.tmp 17) (.tmp 18) _ rfl _ _ keyed_S Tryd.underlying36 Tryd.underlying9 w.heap.size _ rfl HM.out l[k] (.int .i64 k) (by rfl) (by rfl) ?_; intro w4 hm4 hg4; replace hm4 := Aside0.mk hm4; replace hg4 := Aside0.mk hg4)
        go_roundg k1
        case measure => omega
        case rel => exact ⟨k + 1, by omega, by go_num, by rw [HV.out], Aside0.mk (HNX.out _ hm4.out hg4.out)⟩
      · have HV := Aside0.mk (show (if longTo l (k + 1) = true then (2 : Int) else 0) = E by rw [HLS.out, HK.out, decide_eq_false q, Bool.or_false]; exact HE.out)
        go_wp2_with (refine MapL.wp_update _ rfl (.tmp 16) (.tmp 17) (.tmp 18) _ rfl _ _ keyed_S Tryd.underlying36 Tryd.underlying9 w.heap.size _ rfl HM.out l[k] (.int .i64 k) (by rfl) (by rfl) ?_; intro w4 hm4 hg4; replace hm4 := Aside0.mk hm4; replace hg4 := Aside0.mk hg4)
        go_roundg k1
        case measure => omega
        case rel => exact ⟨k + 1, by omega, by go_num, by rw [HV.out], Aside0.mk (HNX.out _ hm4.out hg4.out)⟩
/-- What the reference has seen. -/
def seenTo (l : List (List UInt8)) : Nat → List (List UInt8 × Value)
  | 0 => []
  | k + 1 => MapL.put (l.getD k []) (.int .i64 1) (seenTo l k)
theorem seenTo_look (l : List (List UInt8)) (n : List UInt8) : ∀ k, k ≤ l.length → MapL.look n (seenTo l k) = if n ∈ l.take k then some (.int .i64 1) else none
  | 0, _ => by simp [seenTo, MapL.look]
  | k + 1, h => by
    rw [seenTo, look_put_if, take_snoc l k (by omega), seenTo_look l n k (by omega)]
    by_cases e : n = l.getD k []
    · rw [if_pos e, if_pos (by simp [e])]
    · rw [if_neg e]
      by_cases hm : n ∈ l.take k
      · rw [if_pos hm, if_pos (by simp [hm])]
      · rw [if_neg hm, if_neg (by rw [List.mem_append, List.mem_singleton]; exact fun h => h.elim hm e)]
theorem nodup_step (l : List (List UInt8)) (k : Nat) (h : k < l.length) (hn : (l.take k).Nodup) (hm : l.getD k [] ∉ l.take k) : (l.take (k + 1)).Nodup := by
  rw [take_snoc l k h, List.nodup_append]
  refine ⟨hn, by simp, fun a ha b hb => ?_⟩
  have : b = l.getD k [] := by simpa using hb
  rintro rfl
  exact hm (this ▸ ha)
theorem not_nodup (l : List (List UInt8)) (k : Nat) (h : k < l.length) (hm : l.getD k [] ∈ l.take k) : ¬ l.Nodup := by
  intro hn
  have h2 : (l.take (k + 1)).Nodup := hn.sublist (List.take_sublist _ _)
  rw [take_snoc l k h, List.nodup_append] at h2
  exact h2.2.2 _ hm (l.getD k []) (by simp) rfl
structure SI (w0 : World) (l : List (List UInt8)) (k : Nat) (w : World) : Prop where
  is : MapL.Is encS w w0.heap.size (seenTo l k)
  bel : Below w0.heap.size w0 w
  nd : (l.take k).Nodup
theorem zero_int (w : World) : (zeroValue 3).run Tryd.prog w = .ok (.int .i64 0) w := by kernel_rfl
set_option maxRecDepth 100000 in
set_option maxHeartbeats 2000000 in
theorem wrong_calls (l : List (List UInt8)) (A : Option Addr) (c : Nat) (w : World) (hr : NRow w A l) (hl : l.length ≤ 1000000000000) (hn : ∀ n ∈ l, n.length ≤ 1000000000000) :
    Calls Tryd.prog 23 #[.slice A l.length c] w fun e w' => e = .returned (.int .i64 (wrongR l)) ∧ Below w.heap.size w w' := by
  have HR := Aside0.mk hr
  have HN := Aside0.mk hn
  clear hr hn
  obtain ⟨r, hrr⟩ : ∃ r, r = wrongR l := ⟨_, rfl⟩
  rw [← hrr]
  have HRR := Aside0.mk hrr
  clear hrr
  go_enter Tryd.func23, Tryd.ntmps23
  have hmm := @run_makeMap Tryd.prog
  go_wp2
  clear hmm
  go_loopg [4] l.length (fun kq v4 w2 => ∃ k : Nat, k + kq = l.length ∧ v4 = .int .i64 k ∧ Aside0 (SI w l k w2))
  case atStart => exact ⟨0, by omega, rfl, Aside0.mk ⟨MapL.Is.made _ _, (Below.refl _ _).alloc (Nat.le_refl _) _, by simp⟩⟩
  case round =>
    obtain ⟨k, hk, rfl, HB⟩ := hrel
    cases gk with
    | zero =>
      have hge : ¬ ((k : Nat) : Int) < (l.length : Int) := by omega
      obtain rfl : k = l.length := by omega
      have HND := Aside0.mk (show l.Nodup by have := HB.out.nd; rwa [List.take_length] at this)
      have HBel := Aside0.mk HB.out.bel
      clear HB
      go_wp2
      go_loopg [5] l.length (fun kq v5 w2 => ∃ k : Nat, k + kq = l.length ∧ v5 = .int .i64 k ∧ Aside0 (Below w.heap.size w w2 ∧ ∀ n ∈ l.take k, n.length ≤ 32))
      case atStart => exact ⟨0, by omega, rfl, Aside0.mk ⟨HBel.out, by simp⟩⟩
      case round =>
        obtain ⟨k, hk, rfl, HB⟩ := hrel
        cases gk with
        | zero =>
          have hge2 : ¬ ((k : Nat) : Int) < (l.length : Int) := by omega
          obtain rfl : k = l.length := by omega
          go_wp2
          go_ret
          refine ⟨?_, HB.out.1⟩
          have h2 := HB.out.2
          rw [List.take_length] at h2
          rw [HRR.out, wrongR, if_pos HND.out, if_neg (fun ⟨n, h3, h4⟩ => by have := h2 n h3; omega)]
          rfl
        | succ k1 =>
          have hlt : k < l.length := by omega
          have hltz : ((k : Nat) : Int) < (l.length : Int) := by omega
          obtain ⟨ad, rfl, hb, r0⟩ := HR.out.below HB.out.1 k hlt
          unfold encS at r0
          have hnl := HN.out l[k] (List.getElem_mem hlt)
          by_cases q : 32 < l[k].length
          · have HQ := Aside0.mk q
            go_wp2
            go_ret
            exact ⟨by rw [HRR.out, wrongR, if_pos HND.out, if_pos ⟨_, List.getElem_mem hlt, HQ.out⟩]; rfl, HB.out.1⟩
          · have HQ := Aside0.mk q
            go_wp2
            go_roundg k1
            case measure => omega
            case rel => exact ⟨k + 1, by omega, by go_num, Aside0.mk ⟨HB.out.1, fun n hn => by
              rw [List.take_succ_eq_append_getElem hlt, List.mem_append, List.mem_singleton] at hn
              rcases hn with hn | rfl
              · exact HB.out.2 n hn
              · have := HQ.out; omega⟩⟩
    | succ k1 =>
      have hlt : k < l.length := by omega
      have hltz : ((k : Nat) : Int) < (l.length : Int) := by omega
      obtain ⟨ad, rfl, hb, r0⟩ := HR.out.below HB.out.bel k hlt
      have hnl := HN.out l[k] (List.getElem_mem hlt)
      have HM := Aside0.mk HB.out.is
      have hk : l.getD k [] = l[k] := by rw [List.getD_eq_getElem?_getD, List.getElem?_eq_getElem hlt]; rfl
      have HK := Aside0.mk hk
      clear hk
      unfold encS at r0
      have hlk := MapL.run_lookup HM.out keyed_S Tryd.underlying36 Tryd.underlying9 (zero_int _) l[k]
      unfold encS at hlk
      rw [seenTo_look l l[k] k (by omega)] at hlk
      by_cases q : l[k] ∈ l.take k
      · rw [if_pos q, Option.getD_some] at hlk
        have HQ := Aside0.mk q
        clear q
        go_wp2
        go_ret
        exact ⟨by rw [HRR.out, wrongR, if_neg (not_nodup l k hlt (by rw [HK.out]; exact HQ.out))]; rfl, HB.out.bel⟩
      · rw [if_neg q, Option.getD_none] at hlk
        have HQ := Aside0.mk q
        clear q
        go_wp2_with (refine MapL.wp_update _ rfl (.tmp 20) (.tmp 24) (.const (.int .i64 1)) _ rfl _ _ keyed_S Tryd.underlying36 Tryd.underlying9 w.heap.size _ rfl HM.out l[k] (.int .i64 1) (by rfl) (by rfl) ?_; intro w4 hm4 hg4; replace hm4 := Aside0.mk hm4; replace hg4 := Aside0.mk hg4)
        go_roundg k1
        case measure => omega
        case rel => exact ⟨k + 1, by omega, by go_num, Aside0.mk ⟨by rw [seenTo, HK.out]; exact hm4.out, HB.out.bel.grown hg4.out HB.out.bel.size (fun b e => by cases e; exact Nat.le_refl _), nodup_step l k hlt HB.out.nd (by rw [HK.out]; exact HQ.out)⟩⟩
end Go.Proofs.YtohlbnbfpcbpdaaDoor.Dt
