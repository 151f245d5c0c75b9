/- dot: book, and the reference's wrong: the walks. -/
import Derived.Test.YtohlbnbfpcbpdaaDoorDtD
import Derived.Test.YtohlbnbfpcbpdaaDoorMapL
import Derived.Test.YtohlbnbfpcbpdaaDoorWMore
import Derived.Test.YtohlbnbfpcbpdaaDoorShelf
import Derived.Lib.AtoiAllCases
import Derived.Lib.SmallJoins
import Derived.Test.YtohlbnbfpcbpdaaDoorDtP
set_option linter.unusedVariables false
set_option linter.unusedSimpArgs false
namespace Go.Proofs.YtohlbnbfpcbpdaaDoor.Dt
open Go.RowKit Go.Proofs.YtohlbnbfpcbpdaaDoorW.PrintWords Go.Proofs.YtohlbnbfpcbpdaaDoorW.PrintLast Go.Proofs.YtohlbnbfpcbpdaaDoorW.PrintMore
open Go.Proofs.YtohlbnbfpcbpdaaDoor.Lx

/-- A text, as the machine holds it. -/
def encS (l : List UInt8) : Value := .string ⟨l.toArray⟩
theorem keyed_S : MapL.Keyed .string encS :=
  ⟨fun k => by simp [encS, MapKept.IsKey], fun a b => by
    simp only [Instr.sameNow, encS]
    congr 1
    rw [Bool.eq_iff_iff, decide_eq_true_eq, MapKept.bytes_beq]
    simp, fun a => by simp [encS, Instr.sameBits, MapKept.bytes_beq]⟩
theorem cellB {w w' : World} {a : Addr} {v : Value} (hb : Below w.heap.size w w') (h : w.cell? a = some v) : w'.cell? a = some v := (hb.cell (World.block_lt_of_cell? w _ h)).trans h
/-- A row of texts that is read. -/
def NRow (w : World) (A : Option Addr) (l : List (List UInt8)) : Prop := ∀ i (hi : i < l.length), ∃ ad, A = some ad ∧ (ad.add i).block < w.heap.size ∧ w.cell? (ad.add i) = some (encS l[i])
theorem NRow.below {w w' : World} {A : Option Addr} {l : List (List UInt8)} (h : NRow w A l) (hb : Below w.heap.size w w') : NRow w' A l := fun i hi => by
  obtain ⟨ad, h0, h1, h2⟩ := h i hi
  exact ⟨ad, h0, Nat.lt_of_lt_of_le h1 hb.size, cellB hb h2⟩
/-- The book of the first k names. -/
def bookTo (l : List (List UInt8)) : Nat → List (List UInt8 × Value)
  | 0 => []
  | k + 1 => MapL.put (l.getD k []) (.int .i64 k) (bookTo l k)
def bookL (l : List (List UInt8)) : List (List UInt8 × Value) := bookTo l l.length
def longTo (l : List (List UInt8)) (k : Nat) : Bool := (l.take k).any fun n => decide (32 < n.length)
theorem take_snoc (l : List (List UInt8)) (k : Nat) (h : k < l.length) : l.take (k + 1) = l.take k ++ [l.getD k []] := by
  rw [List.take_succ_eq_append_getElem h, List.getD_eq_getElem?_getD, List.getElem?_eq_getElem h]
  rfl
theorem look_put_if (k k' : List UInt8) (v : Value) (l : List (List UInt8 × Value)) : MapL.look k' (MapL.put k v l) = if k' = k then some v else MapL.look k' l := by
  by_cases h : k' = k
  · rw [if_pos h, h, MapL.look_put]
  · rw [if_neg h, MapL.look_put_ne h]
theorem bookTo_has (l : List (List UInt8)) : ∀ k, k ≤ l.length → ∀ n, (MapL.look n (bookTo l k)).isSome = decide (n ∈ l.take k)
  | 0, _, n => by simp [bookTo, MapL.look]
  | k + 1, h, n => by
    rw [bookTo, look_put_if, take_snoc l k (by omega), apply_ite Option.isSome, bookTo_has l k (by omega)]
    by_cases hn : n = l.getD k []
    · rw [if_pos hn]
      simp [hn]
    · rw [if_neg hn]
      have : (n ∈ l.take k ++ [l.getD k []]) ↔ n ∈ l.take k := by rw [List.mem_append, List.mem_singleton]; exact or_iff_left hn
      rw [decide_eq_decide.2 this]
theorem bookTo_len (l : List (List UInt8)) : ∀ k, k ≤ l.length → (bookTo l k).length ≤ k ∧ ((bookTo l k).length = k ↔ (l.take k).Nodup)
  | 0, _ => by simp [bookTo]
  | k + 1, h => by
    obtain ⟨h1, h2⟩ := bookTo_len l k (by omega)
    have hs := bookTo_has l k (by omega) (l.getD k [])
    rw [bookTo, MapL.length_put, take_snoc l k (by omega), List.nodup_append]
    by_cases hn : l.getD k [] ∈ l.take k
    · have : MapL.look (l.getD k []) (bookTo l k) ≠ none := by
        rw [decide_eq_true hn] at hs
        intro e
        rw [e] at hs
        cases hs
      rw [if_neg this]
      refine ⟨by omega, ⟨fun e => by omega, fun e => absurd rfl (e.2.2 _ hn (l.getD k []) (by simp))⟩⟩
    · have : MapL.look (l.getD k []) (bookTo l k) = none := by
        rw [decide_eq_false hn] at hs
        simpa using hs
      rw [if_pos this]
      refine ⟨by omega, ⟨fun e => ⟨h2.1 (by omega), by simp, fun a ha b hb => by
        have : b = l.getD k [] := by simpa using hb
        rintro rfl
        exact hn (this ▸ ha)⟩, fun e => by rw [h2.2 e.1]⟩⟩
theorem bookTo_look (l : List (List UInt8)) (hn : l.Nodup) (n : List UInt8) : ∀ k, k ≤ l.length → MapL.look n (bookTo l k) = if n ∈ l.take k then some (.int .i64 (l.idxOf n : Nat)) else none
  | 0, _ => by simp [bookTo, MapL.look]
  | k + 1, h => by
    rw [bookTo, look_put_if, take_snoc l k (by omega), bookTo_look l hn n k (by omega)]
    have hk : l.getD k [] = l[k] := by rw [List.getD_eq_getElem?_getD, List.getElem?_eq_getElem (by omega)]; rfl
    by_cases e : n = l.getD k []
    · rw [if_pos e, if_pos (by simp [e]), e, hk, hn.idxOf_getElem k (by omega)]
    · rw [if_neg e]
      by_cases hm : n ∈ l.take k
      · rw [if_pos hm, if_pos (by simp [hm])]
      · rw [if_neg hm, if_neg (by rw [List.mem_append, List.mem_singleton]; exact fun h => h.elim hm e)]
theorem bookL_look (l : List (List UInt8)) (hn : l.Nodup) (n : List UInt8) : MapL.look n (bookL l) = if n ∈ l then some (.int .i64 (l.idxOf n : Nat)) else none := by
  have := bookTo_look l hn n l.length (Nat.le_refl _)
  rwa [List.take_length] at this
theorem longTo_succ (l : List (List UInt8)) (k : Nat) (h : k < l.length) : longTo l (k + 1) = (longTo l k || decide (32 < (l.getD k []).length)) := by
  unfold longTo
  rw [take_snoc l k h, List.any_append]
  simp
theorem wrongR_book (l : List (List UInt8)) : wrongR l = if (bookL l).length = l.length then (if longTo l l.length = true then 2 else 0) else 3 := by
  have h1 := (bookTo_len l l.length (Nat.le_refl _)).2
  rw [List.take_length] at h1
  unfold wrongR bookL
  have h2 : longTo l l.length = true ↔ ∃ n ∈ l, 32 < n.length := by
    unfold longTo
    rw [List.take_length, List.any_eq_true]
    simp
  by_cases q : l.Nodup
  · rw [if_pos q, if_pos (h1.2 q)]
    by_cases q2 : ∃ n ∈ l, 32 < n.length
    · rw [if_pos q2, if_pos (h2.2 q2)]
    · rw [if_neg q2, if_neg (fun h => q2 (h2.1 h))]
  · rw [if_neg q, if_neg (fun h => q (h1.1 h))]

/-- What is known in the loop. -/
structure BI (w0 : World) (l : List (List UInt8)) (k : Nat) (w : World) : Prop where
  is : MapL.Is encS w w0.heap.size (bookTo l k)
  bel : Below w0.heap.size w0 w
set_option maxRecDepth 100000 in
set_option maxHeartbeats 2000000 in
theorem book_calls (l : List (List UInt8)) (A : Option Addr) (c : Nat) (w : World) (hr : NRow w A l) (hl : l.length ≤ 1000000000000) (hn : ∀ n ∈ l, n.length ≤ 1000000000000) :
    Calls Tryd.prog 15 #[.slice A l.length c] w fun e w' => e = .returned (.tuple #[.map (some w.heap.size), .int .i64 (wrongR l)]) ∧ MapL.Is encS w' w.heap.size (bookL l) ∧ Below w.heap.size w w' := by
  have HR := Aside0.mk hr
  have HN := Aside0.mk hn
  have HW := Aside0.mk (wrongR_book l)
  clear hr hn
  obtain ⟨r, hrr⟩ : ∃ r, r = wrongR l := ⟨_, rfl⟩
  rw [← hrr]
  have HRR := Aside0.mk hrr
  clear hrr
  go_enter Tryd.func15, Tryd.ntmps15
  have hmm := @run_makeMap Tryd.prog
  go_wp2
  clear hmm
  go_loopg [5, 11] l.length (fun kq v5 v11 w2 => ∃ k : Nat, k + kq = l.length ∧ v11 = .int .i64 k ∧ v5 = .int .i64 (if longTo l k = true then 2 else 0) ∧ Aside0 (BI w l k w2))
  case atStart => exact ⟨0, by omega, rfl, rfl, Aside0.mk ⟨MapL.Is.made _ _, (Below.refl _ _).alloc (Nat.le_refl _) _⟩⟩
  case round =>
    obtain ⟨k, hk, rfl, rfl, HB⟩ := hrel
    generalize hE : (if longTo l k = true then (2 : Int) else 0) = E
    have HE := Aside0.mk hE
    clear hE
    cases gk with
    | zero =>
      have hge : ¬ ((k : Nat) : Int) < (l.length : Int) := by omega
      obtain rfl : k = l.length := by omega
      have HM := Aside0.mk HB.out.is
      by_cases q : (bookTo l l.length).length = l.length
      · have hb : (((bookTo l l.length).length : Int) != (l.length : Int)) = false := by simp [q]
        have HQ := Aside0.mk q
        clear q
        go_wp2_with (refine MapL.wp_len _ rfl (.tmp 23) _ rfl _ _ Tryd.underlying36 w.heap.size _ rfl HM.out ?_)
        go_ret2
        refine ⟨?_, HM.out, HB.out.bel⟩
        rw [HRR.out, HW.out, ← HE.out]
        unfold bookL
        rw [if_pos HQ.out]
        rfl
      · have hb : (((bookTo l l.length).length : Int) != (l.length : Int)) = true := by simp; omega
        have HQ := Aside0.mk q
        clear q
        go_wp2_with (refine MapL.wp_len _ rfl (.tmp 23) _ rfl _ _ Tryd.underlying36 w.heap.size _ rfl HM.out ?_)
        go_ret2
        refine ⟨?_, HM.out, HB.out.bel⟩
        rw [HRR.out, HW.out]
        unfold bookL
        rw [if_neg HQ.out]
        rfl
    | succ k1 =>
      have hlt : k < l.length := by omega
      have hltz : ((k : Nat) : Int) < (l.length : Int) := by omega
      obtain ⟨ad, rfl, hb, r0⟩ := HR.out.below HB.out.bel k hlt
      have hnl := HN.out l[k] (List.getElem_mem hlt)
      have HM := Aside0.mk HB.out.is
      have HLS := Aside0.mk (longTo_succ l k hlt)
      have hk : l.getD k [] = l[k] := by rw [List.getD_eq_getElem?_getD, List.getElem?_eq_getElem hlt]; rfl
      have HK := Aside0.mk hk
      clear hk
      unfold encS at r0
      have NEXT : ∀ w4, MapL.Is encS w4 w.heap.size (MapL.put l[k] (.int .i64 k) (bookTo l k)) → wr.grownBy w4 (some w.heap.size) → BI w l (k + 1) w4 := fun w4 h1 h2 =>
        ⟨by rw [bookTo, HK.out]; exact h1, HB.out.bel.grown h2 HB.out.bel.size (fun b e => by cases e; exact Nat.le_refl _)⟩
      have HNX := Aside0.mk NEXT
      clear NEXT
      by_cases q : 32 < l[k].length
      · have HV := Aside0.mk (show (if longTo l (k + 1) = true then (2 : Int) else 0) = 2 by rw [HLS.out, HK.out, decide_eq_true q, Bool.or_true]; rfl)
        go_wp2_with (refine MapL.wp_update _ rfl (.tmp 16) (.tmp 17) (.tmp 18) _ rfl _ _ keyed_S Tryd.underlying36 Tryd.underlying9 w.heap.size _ rfl HM.out l[k] (.int .i64 k) (by rfl) (by rfl) ?_; intro w4 hm4 hg4; replace hm4 := Aside0.mk hm4; replace hg4 := Aside0.mk hg4)
        go_roundg k1
        case measure => omega
        case rel => exact ⟨k + 1, by omega, by go_num, by rw [HV.out], Aside0.mk (HNX.out _ hm4.out hg4.out)⟩
      · have HV := Aside0.mk (show (if longTo l (k + 1) = true then (2 : Int) else 0) = E by rw [HLS.out, HK.out, decide_eq_false q, Bool.or_false]; exact HE.out)
        go_wp2_with (refine MapL.wp_update _ rfl (.tmp 16) (.tmp 17) (.tmp 18) _ rfl _ _ keyed_S Tryd.underlying36 Tryd.underlying9 w.heap.size _ rfl HM.out l[k] (.int .i64 k) (by rfl) (by rfl) ?_; intro w4 hm4 hg4; replace hm4 := Aside0.mk hm4; replace hg4 := Aside0.mk hg4)
        go_roundg k1
        case measure => omega
        case rel => exact ⟨k + 1, by omega, by go_num, by rw [HV.out], Aside0.mk (HNX.out _ hm4.out hg4.out)⟩
/-- What the reference has seen. -/
def seenTo (l : List (List UInt8)) : Nat → List (List UInt8 × Value)
  | 0 => []
  | k + 1 => MapL.put (l.getD k []) (.int .i64 1) (seenTo l k)
theorem seenTo_look (l : List (List UInt8)) (n : List UInt8) : ∀ k, k ≤ l.length → MapL.look n (seenTo l k) = if n ∈ l.take k then some (.int .i64 1) else none
  | 0, _ => by simp [seenTo, MapL.look]
  | k + 1, h => by
    rw [seenTo, look_put_if, take_snoc l k (by omega), seenTo_look l n k (by omega)]
    by_cases e : n = l.getD k []
    · rw [if_pos e, if_pos (by simp [e])]
    · rw [if_neg e]
      by_cases hm : n ∈ l.take k
      · rw [if_pos hm, if_pos (by simp [hm])]
      · rw [if_neg hm, if_neg (by rw [List.mem_append, List.mem_singleton]; exact fun h => h.elim hm e)]
theorem nodup_step (l : List (List UInt8)) (k : Nat) (h : k < l.length) (hn : (l.take k).Nodup) (hm : l.getD k [] ∉ l.take k) : (l.take (k + 1)).Nodup := by
  rw [take_snoc l k h, List.nodup_append]
  refine ⟨hn, by simp, fun a ha b hb => ?_⟩
  have : b = l.getD k [] := by simpa using hb
  rintro rfl
  exact hm (this ▸ ha)
theorem not_nodup (l : List (List UInt8)) (k : Nat) (h : k < l.length) (hm : l.getD k [] ∈ l.take k) : ¬ l.Nodup := by
  intro hn
  have h2 : (l.take (k + 1)).Nodup := hn.sublist (List.take_sublist _ _)
  rw [take_snoc l k h, List.nodup_append] at h2
  exact h2.2.2 _ hm (l.getD k []) (by simp) rfl
structure SI (w0 : World) (l : List (List UInt8)) (k : Nat) (w : World) : Prop where
  is : MapL.Is encS w w0.heap.size (seenTo l k)
  bel : Below w0.heap.size w0 w
  nd : (l.take k).Nodup
theorem zero_int (w : World) : (zeroValue 3).run Tryd.prog w = .ok (.int .i64 0) w := by kernel_rfl
set_option maxRecDepth 100000 in
set_option maxHeartbeats 2000000 in
theorem wrong_calls (l : List (List UInt8)) (A : Option Addr) (c : Nat) (w : World) (hr : NRow w A l) (hl : l.length ≤ 1000000000000) (hn : ∀ n ∈ l, n.length ≤ 1000000000000) :
    Calls Tryd.prog 23 #[.slice A l.length c] w fun e w' => e = .returned (.int .i64 (wrongR l)) ∧ Below w.heap.size w w' := by
  have HR := Aside0.mk hr
  have HN := Aside0.mk hn
  clear hr hn
  obtain ⟨r, hrr⟩ : ∃ r, r = wrongR l := ⟨_, rfl⟩
  rw [← hrr]
  have HRR := Aside0.mk hrr
  clear hrr
  go_enter Tryd.func23, Tryd.ntmps23
  have hmm := @run_makeMap Tryd.prog
  go_wp2
  clear hmm
  go_loopg [4] l.length (fun kq v4 w2 => ∃ k : Nat, k + kq = l.length ∧ v4 = .int .i64 k ∧ Aside0 (SI w l k w2))
  case atStart => exact ⟨0, by omega, rfl, Aside0.mk ⟨MapL.Is.made _ _, (Below.refl _ _).alloc (Nat.le_refl _) _, by simp⟩⟩
  case round =>
    obtain ⟨k, hk, rfl, HB⟩ := hrel
    cases gk with
    | zero =>
      have hge : ¬ ((k : Nat) : Int) < (l.length : Int) := by omega
      obtain rfl : k = l.length := by omega
      have HND := Aside0.mk (show l.Nodup by have := HB.out.nd; rwa [List.take_length] at this)
      have HBel := Aside0.mk HB.out.bel
      clear HB
      go_wp2
      go_loopg [5] l.length (fun kq v5 w2 => ∃ k : Nat, k + kq = l.length ∧ v5 = .int .i64 k ∧ Aside0 (Below w.heap.size w w2 ∧ ∀ n ∈ l.take k, n.length ≤ 32))
      case atStart => exact ⟨0, by omega, rfl, Aside0.mk ⟨HBel.out, by simp⟩⟩
      case round =>
        obtain ⟨k, hk, rfl, HB⟩ := hrel
        cases gk with
        | zero =>
          have hge2 : ¬ ((k : Nat) : Int) < (l.length : Int) := by omega
          obtain rfl : k = l.length := by omega
          go_wp2
          go_ret
          refine ⟨?_, HB.out.1⟩
          have h2 := HB.out.2
          rw [List.take_length] at h2
          rw [HRR.out, wrongR, if_pos HND.out, if_neg (fun ⟨n, h3, h4⟩ => by have := h2 n h3; omega)]
          rfl
        | succ k1 =>
          have hlt : k < l.length := by omega
          have hltz : ((k : Nat) : Int) < (l.length : Int) := by omega
          obtain ⟨ad, rfl, hb, r0⟩ := HR.out.below HB.out.1 k hlt
          unfold encS at r0
          have hnl := HN.out l[k] (List.getElem_mem hlt)
          by_cases q : 32 < l[k].length
          · have HQ := Aside0.mk q
            go_wp2
            go_ret
            exact ⟨by rw [HRR.out, wrongR, if_pos HND.out, if_pos ⟨_, List.getElem_mem hlt, HQ.out⟩]; rfl, HB.out.1⟩
          · have HQ := Aside0.mk q
            go_wp2
            go_roundg k1
            case measure => omega
            case rel => exact ⟨k + 1, by omega, by go_num, Aside0.mk ⟨HB.out.1, fun n hn => by
              rw [List.take_succ_eq_append_getElem hlt, List.mem_append, List.mem_singleton] at hn
              rcases hn with hn | rfl
              · exact HB.out.2 n hn
              · have := HQ.out; omega⟩⟩
    | succ k1 =>
      have hlt : k < l.length := by omega
      have hltz : ((k : Nat) : Int) < (l.length : Int) := by omega
      obtain ⟨ad, rfl, hb, r0⟩ := HR.out.below HB.out.bel k hlt
      have hnl := HN.out l[k] (List.getElem_mem hlt)
      have HM := Aside0.mk HB.out.is
      have hk : l.getD k [] = l[k] := by rw [List.getD_eq_getElem?_getD, List.getElem?_eq_getElem hlt]; rfl
      have HK := Aside0.mk hk
      clear hk
      unfold encS at r0
      have hlk := MapL.run_lookup HM.out keyed_S Tryd.underlying36 Tryd.underlying9 (zero_int _) l[k]
      unfold encS at hlk
      rw [seenTo_look l l[k] k (by omega)] at hlk
      by_cases q : l[k] ∈ l.take k
      · rw [if_pos q, Option.getD_some] at hlk
        have HQ := Aside0.mk q
        clear q
        go_wp2
        go_ret
        exact ⟨by rw [HRR.out, wrongR, if_neg (not_nodup l k hlt (by rw [HK.out]; exact HQ.out))]; rfl, HB.out.bel⟩
      · rw [if_neg q, Option.getD_none] at hlk
        have HQ := Aside0.mk q
        clear q
        go_wp2_with (refine MapL.wp_update _ rfl (.tmp 20) (.tmp 24) (.const (.int .i64 1)) _ rfl _ _ keyed_S Tryd.underlying36 Tryd.underlying9 w.heap.size _ rfl HM.out l[k] (.int .i64 1) (by rfl) (by rfl) ?_; intro w4 hm4 hg4; replace hm4 := Aside0.mk hm4; replace hg4 := Aside0.mk hg4)
        go_roundg k1
        case measure => omega
        case rel => exact ⟨k + 1, by omega, by go_num, Aside0.mk ⟨by rw [seenTo, HK.out]; exact hm4.out, HB.out.bel.grown hg4.out HB.out.bel.size (fun b e => by cases e; exact Nat.le_refl _), nodup_step l k hlt HB.out.nd (by rw [HK.out]; exact HQ.out)⟩⟩
end Go.Proofs.YtohlbnbfpcbpdaaDoor.Dt

/- dot: bit, word, node: the walks. -/
namespace Go.Proofs.YtohlbnbfpcbpdaaDoor.Dt
open Go.RowKit Go.Proofs.YtohlbnbfpcbpdaaDoorW.PrintWords Go.Proofs.YtohlbnbfpcbpdaaDoorW.PrintLast Go.Proofs.YtohlbnbfpcbpdaaDoorW.PrintMore
open Go.Proofs.YtohlbnbfpcbpdaaDoor.Lx

def nodeD (n : Int) : Bool := decide (0 ≤ n) && decide (n < 64)
theorem node_calls (n : Int) (hn : -9223372036854775808 ≤ n ∧ n ≤ 9223372036854775807) (w : World) : Calls Tryd.prog 18 #[.int .i64 n] w fun e w' => e = .returned (.bool (nodeD n)) ∧ w' = w := by
  unfold nodeD
  by_cases h1 : 0 ≤ n
  · by_cases h2 : n < 64
    · rw [decide_eq_true h1, decide_eq_true h2]
      go_enter Tryd.func18, Tryd.ntmps18
      go_wp2
      go_ret
      exact ⟨rfl, rfl⟩
    · rw [decide_eq_true h1, decide_eq_false h2]
      go_enter Tryd.func18, Tryd.ntmps18
      go_wp2
      go_ret
      exact ⟨rfl, rfl⟩
  · rw [decide_eq_false h1]
    go_enter Tryd.func18, Tryd.ntmps18
    go_wp2
    go_ret
    exact ⟨rfl, rfl⟩
theorem word_calls (b : Nat) (hb : b < 5) (w : World) : Calls Tryd.prog 19 #[.int .i64 (b : Int)] w fun e w' => e = .returned (.string ⟨(kw b).toArray⟩) ∧ w' = w := by
  have h : b = 0 ∨ b = 1 ∨ b = 2 ∨ b = 3 ∨ b = 4 := by omega
  clear hb
  rcases h with rfl | rfl | rfl | rfl | rfl
  all_goals
    go_enter Tryd.func19, Tryd.ntmps19
    go_wp2
    go_ret
    exact ⟨rfl, rfl⟩
def bitI (k : Int) : Int := match bitOf k with
  | some b => (b : Int)
  | none => -1
theorem bitI_pow (j : Nat) (h : j < 5) : bitI ((2 : Int) ^ j) = j := by
  have h : j = 0 ∨ j = 1 ∨ j = 2 ∨ j = 3 ∨ j = 4 := by omega
  rcases h with rfl | rfl | rfl | rfl | rfl <;> rfl
theorem bitI_none (k : Int) (h : ∀ j, j < 5 → k ≠ (2 : Int) ^ j) : bitI k = -1 := by
  have h0 : k ≠ 1 := h 0 (by decide)
  have h1 : k ≠ 2 := h 1 (by decide)
  have h2 : k ≠ 4 := h 2 (by decide)
  have h3 : k ≠ 8 := h 3 (by decide)
  have h4 : k ≠ 16 := h 4 (by decide)
  unfold bitI bitOf
  rw [if_neg h0, if_neg h1, if_neg h2, if_neg h3, if_neg h4]
theorem bit_calls (k : Int) (hk : -9223372036854775808 ≤ k ∧ k ≤ 9223372036854775807) (w : World) : Calls Tryd.prog 17 #[.int .i64 k] w fun e w' => e = .returned (.int .i64 (bitI k)) ∧ w' = w := by
  obtain ⟨r, hr⟩ : ∃ r, r = bitI k := ⟨_, rfl⟩
  rw [← hr]
  have HR := Aside0.mk hr
  clear hr
  go_enter Tryd.func17, Tryd.ntmps17
  go_wp2
  go_loopg [4] 5 (fun kq v4 w2 => ∃ j : Nat, j + kq = 5 ∧ v4 = .int .i64 j ∧ Aside0 (w2 = w) ∧ Aside0 (∀ i, i < j → k ≠ (2 : Int) ^ i))
  case atStart => exact ⟨0, by omega, rfl, Aside0.mk rfl, Aside0.mk (fun i hi => by omega)⟩
  case round =>
    obtain ⟨j, hj, rfl, HW, HN⟩ := hrel
    have hj5 : j = 5 ∨ j = 0 ∨ j = 1 ∨ j = 2 ∨ j = 3 ∨ j = 4 := by omega
    rcases hj5 with rfl | hj5
    · go_wp2
      go_ret
      exact ⟨by rw [HR.out, bitI_none k HN.out]; rfl, HW.out⟩
    · obtain ⟨k1, rfl⟩ : ∃ m, gk = m + 1 := ⟨gk - 1, by omega⟩
      have HJ := Aside0.mk hj
      clear hj
      by_cases q : k = (2 : Int) ^ j
      · have HR2 := Aside0.mk (show r = j by rw [HR.out, q, bitI_pow j (by omega)])
        clear HR
        rcases hj5 with rfl | rfl | rfl | rfl | rfl
        all_goals
          have hq : (k == _) = true := beq_iff_eq.2 q
          simp only [Nat.reducePow, Int.reducePow, Int.pow_zero, Int.pow_one] at hq
          clear q
          go_wp2
          go_ret
          exact ⟨by rw [HR2.out]; rfl, HW.out⟩
      · obtain ⟨j1, hj1⟩ : ∃ j1, j1 = j + 1 := ⟨_, rfl⟩
        have HV := Aside0.mk hj1
        have HJ1 := Aside0.mk (show j1 + k1 = 5 by have := HJ.out; omega)
        have HN2 := Aside0.mk (show ∀ i, i < j1 → k ≠ (2 : Int) ^ i from fun i hi => by
          by_cases e : i = j
          · rw [e]; exact q
          · exact HN.out i (by omega))
        clear hj1
        rcases hj5 with rfl | rfl | rfl | rfl | rfl
        all_goals
          have hq : (k == _) = false := beq_eq_false_iff_ne.2 q
          simp only [Nat.reducePow, Int.reducePow, Int.pow_zero, Int.pow_one] at hq
          clear q
          go_wp2
          go_roundg k1
          case measure => omega
          case rel =>
            exact ⟨j1, HJ1.out, by rw [HV.out]; rfl, HW, HN2⟩
end Go.Proofs.YtohlbnbfpcbpdaaDoor.Dt

/- dot: number, label: the walks. -/
namespace Go.Proofs.YtohlbnbfpcbpdaaDoor.Dt
open Go.RowKit Go.Proofs.YtohlbnbfpcbpdaaDoorW.PrintWords Go.Proofs.YtohlbnbfpcbpdaaDoorW.PrintLast Go.Proofs.YtohlbnbfpcbpdaaDoorW.PrintMore
open Go.Proofs.YtohlbnbfpcbpdaaDoor.Lx

def ML (w : World) : Prop := ∃ m, w.cell? ⟨0, 0, none⟩ = some (.int .i64 m)
theorem ML.below {w w' : World} (h : ML w) (hb : Below w.heap.size w w') : ML w' := by
  obtain ⟨m, h⟩ := h
  exact ⟨m, cellB hb h⟩
theorem gPow' : ∃ g, Tryd.prog.globalNamed "internal/strconv.uint64pow10" = some g := by
  have h : (Tryd.prog.globalNamed "internal/strconv.uint64pow10").isSome = true := by kernel_rfl
  exact Option.isSome_iff_exists.1 h
theorem p10_below {w w' : World} (h : P10 w) (hb : Below w.heap.size w w') : P10 w' := by
  obtain ⟨g, hg⟩ := gPow'
  unfold P10 Lib.TabIs World.var? at h ⊢
  rw [hg] at h ⊢
  simp only [Option.bind_some] at h ⊢
  have hlt : g < w.heap.size := by
    rcases Nat.lt_or_ge g w.heap.size with h' | h'
    · exact h'
    · rw [Array.getElem?_eq_none h'] at h; cases h
  rw [hb.block g hlt]
  exact h
/-- What the world is asked to hold. -/
structure DW (w : World) : Prop where
  lw : LW w
  ml : ML w
theorem DW.below {w w' : World} (h : DW w) (hb : Below w.heap.size w w') : DW w' := ⟨⟨h.lw.te.below hb, h.lw.deb.below hb, p10_below h.lw.p10 hb⟩, h.ml.below hb⟩
/-- How number ends. -/
def NumPost (s : List UInt8) (e : Ending) : Prop := (∀ n, numD s = some n → e = .returned (.tuple #[.int .i64 n, .bool true])) ∧ (numD s = none → ∃ n, e = .returned (.tuple #[.int .i64 n, .bool false]))
set_option maxRecDepth 100000 in
set_option maxHeartbeats 2000000 in
theorem number_calls (s : List UInt8) (w : World) (hs : s.length ≤ 1000000000000) (hw : DW w) : Calls Tryd.prog 41 #[.string ⟨s.toArray⟩] w fun e w' => Below w.heap.size w w' ∧ NumPost s e := by
  have HW := Aside0.mk hw
  clear hw
  have HS := Aside0.mk (show (ByteArray.mk s.toArray).size ≤ 1000000000000 from hs)
  cases hx : Lib.atoiAll s with
  | ok n =>
    have HX := Aside0.mk hx
    clear hx
    have hn : -9223372036854775808 ≤ n ∧ n ≤ 9223372036854775807 := Lib.atoiAll_bounds HX.out
    have HP := Aside0.mk (show ∀ e, (∀ n', (if 0 ≤ n ∧ n < 64 ∧ Lib.itoa n = s then some n else none) = some n' → e = .returned (.tuple #[.int .i64 n', .bool true])) → ((if 0 ≤ n ∧ n < 64 ∧ Lib.itoa n = s then some n else none) = none → ∃ n, e = .returned (.tuple #[.int .i64 n, .bool false])) → NumPost s e from fun e h1 h2 => by
      unfold NumPost numD
      rw [HX.out]
      exact ⟨h1, h2⟩)
    go_enter Tryd.func41, Tryd.ntmps41
    go_wp2_with fail
    refine (Tryd.strconv_Atoi_ok ⟨s.toArray⟩ (by have := HS.out; omega) n HX.out _).mono ?_
    rintro e w1 ⟨rfl, hb1⟩
    have HB1 := Aside0.mk (show Below w.heap.size w w1 by
      rcases hb1 with rfl | ⟨t, rfl⟩
      · exact Below.refl _ _
      · exact Go.Joins.below_bytesWorld _ _ _ _ (Nat.le_refl _))
    clear hb1
    by_cases hd : 0 ≤ n ∧ n < 64
    · have hd' : nodeD n = true := by unfold nodeD; rw [decide_eq_true hd.1, decide_eq_true hd.2]; rfl
      have HD := Aside0.mk hd
      clear hd
      go_wp2_with fail
      refine (node_calls n hn _).mono ?_
      rintro e w' ⟨rfl, rfl⟩
      rw [hd']
      go_wp2_with fail
      refine (Tryd.strconv_Itoa n hn.1 hn.2 _ (p10_below HW.out.lw.p10 HB1.out)).mono ?_
      rintro e w4 ⟨rfl, k4, os4, rfl⟩
      have HB4 := Aside0.mk (HB1.out.trans (Lib.below_grow _ _ HB1.out.size k4 os4))
      generalize Sort.grow (w'.drewN k4) os4 = w4 at *
      by_cases q : Lib.itoa n = s
      · have hq : (Lib.itoa n == s) = true := beq_iff_eq.2 q
        have HQ := Aside0.mk q
        clear q
        go_wp2
        go_ret2
        refine ⟨HB4.out, HP.out _ ?_ ?_⟩
        · intro n' h
          rw [if_pos ⟨HD.out.1, HD.out.2, HQ.out⟩] at h
          cases h
          rfl
        · intro h
          rw [if_pos ⟨HD.out.1, HD.out.2, HQ.out⟩] at h
          cases h
      · have hq : (Lib.itoa n == s) = false := beq_eq_false_iff_ne.2 q
        have HQ := Aside0.mk q
        clear q
        go_wp2
        go_ret2
        refine ⟨HB4.out, HP.out _ ?_ ?_⟩
        · intro n' h
          rw [if_neg (fun h => HQ.out h.2.2)] at h
          cases h
        · exact fun _ => ⟨_, rfl⟩
    · have hd' : nodeD n = false := by
        unfold nodeD
        by_cases h1 : 0 ≤ n
        · rw [decide_eq_false (p := n < 64) (fun h => hd ⟨h1, h⟩), Bool.and_false]
        · rw [decide_eq_false h1, Bool.false_and]
      have HD := Aside0.mk hd
      clear hd
      go_wp2_with fail
      refine (node_calls n hn _).mono ?_
      rintro e w' ⟨rfl, rfl⟩
      rw [hd']
      go_wp2_with fail
      go_ret2
      refine ⟨HB1.out, HP.out _ ?_ ?_⟩
      · intro n' h
        rw [if_neg (fun h => HD.out ⟨h.1, h.2.1⟩)] at h
        cases h
      · exact fun _ => ⟨_, rfl⟩
  | «range» =>
    have HP := Aside0.mk (show ∀ e, (∃ n, e = .returned (.tuple #[.int .i64 n, .bool false])) → NumPost s e from fun e h => by
      unfold NumPost numD
      rw [hx]
      exact ⟨(fun n h => by cases h), fun _ => h⟩)
    have HX := Aside0.mk hx
    clear hx
    obtain ⟨ev, hv, hev⟩ := HW.out.lw.te.2
    have HV := Aside0.mk hv
    clear hv
    go_enter Tryd.func41, Tryd.ntmps41
    go_wp2_with fail
    refine (Tryd.strconv_Atoi_range ⟨s.toArray⟩ (by have := HS.out; omega) HX.out ev _ HV.out hev).mono ?_
    rintro e w1 ⟨N1, rfl, _, _, hb1⟩
    have HB1 := Aside0.mk hb1
    clear hb1
    go_wp2_with fail
    go_ret2
    exact ⟨HB1.out, HP.out _ ⟨_, rfl⟩⟩
  | _ =>
    have hx0 := hx
    replace hx : Lib.atoiAll s = Lib.atoiAll [] := by rw [hx0]; rfl
    have HP := Aside0.mk (show ∀ e, (∃ n, e = .returned (.tuple #[.int .i64 n, .bool false])) → NumPost s e from fun e h => by
      unfold NumPost numD
      rw [hx]
      exact ⟨(fun n h => by cases h), fun _ => h⟩)
    have HX := Aside0.mk hx
    clear hx hx0
    obtain ⟨ev, hv, hev⟩ := HW.out.lw.te.1
    have HV := Aside0.mk hv
    clear hv
    go_enter Tryd.func41, Tryd.ntmps41
    go_wp2_with fail
    refine (Tryd.strconv_Atoi_syntax ⟨s.toArray⟩ (by have := HS.out; omega) HX.out ev _ HV.out hev).mono ?_
    rintro e w1 ⟨N1, rfl, _, _, hb1⟩
    have HB1 := Aside0.mk hb1
    clear hb1
    go_wp2_with fail
    go_ret2
    exact ⟨HB1.out, HP.out _ ⟨_, rfl⟩⟩
/-- How label ends. -/
def LabPost (names : List (List UInt8)) (s : List UInt8) (e : Ending) : Prop := (∀ k y, labD names s = some (k, y) → e = .returned (.tuple #[.int .i64 k, .int .i64 y, .bool true])) ∧ (labD names s = none → ∃ k y, e = .returned (.tuple #[.int .i64 k, .int .i64 y, .bool false]))
theorem kwI_pos {c : List UInt8} {j : Nat} (hj : j < 5) (h : c = kw j) : kwI c = some j := by rw [h]; exact kwI_kw hj
theorem kwI_neg {c : List UInt8} (h : ∀ j, j < 5 → c ≠ kw j) : kwI c = none := by
  unfold kwI
  rw [if_neg (h 0 (by decide)), if_neg (h 1 (by decide)), if_neg (h 2 (by decide)), if_neg (h 3 (by decide)), if_neg (h 4 (by decide))]
set_option maxRecDepth 100000 in
set_option maxHeartbeats 2000000 in
theorem label_calls (names : List (List UInt8)) (s : List UInt8) (b : Nat) (w : World) (hm : MapL.Is encS w b (bookL names)) (hn : names.Nodup) (hs : s.length < 4294967281) (hw : ML w) :
    Calls Tryd.prog 43 #[.string ⟨s.toArray⟩, .map (some b)] w fun e w' => (∃ n, w' = w.drewN n) ∧ LabPost names s e := by
  obtain ⟨m, hml⟩ := hw
  have HML := Aside0.mk hml
  have HM := Aside0.mk hm
  clear hml hm
  have HS := Aside0.mk (show (ByteArray.mk s.toArray).size < 4294967281 from hs)
  have HP := Aside0.mk (show ∀ e, LabPost names s e ↔ ((∀ k y, labD names s = some (k, y) → e = .returned (.tuple #[.int .i64 k, .int .i64 y, .bool true])) ∧ (labD names s = none → ∃ k y, e = .returned (.tuple #[.int .i64 k, .int .i64 y, .bool false]))) from fun e => Iff.rfl)
  have HD := Aside0.mk (show labD names s = match kwI (Lib.cut s [32]).1 with
    | none => none
    | some b => if (Lib.cut s [32]).2.2 = true then (if (Lib.cut s [32]).2.1 ∈ names then some ((2 : Int) ^ b, (names.idxOf (Lib.cut s [32]).2.1 : Int)) else none) else some ((2 : Int) ^ b, -1) from rfl)
  generalize labD names s = D at HP HD
  have HLK := Aside0.mk (bookL_look names hn (Lib.cut s [32]).2.1)
  go_enter Tryd.func43, Tryd.ntmps43
  go_wp2_with fail
  refine (Tryd.strings_Cut ⟨s.toArray⟩ ⟨#[32]⟩ m _ HS.out HML.out).mono ?_
  rintro e w1 ⟨rfl, n1, rfl⟩
  simp only [List.toList_toArray]
  obtain ⟨⟨c1, c2, c3⟩, hc⟩ : ∃ c, c = Lib.cut s [32] := ⟨_, rfl⟩
  rw [← hc] at HD HLK ⊢
  clear hc
  simp only at HD HLK ⊢
  go_wp2
  go_loopg [19] 5 (fun kq v19 w2 => ∃ j : Nat, j + kq = 5 ∧ v19 = .int .i64 j ∧ Aside0 (w2 = w.drewN n1) ∧ Aside0 (∀ i, i < j → c1 ≠ kw i))
  case atStart => exact ⟨0, by omega, rfl, Aside0.mk rfl, Aside0.mk (fun i hi => by omega)⟩
  case round =>
    obtain ⟨j, hj, rfl, HW, HN⟩ := hrel
    have hj5 : j = 5 ∨ j < 5 := by omega
    rcases hj5 with rfl | hj5
    · have hge : ¬ ((5 : Nat) : Int) < 5 := by omega
      go_wp2
      go_ret3
      refine ⟨⟨n1, HW.out⟩, (HP.out _).2 ⟨fun k y h => ?_, fun _ => ⟨_, _, rfl⟩⟩⟩
      rw [HD.out, kwI_neg HN.out] at h
      cases h
    · obtain ⟨k1, rfl⟩ : ∃ m, gk = m + 1 := ⟨gk - 1, by omega⟩
      have HJ := Aside0.mk hj
      clear hj
      by_cases q : c1 = kw j
      · have HD2 := Aside0.mk (show D = if c3 = true then (if c2 ∈ names then some ((2 : Int) ^ j, (names.idxOf c2 : Int)) else none) else some ((2 : Int) ^ j, -1) by rw [HD.out, kwI_pos hj5 q])
        have hq : (kw j == c1) = true := beq_iff_eq.2 q.symm
        have HJ5 := Aside0.mk hj5
        have hjz : ((j : Nat) : Int) < 5 := by omega
        clear q hj5
        go_wp2_with fail
        refine (word_calls j HJ5.out _).mono ?_
        rintro e w' ⟨rfl, rfl⟩
        cases c3 with
        | false =>
          have HE := Aside0.mk (show D = some ((2 : Int) ^ j, -1) by rw [HD2.out]; rfl)
          clear HD2 HD HLK
          have hj4 : j = 0 ∨ j = 1 ∨ j = 2 ∨ j = 3 ∨ j = 4 := by have := HJ5.out; omega
          rcases hj4 with rfl | rfl | rfl | rfl | rfl
          all_goals
            go_wp2
            go_ret3
            refine ⟨⟨n1, HW.out⟩, (HP.out _).2 ⟨fun k y h => ?_, fun h => ?_⟩⟩
            · rw [HE.out] at h
              cases h
              rfl
            · rw [HE.out] at h
              cases h
        | true =>
          rw [if_pos rfl] at HD2
          have hM2 : MapL.Is encS w' b (bookL names) := by rw [HW.out]; exact HM.out.drewN n1
          have hlk := MapL.run_lookup_ok hM2 keyed_S Tryd.underlying36 Tryd.underlying9 (zero_int _) c2
          unfold encS at hlk
          rw [HLK.out] at hlk
          by_cases hc2 : c2 ∈ names
          · rw [if_pos hc2] at HD2
            rw [if_pos hc2, Option.getD_some, Option.isSome_some] at hlk
            clear hc2 HLK HD hM2
            have hj4 : j = 0 ∨ j = 1 ∨ j = 2 ∨ j = 3 ∨ j = 4 := by have := HJ5.out; omega
            rcases hj4 with rfl | rfl | rfl | rfl | rfl
            all_goals
              go_wp2
              go_ret3
              refine ⟨⟨n1, HW.out⟩, (HP.out _).2 ⟨fun k y h => ?_, fun h => ?_⟩⟩
              · rw [HD2.out] at h
                cases h
                rfl
              · rw [HD2.out] at h
                cases h
          · rw [if_neg hc2] at HD2
            rw [if_neg hc2, Option.getD_none, Option.isSome_none] at hlk
            clear hc2 HLK HD hM2
            have hj4 : j = 0 ∨ j = 1 ∨ j = 2 ∨ j = 3 ∨ j = 4 := by have := HJ5.out; omega
            rcases hj4 with rfl | rfl | rfl | rfl | rfl
            all_goals
              go_wp2
              go_ret3
              refine ⟨⟨n1, HW.out⟩, (HP.out _).2 ⟨fun k y h => ?_, fun h => ?_⟩⟩
              · rw [HD2.out] at h
                cases h
              · exact ⟨_, _, rfl⟩
      · have hq : (kw j == c1) = false := beq_eq_false_iff_ne.2 (fun h => q h.symm)
        have HN2 := Aside0.mk (show ∀ i, i < j + 1 → c1 ≠ kw i from fun i hi => by
          by_cases e : i = j
          · rw [e]; exact q
          · exact HN.out i (by omega))
        have hjz : ((j : Nat) : Int) < 5 := by omega
        have HJ5 := Aside0.mk hj5
        clear q hj5
        go_wp2_with fail
        refine (word_calls j HJ5.out _).mono ?_
        rintro e w' ⟨rfl, rfl⟩
        go_wp2
        go_roundg k1
        case measure => omega
        case rel => exact ⟨j + 1, by have := HJ.out; omega, by go_num, HW, HN2⟩
end Go.Proofs.YtohlbnbfpcbpdaaDoor.Dt
