/- TreePrints: the text of a value, whether two are the same, and what a map holds, are told as the document says, and the arguments stay as they were: for every input of bulk at most 1048576. -/
import Derived.Test.YtegppkngdkkdcaaGreatDoorTP4
import Derived.Test.YtegppkngdkkdcaaGreatDoorRows
import Derived.Test.YtegppkngdkkdcaaGreatDoorCards
import Derived.Test.YtegppkngdkkdcaaGreatDoorTie
set_option linter.unusedVariables false
set_option linter.unusedSimpArgs false
section
set_option linter.unusedVariables false
set_option linter.unusedSimpArgs false
namespace Go.Proofs.YtegppkngdkkdcaaGreatDoor.Tr
open Go.RowKit Go.Proofs.YtegppkngdkkdcaaGreatDoorW.PrintWords Go.Proofs.YtegppkngdkkdcaaGreatDoorW.PrintLast Go.Proofs.YtegppkngdkkdcaaGreatDoorW.PrintMore
open Go.Proofs.YtegppkngdkkdcaaGreatDoor.Lx Go.Proofs.YtegppkngdkkdcaaGreatDoor.PS
theorem zero_int (w : World) : (zeroValue 3).run Tryz.prog w = .ok (.int .i64 0) w := by kernel_rfl
theorem sr_bad (d : Nat) (x : V) (h : bareV x = false) : soundR d x = false := by cases d <;> simp [soundR, h]
def seenTo (l : List ByteArray) : Nat → List (ByteArray × Value)
  | 0 => []
  | k + 1 => MapL.put (l.getD k ByteArray.empty) (.int .i64 1) (seenTo l k)
open Classical in
theorem seenTo_look (l : List (ByteArray)) : ∀ k, k ≤ l.length → ∀ n, MapL.look n (seenTo l k) = if n ∈ l.take k then some (.int .i64 1) else none
  | 0, _, n => by simp [seenTo, MapL.look]
  | k + 1, h, n => by
    rw [seenTo, look_put_if, take_snoc l k (by omega), seenTo_look l k (by omega)]
    by_cases hn : n = l.getD k ByteArray.empty
    · rw [if_pos hn, if_pos (by simp [hn])]
    · rw [if_neg hn]
      have : (n ∈ l.take k ++ [l.getD k ByteArray.empty]) ↔ n ∈ l.take k := by rw [List.mem_append, List.mem_singleton]; exact or_iff_left hn
      simp only [this]
def RSoundC (d : Nat) : Prop := ∀ (x : V) (A3 : Option Addr) (c3 : Nat) (A4 : Option Addr) (c4 : Nat) (w : World), fitsR d x → x.f3.length ≤ c3 → k26.C w A3 x.f3.length x.f3 → x.f4.length ≤ c4 → Kd.string.C w A4 x.f4.length x.f4 →
  Calls Tryz.prog 59 #[vArg x A3 c3 A4 c4, .int .i64 d] w fun e w' => e = .returned (.bool (soundR d x)) ∧ Below w.heap.size w w'
set_option maxRecDepth 100000 in
set_option maxHeartbeats 4000000 in
theorem rsound_zero : RSoundC 0 := by
  intro x A3 c3 A4 c4 w hf m3 g3 m4 g4
  rw [show ((0 : Nat) : Int) = 0 from rfl]
  have hfl := fitsR_len hf
  obtain ⟨r, hr⟩ : ∃ r, r = soundR 0 x := ⟨_, rfl⟩
  rw [← hr]
  obtain ⟨K, n, t0, l3, l4⟩ := x
  obtain ⟨t, rfl⟩ : ∃ t : List UInt8, t0 = ⟨t.toArray⟩ := ⟨t0.data.toList, by cases t0; rfl⟩
  unfold vArg
  dsimp only at *
  obtain ⟨h3, h4⟩ := hfl
  have HR := Aside0.mk hr
  have HF := Aside0.mk hf
  have HG := Aside0.mk (And.intro g3 g4)
  have HB1 := Aside0.mk ((Below.refl w.heap.size w).alloc (Nat.le_refl _) (.cells #[.int .i64 K, .int .i64 n, .string ⟨t.toArray⟩, .slice A3 l3.length c3, .slice A4 l4.length c4] 26 (0, 0)))
  have NV := Aside0.mk (blk_new w (.cells #[.int .i64 K, .int .i64 n, .string ⟨t.toArray⟩, .slice A3 l3.length c3, .slice A4 l4.length c4] 26 (0, 0)))
  clear hr hf g3 g4 m3 m4
  by_cases k1 : K = 1
  · subst k1
    by_cases hn : n = 0
    · subst hn
      cases t with
      | cons a t =>
        have hta : ((a :: t) == []) = false := rfl
        have HQ := Aside0.mk (show r = false by rw [HR.out]; exact sr_bad _ _ (by simp [bareR, bareV]))
        clear HG HF
        go_enter Tryz.func59, Tryz.ntmps59
        go_wp2
        go_ret
        exact ⟨by rw [HQ.out]; rfl, HB1.out⟩
      | nil =>
        cases l3 with
        | cons y ys =>
          have q1 : decide (((y :: ys).length : Int) > 0) = true := decide_eq_true (by simp only [List.length_cons]; omega)
          have q2 : decide ((0 : Int) < ((y :: ys).length : Int)) = true := decide_eq_true (by simp only [List.length_cons]; omega)
          have q3 : decide (0 < (y :: ys).length) = true := decide_eq_true (by simp only [List.length_cons]; omega)
          generalize hyl : (y :: ys).length = N3 at *
          have hy0 : N3 ≠ 0 := by rw [← hyl]; simp
          have HQ := Aside0.mk (show r = false by rw [HR.out]; exact sr_bad _ _ (by simp [bareR, bareV, hy0, hyl]))
          clear HG HF
          go_enter Tryz.func59, Tryz.ntmps59
          go_wp2
          go_ret
          exact ⟨by rw [HQ.out]; rfl, HB1.out⟩
        | nil =>
          cases l4 with
          | cons y ys =>
            have q1 : decide (((y :: ys).length : Int) > 0) = true := decide_eq_true (by simp only [List.length_cons]; omega)
            have q2 : decide ((0 : Int) < ((y :: ys).length : Int)) = true := decide_eq_true (by simp only [List.length_cons]; omega)
            have q3 : decide (0 < (y :: ys).length) = true := decide_eq_true (by simp only [List.length_cons]; omega)
            generalize hyl : (y :: ys).length = N4 at *
            have hy0 : N4 ≠ 0 := by rw [← hyl]; simp
            have HQ := Aside0.mk (show r = false by rw [HR.out]; exact sr_bad _ _ (by simp [bareR, bareV, hy0, hyl]))
            clear HG HF
            go_enter Tryz.func59, Tryz.ntmps59
            go_wp2
            go_ret
            exact ⟨by rw [HQ.out]; rfl, HB1.out⟩
          | nil =>
            have HQ := Aside0.mk (show r = true by rw [HR.out]; simp [soundR, bareV, bareR])
            clear HG HF
            go_enter Tryz.func59, Tryz.ntmps59
            have hmm := @run_makeMap Tryz.prog
            go_wp2_with fail
            clear hmm
            have HB2 := Aside0.mk (HB1.out.alloc (by simp) (.map #[] 0))
            clear HB1
            go_loopg [6] 0 (fun kq v6 w2 => kq = 0 ∧ v6 = .int .i64 0 ∧ Aside0 (Below w.heap.size w w2) ∧ w2.cell? ⟨w.heap.size, 3, none⟩ = some (.slice A3 0 c3))
            case atStart => exact ⟨rfl, rfl, HB2, by go_simp⟩
            case round =>
              obtain ⟨hk, rfl, HBW, hc3⟩ := hrel
              subst hk
              go_wp2
              go_ret
              exact ⟨by rw [HQ.out]; rfl, HBW.out⟩
    · have hn1 : (n == 0) = false := by simpa using hn
      have hn2 : (n != 0) = true := by simpa using hn
      have HQ := Aside0.mk (show r = false by rw [HR.out]; exact sr_bad _ _ (by simp [bareR, bareV, hn]))
      clear HG HF
      go_enter Tryz.func59, Tryz.ntmps59
      go_wp2
      go_ret
      exact ⟨by rw [HQ.out]; rfl, HB1.out⟩
  · skip
    by_cases k2 : K = 2
    · subst k2
      by_cases hn : n = 0
      · subst hn
        cases t with
        | cons a t =>
          have hta : ((a :: t) == []) = false := rfl
          have HQ := Aside0.mk (show r = false by rw [HR.out]; exact sr_bad _ _ (by simp [bareR, bareV]))
          clear HG HF
          go_enter Tryz.func59, Tryz.ntmps59
          go_wp2
          go_ret
          exact ⟨by rw [HQ.out]; rfl, HB1.out⟩
        | nil =>
          cases l3 with
          | cons y ys =>
            have q1 : decide (((y :: ys).length : Int) > 0) = true := decide_eq_true (by simp only [List.length_cons]; omega)
            have q2 : decide ((0 : Int) < ((y :: ys).length : Int)) = true := decide_eq_true (by simp only [List.length_cons]; omega)
            have q3 : decide (0 < (y :: ys).length) = true := decide_eq_true (by simp only [List.length_cons]; omega)
            generalize hyl : (y :: ys).length = N3 at *
            have hy0 : N3 ≠ 0 := by rw [← hyl]; simp
            have HQ := Aside0.mk (show r = false by rw [HR.out]; exact sr_bad _ _ (by simp [bareR, bareV, hy0, hyl]))
            clear HG HF
            go_enter Tryz.func59, Tryz.ntmps59
            go_wp2
            go_ret
            exact ⟨by rw [HQ.out]; rfl, HB1.out⟩
          | nil =>
            cases l4 with
            | cons y ys =>
              have q1 : decide (((y :: ys).length : Int) > 0) = true := decide_eq_true (by simp only [List.length_cons]; omega)
              have q2 : decide ((0 : Int) < ((y :: ys).length : Int)) = true := decide_eq_true (by simp only [List.length_cons]; omega)
              have q3 : decide (0 < (y :: ys).length) = true := decide_eq_true (by simp only [List.length_cons]; omega)
              generalize hyl : (y :: ys).length = N4 at *
              have hy0 : N4 ≠ 0 := by rw [← hyl]; simp
              have HQ := Aside0.mk (show r = false by rw [HR.out]; exact sr_bad _ _ (by simp [bareR, bareV, hy0, hyl]))
              clear HG HF
              go_enter Tryz.func59, Tryz.ntmps59
              go_wp2
              go_ret
              exact ⟨by rw [HQ.out]; rfl, HB1.out⟩
            | nil =>
              have HQ := Aside0.mk (show r = true by rw [HR.out]; simp [soundR, bareV, bareR])
              clear HG HF
              go_enter Tryz.func59, Tryz.ntmps59
              have hmm := @run_makeMap Tryz.prog
              go_wp2_with fail
              clear hmm
              have HB2 := Aside0.mk (HB1.out.alloc (by simp) (.map #[] 0))
              clear HB1
              go_loopg [6] 0 (fun kq v6 w2 => kq = 0 ∧ v6 = .int .i64 0 ∧ Aside0 (Below w.heap.size w w2) ∧ w2.cell? ⟨w.heap.size, 3, none⟩ = some (.slice A3 0 c3))
              case atStart => exact ⟨rfl, rfl, HB2, by go_simp⟩
              case round =>
                obtain ⟨hk, rfl, HBW, hc3⟩ := hrel
                subst hk
                go_wp2
                go_ret
                exact ⟨by rw [HQ.out]; rfl, HBW.out⟩
      · by_cases hm : n = 1
        · subst hm
          cases t with
          | cons a t =>
            have hta : ((a :: t) == []) = false := rfl
            have HQ := Aside0.mk (show r = false by rw [HR.out]; exact sr_bad _ _ (by simp [bareR, bareV]))
            clear HG HF
            go_enter Tryz.func59, Tryz.ntmps59
            go_wp2
            go_ret
            exact ⟨by rw [HQ.out]; rfl, HB1.out⟩
          | nil =>
            cases l3 with
            | cons y ys =>
              have q1 : decide (((y :: ys).length : Int) > 0) = true := decide_eq_true (by simp only [List.length_cons]; omega)
              have q2 : decide ((0 : Int) < ((y :: ys).length : Int)) = true := decide_eq_true (by simp only [List.length_cons]; omega)
              have q3 : decide (0 < (y :: ys).length) = true := decide_eq_true (by simp only [List.length_cons]; omega)
              generalize hyl : (y :: ys).length = N3 at *
              have hy0 : N3 ≠ 0 := by rw [← hyl]; simp
              have HQ := Aside0.mk (show r = false by rw [HR.out]; exact sr_bad _ _ (by simp [bareR, bareV, hy0, hyl]))
              clear HG HF
              go_enter Tryz.func59, Tryz.ntmps59
              go_wp2
              go_ret
              exact ⟨by rw [HQ.out]; rfl, HB1.out⟩
            | nil =>
              cases l4 with
              | cons y ys =>
                have q1 : decide (((y :: ys).length : Int) > 0) = true := decide_eq_true (by simp only [List.length_cons]; omega)
                have q2 : decide ((0 : Int) < ((y :: ys).length : Int)) = true := decide_eq_true (by simp only [List.length_cons]; omega)
                have q3 : decide (0 < (y :: ys).length) = true := decide_eq_true (by simp only [List.length_cons]; omega)
                generalize hyl : (y :: ys).length = N4 at *
                have hy0 : N4 ≠ 0 := by rw [← hyl]; simp
                have HQ := Aside0.mk (show r = false by rw [HR.out]; exact sr_bad _ _ (by simp [bareR, bareV, hy0, hyl]))
                clear HG HF
                go_enter Tryz.func59, Tryz.ntmps59
                go_wp2
                go_ret
                exact ⟨by rw [HQ.out]; rfl, HB1.out⟩
              | nil =>
                have HQ := Aside0.mk (show r = true by rw [HR.out]; simp [soundR, bareV, bareR])
                clear HG HF
                go_enter Tryz.func59, Tryz.ntmps59
                have hmm := @run_makeMap Tryz.prog
                go_wp2_with fail
                clear hmm
                have HB2 := Aside0.mk (HB1.out.alloc (by simp) (.map #[] 0))
                clear HB1
                go_loopg [6] 0 (fun kq v6 w2 => kq = 0 ∧ v6 = .int .i64 0 ∧ Aside0 (Below w.heap.size w w2) ∧ w2.cell? ⟨w.heap.size, 3, none⟩ = some (.slice A3 0 c3))
                case atStart => exact ⟨rfl, rfl, HB2, by go_simp⟩
                case round =>
                  obtain ⟨hk, rfl, HBW, hc3⟩ := hrel
                  subst hk
                  go_wp2
                  go_ret
                  exact ⟨by rw [HQ.out]; rfl, HBW.out⟩
        · have hn1 : (n == 0) = false := by simpa using hn
          have hn2 : (n != 0) = true := by simpa using hn
          have hm1 : (n == 1) = false := by simpa using hm
          have hm2 : (n != 1) = true := by simpa using hm
          have HQ := Aside0.mk (show r = false by rw [HR.out]; exact sr_bad _ _ (by simp [bareR, bareV, hn, hm]))
          clear HG HF
          go_enter Tryz.func59, Tryz.ntmps59
          go_wp2
          go_ret
          exact ⟨by rw [HQ.out]; rfl, HB1.out⟩
    · skip
      by_cases k3 : K = 3
      · subst k3
        cases t with
        | cons a t =>
          have hta : ((a :: t) == []) = false := rfl
          have HQ := Aside0.mk (show r = false by rw [HR.out]; exact sr_bad _ _ (by simp [bareR, bareV]))
          clear HG HF
          go_enter Tryz.func59, Tryz.ntmps59
          go_wp2
          go_ret
          exact ⟨by rw [HQ.out]; rfl, HB1.out⟩
        | nil =>
          cases l3 with
          | cons y ys =>
            have q1 : decide (((y :: ys).length : Int) > 0) = true := decide_eq_true (by simp only [List.length_cons]; omega)
            have q2 : decide ((0 : Int) < ((y :: ys).length : Int)) = true := decide_eq_true (by simp only [List.length_cons]; omega)
            have q3 : decide (0 < (y :: ys).length) = true := decide_eq_true (by simp only [List.length_cons]; omega)
            generalize hyl : (y :: ys).length = N3 at *
            have hy0 : N3 ≠ 0 := by rw [← hyl]; simp
            have HQ := Aside0.mk (show r = false by rw [HR.out]; exact sr_bad _ _ (by simp [bareR, bareV, hy0, hyl]))
            clear HG HF
            go_enter Tryz.func59, Tryz.ntmps59
            go_wp2
            go_ret
            exact ⟨by rw [HQ.out]; rfl, HB1.out⟩
          | nil =>
            cases l4 with
            | cons y ys =>
              have q1 : decide (((y :: ys).length : Int) > 0) = true := decide_eq_true (by simp only [List.length_cons]; omega)
              have q2 : decide ((0 : Int) < ((y :: ys).length : Int)) = true := decide_eq_true (by simp only [List.length_cons]; omega)
              have q3 : decide (0 < (y :: ys).length) = true := decide_eq_true (by simp only [List.length_cons]; omega)
              generalize hyl : (y :: ys).length = N4 at *
              have hy0 : N4 ≠ 0 := by rw [← hyl]; simp
              have HQ := Aside0.mk (show r = false by rw [HR.out]; exact sr_bad _ _ (by simp [bareR, bareV, hy0, hyl]))
              clear HG HF
              go_enter Tryz.func59, Tryz.ntmps59
              go_wp2
              go_ret
              exact ⟨by rw [HQ.out]; rfl, HB1.out⟩
            | nil =>
              have HQ := Aside0.mk (show r = true by rw [HR.out]; simp [soundR, bareV, bareR])
              clear HG HF
              go_enter Tryz.func59, Tryz.ntmps59
              have hmm := @run_makeMap Tryz.prog
              go_wp2_with fail
              clear hmm
              have HB2 := Aside0.mk (HB1.out.alloc (by simp) (.map #[] 0))
              clear HB1
              go_loopg [6] 0 (fun kq v6 w2 => kq = 0 ∧ v6 = .int .i64 0 ∧ Aside0 (Below w.heap.size w w2) ∧ w2.cell? ⟨w.heap.size, 3, none⟩ = some (.slice A3 0 c3))
              case atStart => exact ⟨rfl, rfl, HB2, by go_simp⟩
              case round =>
                obtain ⟨hk, rfl, HBW, hc3⟩ := hrel
                subst hk
                go_wp2
                go_ret
                exact ⟨by rw [HQ.out]; rfl, HBW.out⟩
      · skip
        by_cases k4 : K = 4
        · subst k4
          by_cases hn : n = 0
          · subst hn
            cases l3 with
            | cons y ys =>
              have q1 : decide (((y :: ys).length : Int) > 0) = true := decide_eq_true (by simp only [List.length_cons]; omega)
              have q2 : decide ((0 : Int) < ((y :: ys).length : Int)) = true := decide_eq_true (by simp only [List.length_cons]; omega)
              have q3 : decide (0 < (y :: ys).length) = true := decide_eq_true (by simp only [List.length_cons]; omega)
              generalize hyl : (y :: ys).length = N3 at *
              have hy0 : N3 ≠ 0 := by rw [← hyl]; simp
              have HQ := Aside0.mk (show r = false by rw [HR.out]; exact sr_bad _ _ (by simp [bareR, bareV, hy0, hyl]))
              clear HG HF
              go_enter Tryz.func59, Tryz.ntmps59
              go_wp2
              go_ret
              exact ⟨by rw [HQ.out]; rfl, HB1.out⟩
            | nil =>
              cases l4 with
              | cons y ys =>
                have q1 : decide (((y :: ys).length : Int) > 0) = true := decide_eq_true (by simp only [List.length_cons]; omega)
                have q2 : decide ((0 : Int) < ((y :: ys).length : Int)) = true := decide_eq_true (by simp only [List.length_cons]; omega)
                have q3 : decide (0 < (y :: ys).length) = true := decide_eq_true (by simp only [List.length_cons]; omega)
                generalize hyl : (y :: ys).length = N4 at *
                have hy0 : N4 ≠ 0 := by rw [← hyl]; simp
                have HQ := Aside0.mk (show r = false by rw [HR.out]; exact sr_bad _ _ (by simp [bareR, bareV, hy0, hyl]))
                clear HG HF
                go_enter Tryz.func59, Tryz.ntmps59
                go_wp2
                go_ret
                exact ⟨by rw [HQ.out]; rfl, HB1.out⟩
              | nil =>
                have HQ := Aside0.mk (show r = true by rw [HR.out]; simp [soundR, bareV, bareR])
                clear HG HF
                go_enter Tryz.func59, Tryz.ntmps59
                have hmm := @run_makeMap Tryz.prog
                go_wp2_with fail
                clear hmm
                have HB2 := Aside0.mk (HB1.out.alloc (by simp) (.map #[] 0))
                clear HB1
                go_loopg [6] 0 (fun kq v6 w2 => kq = 0 ∧ v6 = .int .i64 0 ∧ Aside0 (Below w.heap.size w w2) ∧ w2.cell? ⟨w.heap.size, 3, none⟩ = some (.slice A3 0 c3))
                case atStart => exact ⟨rfl, rfl, HB2, by go_simp⟩
                case round =>
                  obtain ⟨hk, rfl, HBW, hc3⟩ := hrel
                  subst hk
                  go_wp2
                  go_ret
                  exact ⟨by rw [HQ.out]; rfl, HBW.out⟩
          · have hn1 : (n == 0) = false := by simpa using hn
            have hn2 : (n != 0) = true := by simpa using hn
            have HQ := Aside0.mk (show r = false by rw [HR.out]; exact sr_bad _ _ (by simp [bareR, bareV, hn]))
            clear HG HF
            go_enter Tryz.func59, Tryz.ntmps59
            go_wp2
            go_ret
            exact ⟨by rw [HQ.out]; rfl, HB1.out⟩
        · skip
          by_cases k5 : K = 5
          · subst k5
            have HQ := Aside0.mk (show r = false by rw [HR.out]; simp [soundR])
            clear HG HF
            go_enter Tryz.func59, Tryz.ntmps59
            go_wp2
            go_ret
            exact ⟨by rw [HQ.out]; rfl, HB1.out⟩
          · skip
            by_cases k6 : K = 6
            · subst k6
              have HQ := Aside0.mk (show r = false by rw [HR.out]; simp [soundR])
              clear HG HF
              go_enter Tryz.func59, Tryz.ntmps59
              go_wp2
              go_ret
              exact ⟨by rw [HQ.out]; rfl, HB1.out⟩
            · skip
              have HQ := Aside0.mk (show r = false by rw [HR.out]; exact sr_bad _ _ (by simp [bareR, bareV, k1, k2, k3, k4, k5, k6]))
              clear HG HF
              by_cases hlo : K < 1
              · have q1 : decide (K < 1) = true := decide_eq_true hlo
                have q2 : decide (K ≥ 5) = false := decide_eq_false (by omega)
                have q2' : decide ((5 : Int) ≤ K) = false := decide_eq_false (by omega)
                clear k1 k2 k3 k4 k5 k6 hlo
                go_enter Tryz.func59, Tryz.ntmps59
                go_wp2
                go_ret
                exact ⟨by rw [HQ.out]; rfl, HB1.out⟩
              · have q1 : decide (K < 1) = false := decide_eq_false hlo
                have q2 : decide (K ≥ 5) = true := decide_eq_true (by omega)
                have q2' : decide ((5 : Int) ≤ K) = true := decide_eq_true (by omega)
                have q3 : decide (K > 6) = true := decide_eq_true (by omega)
                have q3' : decide ((6 : Int) < K) = true := decide_eq_true (by omega)
                clear k1 k2 k3 k4 k5 k6 hlo
                go_enter Tryz.func59, Tryz.ntmps59
                go_wp2
                go_ret
                exact ⟨by rw [HQ.out]; rfl, HB1.out⟩
end Go.Proofs.YtegppkngdkkdcaaGreatDoor.Tr
end
section
set_option linter.unusedVariables false
set_option linter.unusedSimpArgs false
namespace Go.Proofs.YtegppkngdkkdcaaGreatDoor.Tr
open Go.RowKit Go.Proofs.YtegppkngdkkdcaaGreatDoorW.PrintWords Go.Proofs.YtegppkngdkkdcaaGreatDoorW.PrintLast Go.Proofs.YtegppkngdkkdcaaGreatDoorW.PrintMore
open Go.Proofs.YtegppkngdkkdcaaGreatDoor.Lx Go.Proofs.YtegppkngdkkdcaaGreatDoor.PS
set_option maxRecDepth 100000 in
set_option maxHeartbeats 4000000 in
theorem rsound_succ (d : Nat) (hd : d ≤ 7) (IH : RSoundC d) : RSoundC (d + 1) := by
  intro x A3 c3 A4 c4 w hf m3 g3 m4 g4
  obtain ⟨L, hL⟩ : ∃ L : Int, ((d + 1 : Nat) : Int) = L := ⟨_, rfl⟩
  rw [hL]
  have HIH := Aside0.mk IH
  have hl1 : decide (L < 1) = false := decide_eq_false (by omega)
  have hl2 : wrap64 (L - 1) = (d : Int) := by unfold wrap64; omega
  clear hL IH
  have hfl := fitsR_len hf
  obtain ⟨r, hr⟩ : ∃ r, r = soundR (d + 1) x := ⟨_, rfl⟩
  rw [← hr]
  obtain ⟨K, n, t0, l3, l4⟩ := x
  obtain ⟨t, rfl⟩ : ∃ t : List UInt8, t0 = ⟨t.toArray⟩ := ⟨t0.data.toList, by cases t0; rfl⟩
  unfold vArg
  dsimp only at *
  obtain ⟨h3, h4⟩ := hfl
  have HR := Aside0.mk hr
  have HF := Aside0.mk hf
  have HG := Aside0.mk (And.intro g3 g4)
  have HB1 := Aside0.mk ((Below.refl w.heap.size w).alloc (Nat.le_refl _) (.cells #[.int .i64 K, .int .i64 n, .string ⟨t.toArray⟩, .slice A3 l3.length c3, .slice A4 l4.length c4] 26 (0, 0)))
  have NV := Aside0.mk (blk_new w (.cells #[.int .i64 K, .int .i64 n, .string ⟨t.toArray⟩, .slice A3 l3.length c3, .slice A4 l4.length c4] 26 (0, 0)))
  clear hr hf g3 g4 m3 m4
  by_cases k1 : K = 1
  · subst k1
    by_cases hn : n = 0
    · subst hn
      cases t with
      | cons a t =>
        have hta : ((a :: t) == []) = false := rfl
        have HQ := Aside0.mk (show r = false by rw [HR.out]; exact sr_bad _ _ (by simp [bareR, bareV]))
        clear HG HF
        go_enter Tryz.func59, Tryz.ntmps59
        go_wp2
        go_ret
        exact ⟨by rw [HQ.out]; rfl, HB1.out⟩
      | nil =>
        cases l3 with
        | cons y ys =>
          have q1 : decide (((y :: ys).length : Int) > 0) = true := decide_eq_true (by simp only [List.length_cons]; omega)
          have q2 : decide ((0 : Int) < ((y :: ys).length : Int)) = true := decide_eq_true (by simp only [List.length_cons]; omega)
          have q3 : decide (0 < (y :: ys).length) = true := decide_eq_true (by simp only [List.length_cons]; omega)
          generalize hyl : (y :: ys).length = N3 at *
          have hy0 : N3 ≠ 0 := by rw [← hyl]; simp
          have HQ := Aside0.mk (show r = false by rw [HR.out]; exact sr_bad _ _ (by simp [bareR, bareV, hy0, hyl]))
          clear HG HF
          go_enter Tryz.func59, Tryz.ntmps59
          go_wp2
          go_ret
          exact ⟨by rw [HQ.out]; rfl, HB1.out⟩
        | nil =>
          cases l4 with
          | cons y ys =>
            have q1 : decide (((y :: ys).length : Int) > 0) = true := decide_eq_true (by simp only [List.length_cons]; omega)
            have q2 : decide ((0 : Int) < ((y :: ys).length : Int)) = true := decide_eq_true (by simp only [List.length_cons]; omega)
            have q3 : decide (0 < (y :: ys).length) = true := decide_eq_true (by simp only [List.length_cons]; omega)
            generalize hyl : (y :: ys).length = N4 at *
            have hy0 : N4 ≠ 0 := by rw [← hyl]; simp
            have HQ := Aside0.mk (show r = false by rw [HR.out]; exact sr_bad _ _ (by simp [bareR, bareV, hy0, hyl]))
            clear HG HF
            go_enter Tryz.func59, Tryz.ntmps59
            go_wp2
            go_ret
            exact ⟨by rw [HQ.out]; rfl, HB1.out⟩
          | nil =>
            have HQ := Aside0.mk (show r = true by rw [HR.out]; simp [soundR, bareV, bareR])
            clear HG HF
            go_enter Tryz.func59, Tryz.ntmps59
            have hmm := @run_makeMap Tryz.prog
            go_wp2_with fail
            clear hmm
            have HB2 := Aside0.mk (HB1.out.alloc (by simp) (.map #[] 0))
            clear HB1
            go_loopg [6] 0 (fun kq v6 w2 => kq = 0 ∧ v6 = .int .i64 0 ∧ Aside0 (Below w.heap.size w w2) ∧ w2.cell? ⟨w.heap.size, 3, none⟩ = some (.slice A3 0 c3))
            case atStart => exact ⟨rfl, rfl, HB2, by go_simp⟩
            case round =>
              obtain ⟨hk, rfl, HBW, hc3⟩ := hrel
              subst hk
              go_wp2
              go_ret
              exact ⟨by rw [HQ.out]; rfl, HBW.out⟩
    · have hn1 : (n == 0) = false := by simpa using hn
      have hn2 : (n != 0) = true := by simpa using hn
      have HQ := Aside0.mk (show r = false by rw [HR.out]; exact sr_bad _ _ (by simp [bareR, bareV, hn]))
      clear HG HF
      go_enter Tryz.func59, Tryz.ntmps59
      go_wp2
      go_ret
      exact ⟨by rw [HQ.out]; rfl, HB1.out⟩
  · skip
    by_cases k2 : K = 2
    · subst k2
      by_cases hn : n = 0
      · subst hn
        cases t with
        | cons a t =>
          have hta : ((a :: t) == []) = false := rfl
          have HQ := Aside0.mk (show r = false by rw [HR.out]; exact sr_bad _ _ (by simp [bareR, bareV]))
          clear HG HF
          go_enter Tryz.func59, Tryz.ntmps59
          go_wp2
          go_ret
          exact ⟨by rw [HQ.out]; rfl, HB1.out⟩
        | nil =>
          cases l3 with
          | cons y ys =>
            have q1 : decide (((y :: ys).length : Int) > 0) = true := decide_eq_true (by simp only [List.length_cons]; omega)
            have q2 : decide ((0 : Int) < ((y :: ys).length : Int)) = true := decide_eq_true (by simp only [List.length_cons]; omega)
            have q3 : decide (0 < (y :: ys).length) = true := decide_eq_true (by simp only [List.length_cons]; omega)
            generalize hyl : (y :: ys).length = N3 at *
            have hy0 : N3 ≠ 0 := by rw [← hyl]; simp
            have HQ := Aside0.mk (show r = false by rw [HR.out]; exact sr_bad _ _ (by simp [bareR, bareV, hy0, hyl]))
            clear HG HF
            go_enter Tryz.func59, Tryz.ntmps59
            go_wp2
            go_ret
            exact ⟨by rw [HQ.out]; rfl, HB1.out⟩
          | nil =>
            cases l4 with
            | cons y ys =>
              have q1 : decide (((y :: ys).length : Int) > 0) = true := decide_eq_true (by simp only [List.length_cons]; omega)
              have q2 : decide ((0 : Int) < ((y :: ys).length : Int)) = true := decide_eq_true (by simp only [List.length_cons]; omega)
              have q3 : decide (0 < (y :: ys).length) = true := decide_eq_true (by simp only [List.length_cons]; omega)
              generalize hyl : (y :: ys).length = N4 at *
              have hy0 : N4 ≠ 0 := by rw [← hyl]; simp
              have HQ := Aside0.mk (show r = false by rw [HR.out]; exact sr_bad _ _ (by simp [bareR, bareV, hy0, hyl]))
              clear HG HF
              go_enter Tryz.func59, Tryz.ntmps59
              go_wp2
              go_ret
              exact ⟨by rw [HQ.out]; rfl, HB1.out⟩
            | nil =>
              have HQ := Aside0.mk (show r = true by rw [HR.out]; simp [soundR, bareV, bareR])
              clear HG HF
              go_enter Tryz.func59, Tryz.ntmps59
              have hmm := @run_makeMap Tryz.prog
              go_wp2_with fail
              clear hmm
              have HB2 := Aside0.mk (HB1.out.alloc (by simp) (.map #[] 0))
              clear HB1
              go_loopg [6] 0 (fun kq v6 w2 => kq = 0 ∧ v6 = .int .i64 0 ∧ Aside0 (Below w.heap.size w w2) ∧ w2.cell? ⟨w.heap.size, 3, none⟩ = some (.slice A3 0 c3))
              case atStart => exact ⟨rfl, rfl, HB2, by go_simp⟩
              case round =>
                obtain ⟨hk, rfl, HBW, hc3⟩ := hrel
                subst hk
                go_wp2
                go_ret
                exact ⟨by rw [HQ.out]; rfl, HBW.out⟩
      · by_cases hm : n = 1
        · subst hm
          cases t with
          | cons a t =>
            have hta : ((a :: t) == []) = false := rfl
            have HQ := Aside0.mk (show r = false by rw [HR.out]; exact sr_bad _ _ (by simp [bareR, bareV]))
            clear HG HF
            go_enter Tryz.func59, Tryz.ntmps59
            go_wp2
            go_ret
            exact ⟨by rw [HQ.out]; rfl, HB1.out⟩
          | nil =>
            cases l3 with
            | cons y ys =>
              have q1 : decide (((y :: ys).length : Int) > 0) = true := decide_eq_true (by simp only [List.length_cons]; omega)
              have q2 : decide ((0 : Int) < ((y :: ys).length : Int)) = true := decide_eq_true (by simp only [List.length_cons]; omega)
              have q3 : decide (0 < (y :: ys).length) = true := decide_eq_true (by simp only [List.length_cons]; omega)
              generalize hyl : (y :: ys).length = N3 at *
              have hy0 : N3 ≠ 0 := by rw [← hyl]; simp
              have HQ := Aside0.mk (show r = false by rw [HR.out]; exact sr_bad _ _ (by simp [bareR, bareV, hy0, hyl]))
              clear HG HF
              go_enter Tryz.func59, Tryz.ntmps59
              go_wp2
              go_ret
              exact ⟨by rw [HQ.out]; rfl, HB1.out⟩
            | nil =>
              cases l4 with
              | cons y ys =>
                have q1 : decide (((y :: ys).length : Int) > 0) = true := decide_eq_true (by simp only [List.length_cons]; omega)
                have q2 : decide ((0 : Int) < ((y :: ys).length : Int)) = true := decide_eq_true (by simp only [List.length_cons]; omega)
                have q3 : decide (0 < (y :: ys).length) = true := decide_eq_true (by simp only [List.length_cons]; omega)
                generalize hyl : (y :: ys).length = N4 at *
                have hy0 : N4 ≠ 0 := by rw [← hyl]; simp
                have HQ := Aside0.mk (show r = false by rw [HR.out]; exact sr_bad _ _ (by simp [bareR, bareV, hy0, hyl]))
                clear HG HF
                go_enter Tryz.func59, Tryz.ntmps59
                go_wp2
                go_ret
                exact ⟨by rw [HQ.out]; rfl, HB1.out⟩
              | nil =>
                have HQ := Aside0.mk (show r = true by rw [HR.out]; simp [soundR, bareV, bareR])
                clear HG HF
                go_enter Tryz.func59, Tryz.ntmps59
                have hmm := @run_makeMap Tryz.prog
                go_wp2_with fail
                clear hmm
                have HB2 := Aside0.mk (HB1.out.alloc (by simp) (.map #[] 0))
                clear HB1
                go_loopg [6] 0 (fun kq v6 w2 => kq = 0 ∧ v6 = .int .i64 0 ∧ Aside0 (Below w.heap.size w w2) ∧ w2.cell? ⟨w.heap.size, 3, none⟩ = some (.slice A3 0 c3))
                case atStart => exact ⟨rfl, rfl, HB2, by go_simp⟩
                case round =>
                  obtain ⟨hk, rfl, HBW, hc3⟩ := hrel
                  subst hk
                  go_wp2
                  go_ret
                  exact ⟨by rw [HQ.out]; rfl, HBW.out⟩
        · have hn1 : (n == 0) = false := by simpa using hn
          have hn2 : (n != 0) = true := by simpa using hn
          have hm1 : (n == 1) = false := by simpa using hm
          have hm2 : (n != 1) = true := by simpa using hm
          have HQ := Aside0.mk (show r = false by rw [HR.out]; exact sr_bad _ _ (by simp [bareR, bareV, hn, hm]))
          clear HG HF
          go_enter Tryz.func59, Tryz.ntmps59
          go_wp2
          go_ret
          exact ⟨by rw [HQ.out]; rfl, HB1.out⟩
    · skip
      by_cases k3 : K = 3
      · subst k3
        cases t with
        | cons a t =>
          have hta : ((a :: t) == []) = false := rfl
          have HQ := Aside0.mk (show r = false by rw [HR.out]; exact sr_bad _ _ (by simp [bareR, bareV]))
          clear HG HF
          go_enter Tryz.func59, Tryz.ntmps59
          go_wp2
          go_ret
          exact ⟨by rw [HQ.out]; rfl, HB1.out⟩
        | nil =>
          cases l3 with
          | cons y ys =>
            have q1 : decide (((y :: ys).length : Int) > 0) = true := decide_eq_true (by simp only [List.length_cons]; omega)
            have q2 : decide ((0 : Int) < ((y :: ys).length : Int)) = true := decide_eq_true (by simp only [List.length_cons]; omega)
            have q3 : decide (0 < (y :: ys).length) = true := decide_eq_true (by simp only [List.length_cons]; omega)
            generalize hyl : (y :: ys).length = N3 at *
            have hy0 : N3 ≠ 0 := by rw [← hyl]; simp
            have HQ := Aside0.mk (show r = false by rw [HR.out]; exact sr_bad _ _ (by simp [bareR, bareV, hy0, hyl]))
            clear HG HF
            go_enter Tryz.func59, Tryz.ntmps59
            go_wp2
            go_ret
            exact ⟨by rw [HQ.out]; rfl, HB1.out⟩
          | nil =>
            cases l4 with
            | cons y ys =>
              have q1 : decide (((y :: ys).length : Int) > 0) = true := decide_eq_true (by simp only [List.length_cons]; omega)
              have q2 : decide ((0 : Int) < ((y :: ys).length : Int)) = true := decide_eq_true (by simp only [List.length_cons]; omega)
              have q3 : decide (0 < (y :: ys).length) = true := decide_eq_true (by simp only [List.length_cons]; omega)
              generalize hyl : (y :: ys).length = N4 at *
              have hy0 : N4 ≠ 0 := by rw [← hyl]; simp
              have HQ := Aside0.mk (show r = false by rw [HR.out]; exact sr_bad _ _ (by simp [bareR, bareV, hy0, hyl]))
              clear HG HF
              go_enter Tryz.func59, Tryz.ntmps59
              go_wp2
              go_ret
              exact ⟨by rw [HQ.out]; rfl, HB1.out⟩
            | nil =>
              have HQ := Aside0.mk (show r = true by rw [HR.out]; simp [soundR, bareV, bareR])
              clear HG HF
              go_enter Tryz.func59, Tryz.ntmps59
              have hmm := @run_makeMap Tryz.prog
              go_wp2_with fail
              clear hmm
              have HB2 := Aside0.mk (HB1.out.alloc (by simp) (.map #[] 0))
              clear HB1
              go_loopg [6] 0 (fun kq v6 w2 => kq = 0 ∧ v6 = .int .i64 0 ∧ Aside0 (Below w.heap.size w w2) ∧ w2.cell? ⟨w.heap.size, 3, none⟩ = some (.slice A3 0 c3))
              case atStart => exact ⟨rfl, rfl, HB2, by go_simp⟩
              case round =>
                obtain ⟨hk, rfl, HBW, hc3⟩ := hrel
                subst hk
                go_wp2
                go_ret
                exact ⟨by rw [HQ.out]; rfl, HBW.out⟩
      · skip
        by_cases k4 : K = 4
        · subst k4
          by_cases hn : n = 0
          · subst hn
            cases l3 with
            | cons y ys =>
              have q1 : decide (((y :: ys).length : Int) > 0) = true := decide_eq_true (by simp only [List.length_cons]; omega)
              have q2 : decide ((0 : Int) < ((y :: ys).length : Int)) = true := decide_eq_true (by simp only [List.length_cons]; omega)
              have q3 : decide (0 < (y :: ys).length) = true := decide_eq_true (by simp only [List.length_cons]; omega)
              generalize hyl : (y :: ys).length = N3 at *
              have hy0 : N3 ≠ 0 := by rw [← hyl]; simp
              have HQ := Aside0.mk (show r = false by rw [HR.out]; exact sr_bad _ _ (by simp [bareR, bareV, hy0, hyl]))
              clear HG HF
              go_enter Tryz.func59, Tryz.ntmps59
              go_wp2
              go_ret
              exact ⟨by rw [HQ.out]; rfl, HB1.out⟩
            | nil =>
              cases l4 with
              | cons y ys =>
                have q1 : decide (((y :: ys).length : Int) > 0) = true := decide_eq_true (by simp only [List.length_cons]; omega)
                have q2 : decide ((0 : Int) < ((y :: ys).length : Int)) = true := decide_eq_true (by simp only [List.length_cons]; omega)
                have q3 : decide (0 < (y :: ys).length) = true := decide_eq_true (by simp only [List.length_cons]; omega)
                generalize hyl : (y :: ys).length = N4 at *
                have hy0 : N4 ≠ 0 := by rw [← hyl]; simp
                have HQ := Aside0.mk (show r = false by rw [HR.out]; exact sr_bad _ _ (by simp [bareR, bareV, hy0, hyl]))
                clear HG HF
                go_enter Tryz.func59, Tryz.ntmps59
                go_wp2
                go_ret
                exact ⟨by rw [HQ.out]; rfl, HB1.out⟩
              | nil =>
                have HQ := Aside0.mk (show r = true by rw [HR.out]; simp [soundR, bareV, bareR])
                clear HG HF
                go_enter Tryz.func59, Tryz.ntmps59
                have hmm := @run_makeMap Tryz.prog
                go_wp2_with fail
                clear hmm
                have HB2 := Aside0.mk (HB1.out.alloc (by simp) (.map #[] 0))
                clear HB1
                go_loopg [6] 0 (fun kq v6 w2 => kq = 0 ∧ v6 = .int .i64 0 ∧ Aside0 (Below w.heap.size w w2) ∧ w2.cell? ⟨w.heap.size, 3, none⟩ = some (.slice A3 0 c3))
                case atStart => exact ⟨rfl, rfl, HB2, by go_simp⟩
                case round =>
                  obtain ⟨hk, rfl, HBW, hc3⟩ := hrel
                  subst hk
                  go_wp2
                  go_ret
                  exact ⟨by rw [HQ.out]; rfl, HBW.out⟩
          · have hn1 : (n == 0) = false := by simpa using hn
            have hn2 : (n != 0) = true := by simpa using hn
            have HQ := Aside0.mk (show r = false by rw [HR.out]; exact sr_bad _ _ (by simp [bareR, bareV, hn]))
            clear HG HF
            go_enter Tryz.func59, Tryz.ntmps59
            go_wp2
            go_ret
            exact ⟨by rw [HQ.out]; rfl, HB1.out⟩
        · skip
          by_cases k5 : K = 5
          · subst k5
            by_cases hn : n = 0
            · subst hn
              cases t with
              | cons a t =>
                have hta : ((a :: t) == []) = false := rfl
                have HQ := Aside0.mk (show r = false by rw [HR.out]; exact sr_bad _ _ (by simp [bareR, bareV]))
                clear HG HF
                go_enter Tryz.func59, Tryz.ntmps59
                go_wp2
                go_ret
                exact ⟨by rw [HQ.out]; rfl, HB1.out⟩
              | nil =>
                cases l4 with
                | cons y ys =>
                  have q1 : decide (((y :: ys).length : Int) > 0) = true := decide_eq_true (by simp only [List.length_cons]; omega)
                  have q2 : decide ((0 : Int) < ((y :: ys).length : Int)) = true := decide_eq_true (by simp only [List.length_cons]; omega)
                  have q3 : decide (0 < (y :: ys).length) = true := decide_eq_true (by simp only [List.length_cons]; omega)
                  generalize hyl : (y :: ys).length = N4 at *
                  have hy0 : N4 ≠ 0 := by rw [← hyl]; simp
                  have HQ := Aside0.mk (show r = false by rw [HR.out]; exact sr_bad _ _ (by simp [bareR, bareV, hy0, hyl]))
                  clear HG HF
                  go_enter Tryz.func59, Tryz.ntmps59
                  go_wp2
                  go_ret
                  exact ⟨by rw [HQ.out]; rfl, HB1.out⟩
                | nil =>
                  have HQ := Aside0.mk (show r = l3.all (soundR d) by rw [HR.out]; simp [soundR, bareV, bareR])
                  clear HR
                  go_enter Tryz.func59, Tryz.ntmps59
                  have hmm := @run_makeMap Tryz.prog
                  go_wp2_with fail
                  clear hmm
                  have HB2 := Aside0.mk (HB1.out.alloc (by simp) (.map #[] 0))
                  have HV2 := Aside0.mk (blkA NV.out (.map #[] 0))
                  have HC3 := Aside0.mk HG.out.1
                  clear HB1 NV
                  go_loopg [6] l3.length (fun kq v6 w2 => ∃ i : Nat, i + kq = l3.length ∧ v6 = .int .i64 i ∧ Aside0 (∀ y ∈ l3.take i, soundR d y = true) ∧ Aside0 (Below w.heap.size w w2) ∧ Aside0 (w2.heap[w.heap.size]? = some (.cells #[.int .i64 5, .int .i64 0, .string ⟨#[]⟩, .slice A3 l3.length c3, .slice A4 0 c4] 26 (0, 0))))
                  case atStart => exact ⟨0, by omega, rfl, Aside0.mk (by simp), HB2, HV2⟩
                  case round =>
                    obtain ⟨i, hi, rfl, HI, HBW, HV⟩ := hrel
                    clear HB2 HV2
                    have y0 : wr.cell? ⟨w.heap.size, 0, none⟩ = some (.int .i64 5) := blk_cell HV.out 0
                    have y3 : wr.cell? ⟨w.heap.size, 3, none⟩ = some (.slice A3 l3.length c3) := blk_cell HV.out 3
                    cases gk with
                    | zero =>
                      have hge : ¬ ((i : Nat) : Int) < (l3.length : Int) := by omega
                      have hr1 : r = true := by
                        rw [HQ.out, List.all_eq_true]
                        have h := HI.out
                        rw [List.take_of_length_le (by omega)] at h
                        exact h
                      subst hr1
                      go_wp2
                      go_ret
                      exact ⟨rfl, HBW.out⟩
                    | succ i1 =>
                      have hlt : ((i : Nat) : Int) < (l3.length : Int) := by omega
                      have hlt' : i < l3.length := by omega
                      obtain ⟨ad, B3, e3, B4, e4, e, x0, x1, x2, x3, x4, m3, p3, m4, p4⟩ := at_T26 (Kd.C_below HC3.out HBW.out) i (by omega) hlt
                      cases e
                      have hrd : rd_T26 l3 i = l3[i] := by simp [rd_T26, List.getD, List.getElem?_eq_getElem hlt']
                      rw [hrd] at x0 x1 x2 x3 x4 m3 p3 m4 p4
                      rw [Int.toNat_natCast] at x0 x1 x2 x3 x4
                      have HI9 := Aside0.mk hi
                      have HPK := Aside0.mk (show l3.take (i + 1) = l3.take i ++ [l3[i]] from List.take_succ_eq_append_getElem hlt')
                      have HMEM := Aside0.mk (show l3[i] ∈ l3 from List.getElem_mem _)
                      have HCL := Aside0.mk (HIH.out l3[i] B3 e3 B4 e4 wr (HF.out.2.2 _ HMEM.out) m3 p3 m4 p4)
                      clear hrd p3 p4 m3 m4 hi
                      generalize l3[i] = y at *
                      unfold vArg at HCL
                      go_wp2_with fail
                      refine HCL.out.mono ?_
                      rintro e w3 ⟨rfl, hb3⟩
                      have HB3 := Aside0.mk (HBW.out.trans (hb3.mono HBW.out.size))
                      have HV3 := Aside0.mk (blk_below HV.out hb3)
                      clear hb3 x0 x1 x2 x3 x4
                      have y0' : w3.cell? ⟨w.heap.size, 0, none⟩ = some (.int .i64 5) := blk_cell HV3.out 0
                      cases hpx : soundR d y with
                      | false =>
                        have hr1 : r = false := by
                          rw [HQ.out, List.all_eq_false]
                          exact ⟨y, HMEM.out, by rw [hpx]; exact Bool.false_ne_true⟩
                        subst hr1
                        go_wp2
                        go_ret
                        exact ⟨rfl, HB3.out⟩
                      | true =>
                        have HI2 := Aside0.mk (show ∀ z ∈ l3.take (i + 1), soundR d z = true by
                          intro z hz
                          rw [HPK.out, List.mem_append] at hz
                          rcases hz with hz | hz
                          · exact HI.out z hz
                          · rw [List.mem_singleton.1 hz]
                            exact hpx)
                        clear hpx
                        go_wp2
                        go_roundg i1
                        case measure => omega
                        case rel => exact ⟨i + 1, by have := HI9.out; omega, by go_num, HI2, HB3, HV3⟩
            · have hn1 : (n == 0) = false := by simpa using hn
              have hn2 : (n != 0) = true := by simpa using hn
              have HQ := Aside0.mk (show r = false by rw [HR.out]; exact sr_bad _ _ (by simp [bareR, bareV, hn]))
              clear HG HF
              go_enter Tryz.func59, Tryz.ntmps59
              go_wp2
              go_ret
              exact ⟨by rw [HQ.out]; rfl, HB1.out⟩
          · skip
            by_cases k6 : K = 6
            · subst k6
              by_cases hn : n = 0
              · subst hn
                cases t with
                | cons a t =>
                  have hta : ((a :: t) == []) = false := rfl
                  have HQ := Aside0.mk (show r = false by rw [HR.out]; exact sr_bad _ _ (by simp [bareR, bareV]))
                  clear HG HF
                  go_enter Tryz.func59, Tryz.ntmps59
                  go_wp2
                  go_ret
                  exact ⟨by rw [HQ.out]; rfl, HB1.out⟩
                | nil =>
                  by_cases hne : l4.length = l3.length
                  · have q1 : ((l4.length : Int) != (l3.length : Int)) = false := by simp [hne]
                    have q2 : ((l4.length : Int) == (l3.length : Int)) = true := by simp [hne]
                    have HQ := Aside0.mk (show r = (decide l4.Nodup && l3.all (soundR d)) by rw [HR.out]; simp [soundR, bareV, bareR, hne])
                    clear HR
                    have HNE := Aside0.mk hne
                    have hsame : (l4.length : Int) = (l3.length : Int) := by omega
                    have HSAME := Aside0.mk hsame
                    clear hne hsame
                    go_enter Tryz.func59, Tryz.ntmps59
                    have hmm := @run_makeMap Tryz.prog
                    go_wp2_with fail
                    clear hmm
                    have HB2 := Aside0.mk (HB1.out.alloc (by simp) (.map #[] 0))
                    have HV2 := Aside0.mk (blkA NV.out (.map #[] 0))
                    have HC3 := Aside0.mk HG.out.1
                    have HC4 := Aside0.mk HG.out.2
                    have HM2 := Aside0.mk (MapL.Is.made Value.string (w.alloc (.cells #[.int .i64 6, .int .i64 0, .string ⟨#[]⟩, .slice A3 l3.length c3, .slice A4 l4.length c4] 26 (0, 0))))
                    clear HB1 NV q1 q2
                    go_loopg [6] l3.length (fun kq v6 w2 => ∃ i : Nat, i + kq = l3.length ∧ v6 = .int .i64 i ∧ Aside0 ((∀ y ∈ l3.take i, soundR d y = true) ∧ (l4.take i).Nodup) ∧ Aside0 (Below w.heap.size w w2) ∧ Aside0 (w2.heap[w.heap.size]? = some (.cells #[.int .i64 6, .int .i64 0, .string ⟨#[]⟩, .slice A3 l3.length c3, .slice A4 l4.length c4] 26 (0, 0))) ∧ Aside0 (MapL.Is Value.string w2 (w.heap.size + 1) (seenTo l4 i)))
                    case atStart => exact ⟨0, by omega, rfl, Aside0.mk (by simp), HB2, HV2, Aside0.mk (by have := HM2.out; rwa [World.size_alloc] at this)⟩
                    case round =>
                      obtain ⟨i, hi, rfl, HI, HBW, HV, HM⟩ := hrel
                      clear HB2 HV2 HM2
                      have y0 : wr.cell? ⟨w.heap.size, 0, none⟩ = some (.int .i64 6) := blk_cell HV.out 0
                      have y3 : wr.cell? ⟨w.heap.size, 3, none⟩ = some (.slice A3 l3.length c3) := blk_cell HV.out 3
                      cases gk with
                      | zero =>
                        have hge : ¬ ((i : Nat) : Int) < (l3.length : Int) := by omega
                        have hr1 : r = true := by
                          obtain ⟨h1, h2⟩ := HI.out
                          rw [List.take_of_length_le (by omega)] at h1
                          rw [List.take_of_length_le (by have := HNE.out; omega)] at h2
                          rw [HQ.out, decide_eq_true h2, Bool.true_and, List.all_eq_true]
                          exact h1
                        subst hr1
                        go_wp2
                        go_ret
                        exact ⟨rfl, HBW.out⟩
                      | succ i1 =>
                        have hlt : ((i : Nat) : Int) < (l3.length : Int) := by omega
                        have hlt' : i < l3.length := by omega
                        obtain ⟨ad, B3, e3, B4, e4, e, x0, x1, x2, x3, x4, m3, p3, m4, p4⟩ := at_T26 (Kd.C_below HC3.out HBW.out) i (by omega) hlt
                        cases e
                        have hrd : rd_T26 l3 i = l3[i] := by simp [rd_T26, List.getD, List.getElem?_eq_getElem hlt']
                        rw [hrd] at x0 x1 x2 x3 x4 m3 p3 m4 p4
                        rw [Int.toNat_natCast] at x0 x1 x2 x3 x4
                        have HI9 := Aside0.mk hi
                        have HPK := Aside0.mk (show l3.take (i + 1) = l3.take i ++ [l3[i]] from List.take_succ_eq_append_getElem hlt')
                        have HMEM := Aside0.mk (show l3[i] ∈ l3 from List.getElem_mem _)
                        have HCL := Aside0.mk (HIH.out l3[i] B3 e3 B4 e4 wr (HF.out.2.2 _ HMEM.out) m3 p3 m4 p4)
                        have HLT := Aside0.mk hlt'
                        clear hrd p3 p4 m3 m4 hi
                        generalize l3[i] = y at *
                        unfold vArg at HCL
                        go_wp2_with fail
                        refine HCL.out.mono ?_
                        rintro e w3 ⟨rfl, hb3⟩
                        have HB3 := Aside0.mk (HBW.out.trans (hb3.mono HBW.out.size))
                        have HV3 := Aside0.mk (blk_below HV.out hb3)
                        have HM3 := Aside0.mk (HM.out.same (hb3.block _ HM.out.lt))
                        clear hb3 x0 x1 x2 x3 x4 y0 y3
                        have y0' : w3.cell? ⟨w.heap.size, 0, none⟩ = some (.int .i64 6) := blk_cell HV3.out 0
                        have y4' : w3.cell? ⟨w.heap.size, 4, none⟩ = some (.slice A4 l4.length c4) := blk_cell HV3.out 4
                        cases hpx : soundR d y with
                        | false =>
                          have hr1 : r = false := by
                            rw [HQ.out, Bool.and_eq_false_iff]
                            right
                            rw [List.all_eq_false]
                            exact ⟨y, HMEM.out, by rw [hpx]; exact Bool.false_ne_true⟩
                          subst hr1
                          go_wp2
                          go_ret
                          exact ⟨rfl, HB3.out⟩
                        | true =>
                          have HI2 := Aside0.mk (show ∀ z ∈ l3.take (i + 1), soundR d z = true by
                            intro z hz
                            rw [HPK.out, List.mem_append] at hz
                            rcases hz with hz | hz
                            · exact HI.out.1 z hz
                            · rw [List.mem_singleton.1 hz]
                              exact hpx)
                          clear hpx
                          have hl4 : i < l4.length := by have := HNE.out; omega
                          have hl4z : ((i : Nat) : Int) < (l4.length : Int) := by omega
                          obtain ⟨ad4, cs, e, _, hK, hc0⟩ := Kd.C_get (Kd.C_below HC4.out HB3.out) ByteArray.empty (i : Int) (by omega) hl4z
                          cases e
                          have hK' : cs = [.string (l4.getD i ByteArray.empty)] := by simpa [Kd.string, Kd.scalar] using hK
                          subst hK'
                          have r0 : w3.cell? (ad4.add i) = some (.string (l4.getD i ByteArray.empty)) := by
                            have := hc0 0 _ rfl
                            simpa [Kd.string, Kd.scalar] using this
                          have HTK := Aside0.mk (take_snoc l4 i hl4)
                          have HSN := Aside0.mk (seenTo_look l4 i (by omega) (l4.getD i ByteArray.empty))
                          have HST := Aside0.mk (show seenTo l4 (i + 1) = MapL.put (l4.getD i ByteArray.empty) (.int .i64 1) (seenTo l4 i) from rfl)
                          clear hK hc0
                          have HGD := Aside0.mk (show l4.getD i ByteArray.empty ∈ l4.drop i from by rw [List.getD_eq_getElem?_getD, List.getElem?_eq_getElem hl4]; exact List.mem_drop_iff_getElem.2 ⟨0, by simpa using hl4, by simp⟩)
                          generalize l4.getD i ByteArray.empty = nme at *
                          have HI3 := HI
                          by_cases hin : nme ∈ l4.take i
                          · have hr1 : r = false := by
                              rw [HQ.out, Bool.and_eq_false_iff]
                              left
                              rw [decide_eq_false_iff_not]
                              intro hnd
                              rw [← List.take_append_drop i l4, List.nodup_append] at hnd
                              exact hnd.2.2 _ hin _ HGD.out rfl
                            subst hr1
                            have hlook : (MapL.look nme (seenTo l4 i)).getD (.int .i64 0) = .int .i64 1 := by rw [HSN.out, if_pos hin]; rfl
                            have HLOOK := Aside0.mk hlook
                            clear hlook hin
                            have hlk := MapL.run_lookup HM3.out MapL.keyed_string Tryz.underlying112 Tryz.underlying9 (zero_int _) nme
                            rw [HLOOK.out] at hlk
                            go_wp2
                            go_ret
                            exact ⟨rfl, HB3.out⟩
                          · have hlook : (MapL.look nme (seenTo l4 i)).getD (.int .i64 0) = .int .i64 0 := by rw [HSN.out, if_neg hin]; rfl
                            have HLOOK := Aside0.mk hlook
                            have HND := Aside0.mk (show (l4.take (i + 1)).Nodup by
                              rw [HTK.out, List.nodup_append]
                              exact ⟨HI3.out.2, by simp, fun a ha b hb => by rw [List.mem_singleton.1 hb]; rintro rfl; exact hin ha⟩)
                            clear hlook hin
                            have hlk := MapL.run_lookup HM3.out MapL.keyed_string Tryz.underlying112 Tryz.underlying9 (zero_int _) nme
                            rw [HLOOK.out] at hlk
                            go_wp2_with (first | (refine MapL.wp_update _ rfl (.tmp 124) (.tmp 129) (.const (.int .i64 1)) _ rfl _ _ MapL.keyed_string Tryz.underlying112 Tryz.underlying9 (w.heap.size + 1) _ rfl HM3.out nme (.int .i64 1) (by rfl) (by rfl) ?_; intro w4 hm4 hg4; replace hm4 := Aside0.mk hm4; replace hg4 := Aside0.mk hg4))
                            go_roundg i1
                            case measure => omega
                            case rel => exact ⟨i + 1, by have := HI9.out; omega, by go_num, Aside0.mk ⟨HI2.out, HND.out⟩, Aside0.mk (HB3.out.grown hg4.out HB3.out.size (fun b e => by cases e; omega)), Aside0.mk ((hg4.out.block _ (blk_lt HV3.out) (by simp)).trans HV3.out), Aside0.mk (by rw [HST.out]; exact hm4.out)⟩
                  · have q1 : ((l4.length : Int) != (l3.length : Int)) = true := by simp; omega
                    have q2 : ((l4.length : Int) == (l3.length : Int)) = false := by simp; omega
                    have HQ := Aside0.mk (show r = false by rw [HR.out]; exact sr_bad _ _ (by simp [bareR, bareV, hne]))
                    clear HG HF
                    go_enter Tryz.func59, Tryz.ntmps59
                    go_wp2
                    go_ret
                    exact ⟨by rw [HQ.out]; rfl, HB1.out⟩
              · have hn1 : (n == 0) = false := by simpa using hn
                have hn2 : (n != 0) = true := by simpa using hn
                have HQ := Aside0.mk (show r = false by rw [HR.out]; exact sr_bad _ _ (by simp [bareR, bareV, hn]))
                clear HG HF
                go_enter Tryz.func59, Tryz.ntmps59
                go_wp2
                go_ret
                exact ⟨by rw [HQ.out]; rfl, HB1.out⟩
            · skip
              have HQ := Aside0.mk (show r = false by rw [HR.out]; exact sr_bad _ _ (by simp [bareR, bareV, k1, k2, k3, k4, k5, k6]))
              clear HG HF
              by_cases hlo : K < 1
              · have q1 : decide (K < 1) = true := decide_eq_true hlo
                have q2 : decide (K ≥ 5) = false := decide_eq_false (by omega)
                have q2' : decide ((5 : Int) ≤ K) = false := decide_eq_false (by omega)
                clear k1 k2 k3 k4 k5 k6 hlo
                go_enter Tryz.func59, Tryz.ntmps59
                go_wp2
                go_ret
                exact ⟨by rw [HQ.out]; rfl, HB1.out⟩
              · have q1 : decide (K < 1) = false := decide_eq_false hlo
                have q2 : decide (K ≥ 5) = true := decide_eq_true (by omega)
                have q2' : decide ((5 : Int) ≤ K) = true := decide_eq_true (by omega)
                have q3 : decide (K > 6) = true := decide_eq_true (by omega)
                have q3' : decide ((6 : Int) < K) = true := decide_eq_true (by omega)
                clear k1 k2 k3 k4 k5 k6 hlo
                go_enter Tryz.func59, Tryz.ntmps59
                go_wp2
                go_ret
                exact ⟨by rw [HQ.out]; rfl, HB1.out⟩
end Go.Proofs.YtegppkngdkkdcaaGreatDoor.Tr
end
section
set_option linter.unusedVariables false
set_option linter.unusedSimpArgs false
namespace Go.Proofs.YtegppkngdkkdcaaGreatDoor.RQ
open Go.RowKit Go.Proofs.YtegppkngdkkdcaaGreatDoorW.PrintWords Go.Proofs.YtegppkngdkkdcaaGreatDoorW.PrintLast Go.Proofs.YtegppkngdkkdcaaGreatDoorW.PrintMore
open Go.Proofs.YtegppkngdkkdcaaGreatDoor.Lx Go.Proofs.YtegppkngdkkdcaaGreatDoor.PS
def toB (l : List UInt8) : ByteArray := ⟨l.toArray⟩
theorem w64 (n : Int) (h0 : 0 ≤ n) (h1 : n < 9223372036854775808) : wrap64 n = n := by unfold wrap64; omega
theorem size_list (a : ByteArray) : a.size = a.data.toList.length := rfl
theorem bt_get (a : ByteArray) (i : Nat) (h : i < a.data.toList.length) : bt a (i : Int) = (a.data.toList[i].toNat : Int) := by
  have hlt : i < a.size := h
  unfold bt
  rw [Int.toNat_natCast, dif_pos hlt]
  rfl
theorem strOf_bytes (l : List UInt8) : strOfNums (l.map fun b => (b.toNat : Int)) = toB l := by
  unfold strOfNums toB
  rw [List.map_map]
  congr 2
  conv => rhs; rw [← List.map_id l]
  refine List.map_congr_left fun b _ => ?_
  simp
theorem hexC_bt : ∀ j : Nat, j < 16 → bt (⟨#[48, 49, 50, 51, 52, 53, 54, 55, 56, 57, 97, 98, 99, 100, 101, 102]⟩ : ByteArray) (j : Int) = ((hexC j).toNat : Int) := by decide +kernel
def ints (l : List UInt8) : List Int := l.map fun b => (b.toNat : Int)
theorem ints_app (a b : List UInt8) : ints a ++ ints b = ints (a ++ b) := by simp [ints]
theorem ints_len (a : List UInt8) : (ints a).length = a.length := by simp [ints]
theorem Quote_loop (a : ByteArray) (ha : a.data.toList.length ≤ 10000000000000) : ∀ (d k i : Nat) (acc : List UInt8), d = a.data.toList.length - i → i ≤ a.data.toList.length → acc.length ≤ 1 + 6 * i → 2 * d + 2 ≤ k →
    assizeref01_Quote.l0 k a (ints acc) (i : Int) = some (toB (acc ++ ((a.data.toList.drop i).flatMap quoteB ++ [34])))
  | 0, k, i, acc, hd, hi, hacc, hk => by
    obtain ⟨k, rfl⟩ : ∃ m, k = m + 1 := ⟨k - 1, by omega⟩
    simp only [assizeref01_Quote.l0]
    rw [if_neg (by rw [size_list]; omega), if_pos (by rw [ints_len]; omega), List.drop_eq_nil_of_le (by omega)]
    rw [show ([34] : List Int) = ints [34] from rfl, ints_app]
    exact congrArg some (strOf_bytes _)
  | d + 1, k, i, acc, hd, hi, hacc, hk => by
    obtain ⟨k, rfl⟩ : ∃ m, k = m + 2 := ⟨k - 2, by omega⟩
    have hlt : i < a.data.toList.length := by omega
    have hc : ∀ (m : UInt8) (z : Int), z = (m.toNat : Int) → (((a.data.toList[i].toNat : Int) = z) ↔ a.data.toList[i] = m) := fun m z hz => ⟨fun e => UInt8.toNat_inj.1 (by omega), fun e => by rw [e, hz]⟩
    have hdr : (a.data.toList.drop i).flatMap quoteB = quoteB a.data.toList[i] ++ (a.data.toList.drop (i + 1)).flatMap quoteB := by
      rw [List.drop_eq_getElem_cons hlt, List.flatMap_cons]
    have NEXT : ∀ ys : List UInt8, quoteB a.data.toList[i] = ys → assizeref01_Quote.l0 k a (ints acc ++ ints ys) (wrap64 ((i : Int) + 1)) = some (toB (acc ++ ((a.data.toList.drop i).flatMap quoteB ++ [34]))) := by
      intro ys hys
      have hl := quoteB_len a.data.toList[i]
      rw [hys] at hl
      rw [ints_app, w64 _ (by omega) (by omega), show ((i : Int) + 1) = ((i + 1 : Nat) : Int) by omega]
      rw [Quote_loop a ha d k (i + 1) (acc ++ ys) (by omega) (by omega) (by rw [List.length_append]; omega) (by omega), hdr, hys]
      simp only [List.append_assoc]
    have hal : (ints acc).length ≤ 1 + 6 * i := by rw [ints_len]; exact hacc
    simp only [assizeref01_Quote.l0]
    rw [if_pos (by rw [size_list]; omega), if_pos (by omega), bt_get a i hlt]
    have TWO : a.data.toList[i] = 34 ∨ a.data.toList[i] = 92 → assizeref01_Quote.j1 (k + 1) a (ints acc) (i : Int) (a.data.toList[i].toNat : Int) true = some (toB (acc ++ ((a.data.toList.drop i).flatMap quoteB ++ [34]))) := by
      intro h
      simp only [assizeref01_Quote.j1]
      rw [if_pos trivial, Option.bind_some, if_pos (by simp only [List.length_cons, List.length_nil]; omega)]
      exact NEXT [92, a.data.toList[i]] (by unfold quoteB; rw [if_pos h])
    by_cases q1 : a.data.toList[i] = 34
    · rw [if_pos ((hc 34 34 rfl).2 q1)]
      exact TWO (.inl q1)
    · rw [if_neg (fun h => q1 ((hc 34 34 rfl).1 h))]
      by_cases q2 : a.data.toList[i] = 92
      · rw [show (((a.data.toList[i].toNat : Nat) : Int) == 92) = true from beq_iff_eq.2 ((hc 92 92 rfl).2 q2)]
        exact TWO (.inr q2)
      · rw [show (((a.data.toList[i].toNat : Nat) : Int) == 92) = false from beq_eq_false_iff_ne.2 (fun h => q2 ((hc 92 92 rfl).1 h))]
        simp only [assizeref01_Quote.j1]
        rw [if_neg (by decide)]
        have hno : ¬ (a.data.toList[i] = 34 ∨ a.data.toList[i] = 92) := fun h => h.elim q1 q2
        by_cases q3 : a.data.toList[i] = 10
        · rw [if_pos ((hc 10 10 rfl).2 q3), Option.bind_some, if_pos (by simp only [List.length_cons, List.length_nil]; omega)]
          exact NEXT [92, 110] (by unfold quoteB; rw [if_neg hno, if_pos q3])
        · rw [if_neg (fun h => q3 ((hc 10 10 rfl).1 h))]
          by_cases q4 : a.data.toList[i] = 9
          · rw [if_pos ((hc 9 9 rfl).2 q4), Option.bind_some, if_pos (by simp only [List.length_cons, List.length_nil]; omega)]
            exact NEXT [92, 116] (by unfold quoteB; rw [if_neg hno, if_neg q3, if_pos q4])
          · rw [if_neg (fun h => q4 ((hc 9 9 rfl).1 h))]
            by_cases q5 : a.data.toList[i].toNat < 32
            · have e1 : ((a.data.toList[i].toNat : Nat) : Int) / 16 = ((a.data.toList[i].toNat / 16 : Nat) : Int) := by omega
              have e2 : Go.bits .and .u8 ((a.data.toList[i].toNat : Nat) : Int) 15 = ((a.data.toList[i].toNat % 16 : Nat) : Int) := (u8_and15 (x := ((a.data.toList[i].toNat : Nat) : Int)) (by omega) (by have := UInt8.toNat_lt a.data.toList[i]; omega)).trans (by omega)
              rw [if_pos (by omega), e1, e2, if_pos (by omega), if_pos (by omega), if_pos (by omega), if_pos (by omega), Option.bind_some, if_pos (by simp only [List.length_cons, List.length_nil]; omega), hexC_bt _ (by omega), hexC_bt _ (by omega)]
              exact NEXT [92, 117, 48, 48, hexC (a.data.toList[i].toNat / 16), hexC (a.data.toList[i].toNat % 16)] (by unfold quoteB; rw [if_neg hno, if_neg q3, if_neg q4, if_pos q5])
            · rw [if_neg (by omega), if_pos (by omega)]
              exact NEXT [a.data.toList[i]] (by unfold quoteB; rw [if_neg hno, if_neg q3, if_neg q4, if_neg q5])
theorem Quote_pure (a : ByteArray) (ha : a.data.toList.length ≤ 10000000000000) (k : Nat) (hk : 2 * a.data.toList.length + 2 ≤ k) : assizeref01_Quote.f k a = some (toB (quoteR a.data.toList)) := by
  unfold assizeref01_Quote.f
  rw [show ([34] : List Int) = ints [34] from rfl, show (0 : Int) = ((0 : Nat) : Int) from rfl, Quote_loop a ha a.data.toList.length k 0 [34] rfl (by omega) (by simp) hk]
  rfl
theorem refQuote_calls (t : List UInt8) (w : World) (ht : t.length ≤ 10000000000000) : Calls Tryz.prog 60 #[.string ⟨t.toArray⟩] w fun e w' => e = .returned (.string ⟨(quoteR t).toArray⟩) ∧ Below w.heap.size w w' :=
  assizeref01_Quote.calls (2 * t.length + 2) ⟨t.toArray⟩ ⟨(quoteR t).toArray⟩ w (Quote_pure ⟨t.toArray⟩ ht _ (Nat.le_refl _))
end Go.Proofs.YtegppkngdkkdcaaGreatDoor.RQ
end
section
set_option linter.unusedVariables false
set_option linter.unusedSimpArgs false
namespace Go.Proofs.YtegppkngdkkdcaaGreatDoor.Tr
open Go.RowKit Go.Proofs.YtegppkngdkkdcaaGreatDoorW.PrintWords Go.Proofs.YtegppkngdkkdcaaGreatDoorW.PrintLast Go.Proofs.YtegppkngdkkdcaaGreatDoorW.PrintMore
open Go.Proofs.YtegppkngdkkdcaaGreatDoor.Lx Go.Proofs.YtegppkngdkkdcaaGreatDoor.PS
theorem rsound_calls : ∀ d, d ≤ 8 → RSoundC d
  | 0, _ => rsound_zero
  | d + 1, h => rsound_succ d (by omega) (rsound_calls d (by omega))
def OwnB (Br : Nat) (v : Value) (bs : List UInt8) (w : World) : Prop := w.ownsRow Br 5 1 v bs.length (Lib.byteCells bs)
theorem kept_grown {Br : Nat} {v : Value} {bs : List UInt8} {w w' : World} (h : OwnB Br v bs w) (hg : w.grownBy w' v.ownBlock) : KeptT w w' := by
  intro k cs e
  refine (hg.block k (blk_lt e) ?_).trans e
  intro ho
  obtain ⟨c, fz, hc⟩ := Lib.ownsRow_kind h k ho.symm
  rw [hc] at e
  injection e with e
  injection e with _ e _
  exact absurd e (by decide)
theorem ownB_below {Br : Nat} {v : Value} {bs : List UInt8} {w w' : World} (h : OwnB Br v bs w) (hb : Below w.heap.size w w') : OwnB Br v bs w' :=
  World.ownsRow.kept (row := none) h ⟨hb.os, hb.tape, hb.output, hb.size, fun k hk _ => hb.block k hk⟩ (by cases v.ownBlock <;> simp)
theorem ownB_nil (Br : Nat) (w : World) : OwnB Br (.slice none 0 0) [] w := World.ownsRow_nil _ _ _ _
theorem strCells_data (y : ByteArray) : Lib.strCells y = Lib.byteCells y.data.toList := by simp [Lib.strCells, Lib.byteCells]
section
variable {ops : Array Oper} {rest : List Oper} {o : Oper} {a : Act} {Q : Exit → Act → World → Prop}
theorem put_str {W : World} (Br : Nat) (hgd : o.guard = none) (s x : Operand) (ho : o.op = .call { callee := .builtin .append, args := #[s, x], argTypes := #[63, 9] })
    (v : Value) (bs : List UInt8) (y : ByteArray) (hs : a.eval s = v) (hx : a.eval x = .string y) (HO : OwnB Br v bs W) (hB : Br ≤ W.heap.size) (hl : bs.length + y.size ≤ 140737488355328)
    (h : ∀ v1 w1, OwnB Br v1 (bs ++ y.data.toList) w1 → Below Br W w1 → KeptT W w1 → wpList Tryz.prog ops Q rest (a.put o.dst v1) w1) : wpList Tryz.prog ops Q (o :: rest) a W := by
  have hinfo : (Tryz.prog.info? 5).map (fun i => (i.zero, i.size, i.bytes)) = some (some (.int .u8 0), 1, 1) := by kernel_rfl
  obtain ⟨i0, hi, hzz⟩ := Option.map_eq_some_iff.1 hinfo
  simp only [Prod.mk.injEq] at hzz
  obtain ⟨hz0, hz1, hz2⟩ := hzz
  refine Lib.wpList_append_own_string W hgd s x 63 9 ho Br 5 i0 Tryz.underlying63 Tryz.underlying9 hi hz0 hz1 hz2 v bs.length (Lib.byteCells bs) hs HO y hx (by simp only [maxLen]; omega) hl hB ?_
  intro v1 w1 hown hg _
  refine h v1 w1 ?_ ((Below.refl Br W).grown hg hB (own_base HO)) (kept_grown HO hg)
  unfold OwnB
  rw [byteCells_app, ← strCells_data, List.length_append]
  have : y.data.toList.length = y.size := Array.length_toList
  rw [this]
  exact hown
theorem put_byte {W : World} (Br : Nat) (hgd : o.guard = none) (s x : Operand) (ho : o.op = .call { callee := .builtin .append, args := #[s, x], argTypes := #[63, 63] })
    (v : Value) (bs : List UInt8) (b : UInt8) (k : Int) (hk : k = (b.toNat : Int)) (hs : a.eval s = v) (hx : a.eval x = .slice (some ⟨W.heap.size, 0, none⟩) 1 1) (HO : OwnB Br v bs W) (hB : Br ≤ W.heap.size) (hl : bs.length + 1 ≤ 140737488355328)
    (h : ∀ v1 w1, OwnB Br v1 (bs ++ [b]) w1 → Below Br W w1 → KeptT W w1 → wpList Tryz.prog ops Q rest (a.put o.dst v1) w1) : wpList Tryz.prog ops Q (o :: rest) a (W.alloc (.cells #[.int .u8 k] 5 (0, 0))) := by
  subst hk
  have hinfo : (Tryz.prog.info? 5).map (fun i => (i.zero, i.size, i.bytes)) = some (some (.int .u8 0), 1, 1) := by kernel_rfl
  have HO' : W.ownsRow Br 5 1 v (Lib.byteCells bs).length (Lib.byteCells bs) := by rw [byteCells_len]; exact HO
  refine print_append (w0 := W) Br hgd s x 63 5 (.int .u8 0) 1 ho Tryz.underlying63 hinfo rfl (by decide) v (Lib.byteCells bs) (.int .u8 b.toNat) hs hx rfl HO' (Below.refl Br W) hB (by rw [byteCells_len]; omega) ?_
  intro v1 w1 hown hb1 hg _
  refine h v1 w1 ?_ hb1 (kept_grown HO hg)
  unfold OwnB
  rw [byteCells_app]
  have e : Lib.byteCells [b] = [Value.int .u8 b.toNat] := rfl
  rw [e, List.length_append, List.length_singleton, ← byteCells_len bs]
  rw [List.length_append, List.length_singleton] at hown
  exact hown
end
def PutQ (Br : Nat) (bs out : List UInt8) (w : World) (e : Ending) (w' : World) : Prop :=
  ∃ v', e = .returned v' ∧ OwnB Br v' (bs ++ out) w' ∧ Below Br w w' ∧ KeptT w w'
theorem PutQ.mk' {Br : Nat} {bs out : List UInt8} {w w' : World} {v' : Value} (h : OwnB Br v' (bs ++ out) w') (hb : Below Br w w') (hk : KeptT w w') : PutQ Br bs out w (.returned v') w' := ⟨v', rfl, h, hb, hk⟩
set_option maxRecDepth 100000 in
set_option maxHeartbeats 1000000 in
theorem put_1 (n : Int) (t : ByteArray) (A3 : Option Addr) (n3 c3 : Nat) (A4 : Option Addr) (n4 c4 : Nat) (w : World) (Br : Nat) (v : Value) (bs : List UInt8) (hv : OwnB Br v bs w) (hBr : Br ≤ w.heap.size) (hl : bs.length + wNul.length ≤ 10000000000000) :
    Calls Tryz.prog 32 #[v, .agg #[.int .i64 1, .int .i64 n, .string t, .slice A3 n3 c3, .slice A4 n4 c4]] w (PutQ Br bs wNul w) := by
  have hba := (Below.refl w.heap.size w).alloc (Nat.le_refl _) (.cells #[.int .i64 1, .int .i64 n, .string t, .slice A3 n3 c3, .slice A4 n4 c4] 26 (0, 0))
  have HV := Aside0.mk (ownB_below hv hba)
  have HBA := Aside0.mk hba
  have hlb := hba.size
  have HL := Aside0.mk hl
  clear hv hba hl
  go_enter Tryz.func32, Tryz.ntmps32
  go_wp2_with (at_builtin; refine put_str Br rfl (.tmp 12) (.const (.string ⟨#[110, 117, 108, 108]⟩)) rfl v bs ⟨#[110, 117, 108, 108]⟩ rfl rfl HV.out (by omega) (by have := HL.out; simp [ByteArray.size, wNul] at this ⊢; omega) ?_; intro v1 w1 h1 b1 k1; replace h1 := Aside0.mk h1; replace b1 := Aside0.mk b1; replace k1 := Aside0.mk k1)
  go_ret
  exact PutQ.mk' h1.out ((HBA.out.mono hBr).trans b1.out) ((KeptT.below HBA.out).trans k1.out)
set_option maxRecDepth 100000 in
set_option maxHeartbeats 1000000 in
theorem put_2 (n : Int) (t : ByteArray) (A3 : Option Addr) (n3 c3 : Nat) (A4 : Option Addr) (n4 c4 : Nat) (w : World) (Br : Nat) (v : Value) (bs : List UInt8) (hv : OwnB Br v bs w) (hBr : Br ≤ w.heap.size) (hl : bs.length + (Lib.formatBool (n == 1)).length ≤ 10000000000000) :
    Calls Tryz.prog 32 #[v, .agg #[.int .i64 2, .int .i64 n, .string t, .slice A3 n3 c3, .slice A4 n4 c4]] w (PutQ Br bs (Lib.formatBool (n == 1)) w) := by
  have hba := (Below.refl w.heap.size w).alloc (Nat.le_refl _) (.cells #[.int .i64 2, .int .i64 n, .string t, .slice A3 n3 c3, .slice A4 n4 c4] 26 (0, 0))
  have HV := Aside0.mk (ownB_below hv hba)
  have HBA := Aside0.mk hba
  have hlb := hba.size
  have HL := Aside0.mk hl
  clear hv hba hl
  by_cases hn : n = 1
  · subst hn
    have HE := Aside0.mk (show Lib.formatBool ((1 : Int) == 1) = [116, 114, 117, 101] by decide)
    rw [HE.out] at HL ⊢
    go_enter Tryz.func32, Tryz.ntmps32
    go_wp2_with (at_builtin; refine put_str Br rfl (.tmp 19) (.const (.string ⟨#[116, 114, 117, 101]⟩)) rfl v bs ⟨#[116, 114, 117, 101]⟩ rfl rfl HV.out (by omega) (by have := HL.out; simp [ByteArray.size] at this ⊢; omega) ?_; intro v1 w1 h1 b1 k1; replace h1 := Aside0.mk h1; replace b1 := Aside0.mk b1; replace k1 := Aside0.mk k1)
    go_ret
    exact PutQ.mk' h1.out ((HBA.out.mono hBr).trans b1.out) ((KeptT.below HBA.out).trans k1.out)
  · have hnb : (n == 1) = false := by simpa using hn
    have HE := Aside0.mk (show Lib.formatBool (n == 1) = [102, 97, 108, 115, 101] by rw [hnb]; decide)
    rw [HE.out] at HL ⊢
    clear hn
    go_enter Tryz.func32, Tryz.ntmps32
    go_wp2_with (at_builtin; refine put_str Br rfl (.tmp 21) (.const (.string ⟨#[102, 97, 108, 115, 101]⟩)) rfl v bs ⟨#[102, 97, 108, 115, 101]⟩ rfl rfl HV.out (by omega) (by have := HL.out; simp [ByteArray.size] at this ⊢; omega) ?_; intro v1 w1 h1 b1 k1; replace h1 := Aside0.mk h1; replace b1 := Aside0.mk b1; replace k1 := Aside0.mk k1)
    go_ret
    exact PutQ.mk' h1.out ((HBA.out.mono hBr).trans b1.out) ((KeptT.below HBA.out).trans k1.out)
set_option maxRecDepth 100000 in
set_option maxHeartbeats 1000000 in
theorem put_3 (n : Int) (hn : -9223372036854775808 ≤ n ∧ n ≤ 9223372036854775807) (t : ByteArray) (A3 : Option Addr) (n3 c3 : Nat) (A4 : Option Addr) (n4 c4 : Nat) (w : World) (Br : Nat) (v : Value) (bs : List UInt8) (hv : OwnB Br v bs w) (hBr : Br ≤ w.heap.size) (hl : bs.length + (Lib.itoa n).length ≤ 10000000000000) (hlw : ∀ w1, Below w.heap.size w w1 → LW w1) :
    Calls Tryz.prog 32 #[v, .agg #[.int .i64 3, .int .i64 n, .string t, .slice A3 n3 c3, .slice A4 n4 c4]] w (PutQ Br bs (Lib.itoa n) w) := by
  have hba := (Below.refl w.heap.size w).alloc (Nat.le_refl _) (.cells #[.int .i64 3, .int .i64 n, .string t, .slice A3 n3 c3, .slice A4 n4 c4] 26 (0, 0))
  have HLW := Aside0.mk (hlw _ hba)
  have HN := Aside0.mk hn
  have HV := Aside0.mk (ownB_below hv hba)
  have HBA := Aside0.mk hba
  have hlb := hba.size
  have HL := Aside0.mk hl
  clear hv hba hl hn hlw
  go_enter Tryz.func32, Tryz.ntmps32
  go_wp2_with fail
  refine (Tryz.strconv_FormatInt_10 n HN.out.1 HN.out.2 _ HLW.out.p10).mono ?_
  rintro e W2 ⟨rfl, k, os, hw⟩
  have hb2 : Below (w.alloc (.cells #[.int .i64 3, .int .i64 n, .string t, .slice A3 n3 c3, .slice A4 n4 c4] 26 (0, 0))).heap.size (w.alloc (.cells #[.int .i64 3, .int .i64 n, .string t, .slice A3 n3 c3, .slice A4 n4 c4] 26 (0, 0))) W2 := by
    rw [hw]
    exact Lib.below_grow _ _ (Nat.le_refl _) _ _
  clear hw
  have HV2 := Aside0.mk (ownB_below HV.out hb2)
  have HBB := Aside0.mk hb2
  have hs2 := hb2.size
  clear hb2
  generalize Lib.itoa n = out at *
  go_wp2_with (at_builtin; refine put_str Br rfl (.tmp 25) (.tmp 28) rfl v bs ⟨out.toArray⟩ rfl rfl HV2.out (by omega) (by have := HL.out; simp [ByteArray.size] at this ⊢; omega) ?_; intro v1 w1 h1 b1 k1; replace h1 := Aside0.mk h1; replace b1 := Aside0.mk b1; replace k1 := Aside0.mk k1)
  go_ret
  exact PutQ.mk' h1.out (((HBA.out.mono hBr).trans (HBB.out.mono (by omega))).trans b1.out) (((KeptT.below HBA.out).trans (KeptT.below HBB.out)).trans k1.out)
set_option maxRecDepth 100000 in
set_option maxHeartbeats 1000000 in
theorem put_4 (n : Int) (t : List UInt8) (A3 : Option Addr) (n3 c3 : Nat) (A4 : Option Addr) (n4 c4 : Nat) (w : World) (Br : Nat) (v : Value) (bs : List UInt8) (hv : OwnB Br v bs w) (hBr : Br ≤ w.heap.size) (hl : bs.length + (quoteR t).length ≤ 10000000000000) :
    Calls Tryz.prog 32 #[v, .agg #[.int .i64 4, .int .i64 n, .string ⟨t.toArray⟩, .slice A3 n3 c3, .slice A4 n4 c4]] w (PutQ Br bs (quoteR t) w) := by
  have hba := (Below.refl w.heap.size w).alloc (Nat.le_refl _) (.cells #[.int .i64 4, .int .i64 n, .string ⟨t.toArray⟩, .slice A3 n3 c3, .slice A4 n4 c4] 26 (0, 0))
  have HQ := Aside0.mk (RQ.refQuote_calls t (w.alloc (.cells #[.int .i64 4, .int .i64 n, .string ⟨t.toArray⟩, .slice A3 n3 c3, .slice A4 n4 c4] 26 (0, 0))) (by have := quote_ge t; omega))
  have HV := Aside0.mk (ownB_below hv hba)
  have HBA := Aside0.mk hba
  have hlb := hba.size
  have HL := Aside0.mk hl
  clear hv hba hl
  go_enter Tryz.func32, Tryz.ntmps32
  go_wp2_with fail
  refine HQ.out.mono ?_
  rintro e W2 ⟨rfl, hb2⟩
  have HV2 := Aside0.mk (ownB_below HV.out hb2)
  have HBB := Aside0.mk hb2
  have hs2 := hb2.size
  clear hb2 HQ
  generalize quoteR t = out at *
  go_wp2_with (at_builtin; refine put_str Br rfl (.tmp 32) (.tmp 35) rfl v bs ⟨out.toArray⟩ rfl rfl HV2.out (by omega) (by have := HL.out; simp [ByteArray.size] at this ⊢; omega) ?_; intro v1 w1 h1 b1 k1; replace h1 := Aside0.mk h1; replace b1 := Aside0.mk b1; replace k1 := Aside0.mk k1)
  go_ret
  exact PutQ.mk' h1.out (((HBA.out.mono hBr).trans (HBB.out.mono (by omega))).trans b1.out) (((KeptT.below HBA.out).trans (KeptT.below HBB.out)).trans k1.out)
end Go.Proofs.YtegppkngdkkdcaaGreatDoor.Tr
end
section
set_option linter.unusedVariables false
set_option linter.unusedSimpArgs false
namespace Go.Proofs.YtegppkngdkkdcaaGreatDoor.Tr
open Go.RowKit Go.Proofs.YtegppkngdkkdcaaGreatDoorW.PrintWords Go.Proofs.YtegppkngdkkdcaaGreatDoorW.PrintLast Go.Proofs.YtegppkngdkkdcaaGreatDoorW.PrintMore
open Go.Proofs.YtegppkngdkkdcaaGreatDoor.Lx Go.Proofs.YtegppkngdkkdcaaGreatDoor.PS
def RPutC (d : Nat) : Prop := ∀ (x : V) (A3 : Option Addr) (c3 : Nat) (A4 : Option Addr) (c4 : Nat) (w0 w : World) (Br : Nat) (v : Value) (bs : List UInt8), Ok d x → x.f3.length ≤ c3 → k26.C w0 A3 x.f3.length x.f3 → x.f4.length ≤ c4 → Kd.string.C w0 A4 x.f4.length x.f4 →
  Below w0.heap.size w0 w → w0.heap.size ≤ Br → OwnB Br v bs w → Br ≤ w.heap.size → bs.length + (writeD d x).length ≤ 10000000000000 → (∀ w1, Below w0.heap.size w0 w1 → LW w1) →
  Calls Tryz.prog 32 #[v, vArg x A3 c3 A4 c4] w (PutQ Br bs (writeD d x) w)
set_option maxRecDepth 100000 in
set_option maxHeartbeats 4000000 in
theorem put_arr (d : Nat) (IH : RPutC d) (n : Int) (t : ByteArray) (rs : List V) (ns : List ByteArray) (A3 : Option Addr) (c3 : Nat) (A4 : Option Addr) (n4 c4 : Nat) (w0 w : World) (Br : Nat) (v : Value) (bs : List UInt8) (hok : ∀ y ∈ rs, Ok d y) (hl3 : rs.length ≤ 1000000000000) (l3 : rs.length ≤ c3)
    (g3 : k26.C w0 A3 rs.length rs) (hb0 : Below w0.heap.size w0 w) (h0b : w0.heap.size ≤ Br) (hv : OwnB Br v bs w) (hBr : Br ≤ w.heap.size) (hl : bs.length + (elemsW (writeD d) false 0 rs ns).length + 2 ≤ 10000000000000) (hlw : ∀ w1, Below w0.heap.size w0 w1 → LW w1) :
    Calls Tryz.prog 32 #[v, .agg #[.int .i64 5, .int .i64 n, .string t, .slice A3 rs.length c3, .slice A4 n4 c4]] w (PutQ Br bs ([91] ++ elemsW (writeD d) false 0 rs ns ++ [93]) w) := by
  have hba := (Below.refl w.heap.size w).alloc (Nat.le_refl _) (.cells #[.int .i64 5, .int .i64 n, .string t, .slice A3 rs.length c3, .slice A4 n4 c4] 26 (0, 0))
  have nv := blk_new w (.cells #[.int .i64 5, .int .i64 n, .string t, .slice A3 rs.length c3, .slice A4 n4 c4] 26 (0, 0))
  have HV := Aside0.mk (ownB_below hv hba)
  have HBA := Aside0.mk hba
  have hlb : (w.alloc (.cells #[.int .i64 5, .int .i64 n, .string t, .slice A3 rs.length c3, .slice A4 n4 c4] 26 (0, 0))).heap.size = w.heap.size + 1 := by simp
  have HL := Aside0.mk hl
  have HG := Aside0.mk g3
  have HB0 := Aside0.mk hb0
  have HOK := Aside0.mk hok
  have HLW := Aside0.mk hlw
  have HIH := Aside0.mk IH
  have NV := Aside0.mk nv
  clear hv hba hl g3 hb0 hok hlw IH nv
  go_enter Tryz.func32, Tryz.ntmps32
  go_wp2_with (at_builtin; refine put_byte Br rfl (.tmp 40) (.tmp 42) rfl v bs 91 91 (by rfl) rfl (by first | rfl | (go_simp; done) | (go_simp; rfl)) HV.out (by omega) (by have := HL.out; omega) ?_; intro v1 w1 h1 b1 k1; replace h1 := Aside0.mk h1; replace b1 := Aside0.mk b1; replace k1 := Aside0.mk k1)
  have hv1 := k1.out _ _ NV.out
  have x0 : w1.cell? ⟨w.heap.size, 0, none⟩ = some (.int .i64 5) := blk_cell hv1 0
  have x3 : w1.cell? ⟨w.heap.size, 3, none⟩ = some (.slice A3 rs.length c3) := blk_cell hv1 3
  have hs1 : w.heap.size + 1 ≤ w1.heap.size := by have := b1.out.size; omega
  have HV1 := Aside0.mk hv1
  have HK1 := Aside0.mk ((KeptT.below HBA.out).trans k1.out)
  have HW1 := Aside0.mk ((HBA.out.mono hBr).trans b1.out)
  clear hv1 hlb HV
  go_loopg [0, 7] rs.length (fun kq v0 v7 w2 => ∃ (k : Nat) (v' : Value), k + kq = rs.length ∧ v' = v0 ∧ v7 = .int .i64 k ∧ w.heap.size + 1 ≤ w2.heap.size ∧ Aside0 (OwnB Br v' (bs ++ [91] ++ elemsW (writeD d) false 0 (rs.take k) ns) w2) ∧ Aside0 (Below Br w w2) ∧ Aside0 (KeptT w w2) ∧ Aside0 (w2.heap[w.heap.size]? = some (.cells #[.int .i64 5, .int .i64 n, .string t, .slice A3 rs.length c3, .slice A4 n4 c4] 26 (0, 0))))
  case atStart => exact ⟨0, v1, by omega, rfl, rfl, hs1, Aside0.mk (by simpa [elemsW] using h1.out), HW1, HK1, HV1⟩
  case round =>
    obtain ⟨k, v0, hk, rfl, rfl, hsr, HR, HWR, HKR, HVR⟩ := hrel
    clear x0 x3 h1 HV1 HK1 HW1 hs1
    have y0 : wr.cell? ⟨w.heap.size, 0, none⟩ = some (.int .i64 5) := blk_cell HVR.out 0
    have y3 : wr.cell? ⟨w.heap.size, 3, none⟩ = some (.slice A3 rs.length c3) := blk_cell HVR.out 3
    cases gk with
    | zero =>
      have hge : ¬ ((k : Nat) : Int) < (rs.length : Int) := by omega
      have HE := Aside0.mk (show rs.take k = rs from List.take_of_length_le (by omega))
      have HBW := Aside0.mk (show Br ≤ wr.heap.size by omega)
      go_wp2_with (at_builtin; refine put_byte Br rfl (.tmp 77) (.tmp 79) rfl v0 _ 93 93 (by rfl) rfl (by first | rfl | (go_simp; done) | (go_simp; rfl)) HR.out HBW.out (by rw [HE.out]; have := HL.out; simp only [List.length_append, List.length_singleton]; omega) ?_; intro v3 w3 h3 b3 k3; replace h3 := Aside0.mk h3; replace b3 := Aside0.mk b3; replace k3 := Aside0.mk k3)
      go_ret
      refine PutQ.mk' ?_ (HWR.out.trans b3.out) (HKR.out.trans k3.out)
      have h9 := h3.out
      rw [HE.out] at h9
      simpa using h9
    | succ k1' =>
      have hlt : ((k : Nat) : Int) < (rs.length : Int) := by omega
      have hlt' : k < rs.length := by omega
      obtain ⟨ad, B3, e3, B4, e4, e, r0, r1, r2, r3, r4, m3, g3, m4, g4⟩ := at_T26 HG.out k (by omega) hlt
      cases e
      have hrd : rd_T26 rs k = rs[k] := by simp [rd_T26, List.getD, List.getElem?_eq_getElem hlt']
      rw [hrd] at r0 r1 r2 r3 r4 m3 g3 m4 g4
      rw [Int.toNat_natCast] at r0 r1 r2 r3 r4
      have hbR : Below w0.heap.size w0 wr := HB0.out.trans (HWR.out.mono h0b)
      have HR0 := Aside0.mk (And.intro r0 (And.intro r1 (And.intro r2 (And.intro r3 r4))))
      have HNX := Aside0.mk (elemsW_next (writeD d) false rs ns k hlt')
      have HLN := Aside0.mk (elemsW_len (writeD d) false rs ns (k + 1))
      have HLN0 := Aside0.mk (elemsW_len (writeD d) false rs ns k)
      have HOX := Aside0.mk (HOK.out rs[k] (List.getElem_mem _))
      have HC := Aside0.mk (And.intro m3 (And.intro g3 (And.intro m4 g4)))
      have HBR := Aside0.mk hbR
      clear hrd m3 g3 m4 g4 hbR r0 r1 r2 r3 r4
      generalize rs[k] = x at *
      have HBW := Aside0.mk (show Br ≤ wr.heap.size by omega)
      have HHK := Aside0.mk hk
      by_cases hk0 : k = 0
      · have hgt : ¬ ((k : Nat) : Int) > 0 := by omega
        have HK0 := Aside0.mk hk0
        clear hk0
        have r0 := cell_below' HBR.out HR0.out.1
        have r1 := cell_below' HBR.out HR0.out.2.1
        have r2 := cell_below' HBR.out HR0.out.2.2.1
        have r3 := cell_below' HBR.out HR0.out.2.2.2.1
        have r4 := cell_below' HBR.out HR0.out.2.2.2.2
        have HLE := Aside0.mk (show (bs ++ [91] ++ elemsW (writeD d) false 0 (rs.take k) ns).length + (writeD d x).length ≤ 10000000000000 by
          have h1 := HL.out; have h2 := HLN.out; rw [HNX.out, if_pos HK0.out, if_neg (by decide)] at h2
          simp only [List.length_append, List.length_singleton, List.length_nil, List.nil_append] at h2 ⊢
          omega)
        go_wp2_with fail
        have H := Aside0.mk (HIH.out x B3 e3 B4 e4 w0 wr Br v0 _ HOX.out HC.out.1 HC.out.2.1 HC.out.2.2.1 HC.out.2.2.2 HBR.out h0b HR.out HBW.out HLE.out HLW.out)
        unfold vArg at H
        refine H.out.mono ?_
        rintro e w5 ⟨v5, rfl, h5, b5, k5⟩
        have H5 := Aside0.mk h5
        have B5 := Aside0.mk (HWR.out.trans b5)
        have K5 := Aside0.mk (HKR.out.trans k5)
        have V5 := Aside0.mk (k5 _ _ HVR.out)
        have S5 := b5.size
        clear h5 b5 k5 r0 r1 r2 r3 r4 y0 y3
        go_wp2
        go_roundg k1'
        case measure => omega
        case rel => exact ⟨k + 1, v5, by omega, rfl, by go_num, by omega, Aside0.mk (by rw [HNX.out, if_pos HK0.out]; simpa using H5.out), B5, K5, V5⟩
      · have hgt : ((k : Nat) : Int) > 0 := by omega
        have HK0 := Aside0.mk hk0
        clear hk0
        have HLE := Aside0.mk (show (bs ++ [91] ++ elemsW (writeD d) false 0 (rs.take k) ns ++ [44]).length + (writeD d x).length ≤ 10000000000000 by
          have h1 := HL.out; have h2 := HLN.out; rw [HNX.out, if_neg HK0.out, if_neg (by decide)] at h2
          simp only [List.length_append, List.length_singleton, List.length_nil, List.nil_append] at h2 ⊢
          omega)
        go_wp2_with (at_builtin; refine put_byte Br rfl (.tmp 53) (.tmp 54) rfl v0 _ 44 44 (by rfl) rfl (by first | rfl | (go_simp; done) | (go_simp; rfl)) HR.out HBW.out (by have := HLE.out; simp only [List.length_append, List.length_singleton] at this ⊢; omega) ?_; intro v4 w4 h4 b4 k4; have hv4 := k4 _ _ HVR.out; have z0 : w4.cell? ⟨w.heap.size, 0, none⟩ = some (.int .i64 5) := blk_cell hv4 0; have z3 : w4.cell? ⟨w.heap.size, 3, none⟩ = some (.slice (some ad) rs.length c3) := blk_cell hv4 3; have hb4 := HBR.out.trans (b4.mono h0b); have r0 := cell_below' hb4 HR0.out.1; have r1 := cell_below' hb4 HR0.out.2.1; have r2 := cell_below' hb4 HR0.out.2.2.1; have r3 := cell_below' hb4 HR0.out.2.2.2.1; have r4 := cell_below' hb4 HR0.out.2.2.2.2; replace hb4 := Aside0.mk hb4; replace h4 := Aside0.mk h4; have hs4 := b4.size; replace b4 := Aside0.mk b4; replace k4 := Aside0.mk k4; replace hv4 := Aside0.mk hv4; clear y0 y3)
        have H := Aside0.mk (HIH.out x B3 e3 B4 e4 w0 w4 Br v4 _ HOX.out HC.out.1 HC.out.2.1 HC.out.2.2.1 HC.out.2.2.2 hb4.out h0b h4.out (Nat.le_trans HBW.out hs4) HLE.out HLW.out)
        unfold vArg at H
        refine H.out.mono ?_
        rintro e w5 ⟨v5, rfl, h5, b5, k5⟩
        have H5 := Aside0.mk h5
        have B5 := Aside0.mk (HWR.out.trans (b4.out.trans b5))
        have K5 := Aside0.mk (HKR.out.trans (k4.out.trans k5))
        have V5 := Aside0.mk (k5 _ _ hv4.out)
        have S5 := b5.size
        clear h5 b5 k5 r0 r1 r2 r3 r4 z0 z3
        go_wp2
        go_roundg k1'
        case measure => omega
        case rel => exact ⟨k + 1, v5, by omega, rfl, by go_num, by omega, Aside0.mk (by rw [HNX.out, if_neg HK0.out]; simpa using H5.out), B5, K5, V5⟩
end Go.Proofs.YtegppkngdkkdcaaGreatDoor.Tr
end
section
set_option linter.unusedVariables false
set_option linter.unusedSimpArgs false
namespace Go.Proofs.YtegppkngdkkdcaaGreatDoor.Tr
open Go.RowKit Go.Proofs.YtegppkngdkkdcaaGreatDoorW.PrintWords Go.Proofs.YtegppkngdkkdcaaGreatDoorW.PrintLast Go.Proofs.YtegppkngdkkdcaaGreatDoorW.PrintMore
open Go.Proofs.YtegppkngdkkdcaaGreatDoor.Lx Go.Proofs.YtegppkngdkkdcaaGreatDoor.PS
set_option maxRecDepth 100000 in
set_option maxHeartbeats 4000000 in
theorem put_map (d : Nat) (IH : RPutC d) (n : Int) (t : ByteArray) (rs : List V) (ns : List ByteArray) (A3 : Option Addr) (c3 : Nat) (A4 : Option Addr) (c4 : Nat) (w0 w : World) (Br : Nat) (v : Value) (bs : List UInt8) (hok : ∀ y ∈ rs, Ok d y) (hl3 : rs.length ≤ 1000000000000) (l3 : rs.length ≤ c3)
    (g3 : k26.C w0 A3 rs.length rs) (hns : ns.length = rs.length) (l4 : ns.length ≤ c4) (g4 : Kd.string.C w0 A4 ns.length ns) (hb0 : Below w0.heap.size w0 w) (h0b : w0.heap.size ≤ Br) (hv : OwnB Br v bs w) (hBr : Br ≤ w.heap.size) (hl : bs.length + (elemsW (writeD d) true 0 rs ns).length + 2 ≤ 10000000000000) (hlw : ∀ w1, Below w0.heap.size w0 w1 → LW w1) :
    Calls Tryz.prog 32 #[v, .agg #[.int .i64 6, .int .i64 n, .string t, .slice A3 rs.length c3, .slice A4 ns.length c4]] w (PutQ Br bs ([123] ++ elemsW (writeD d) true 0 rs ns ++ [125]) w) := by
  have hba := (Below.refl w.heap.size w).alloc (Nat.le_refl _) (.cells #[.int .i64 6, .int .i64 n, .string t, .slice A3 rs.length c3, .slice A4 ns.length c4] 26 (0, 0))
  have nv := blk_new w (.cells #[.int .i64 6, .int .i64 n, .string t, .slice A3 rs.length c3, .slice A4 ns.length c4] 26 (0, 0))
  have HV := Aside0.mk (ownB_below hv hba)
  have HBA := Aside0.mk hba
  have hlb : (w.alloc (.cells #[.int .i64 6, .int .i64 n, .string t, .slice A3 rs.length c3, .slice A4 ns.length c4] 26 (0, 0))).heap.size = w.heap.size + 1 := by simp
  have HL := Aside0.mk hl
  have HG := Aside0.mk g3
  have HG4 := Aside0.mk g4
  have HNS := Aside0.mk hns
  have HB0 := Aside0.mk hb0
  have HOK := Aside0.mk hok
  have HLW := Aside0.mk hlw
  have HIH := Aside0.mk IH
  have NV := Aside0.mk nv
  clear hv hba hl g3 hb0 hok hlw IH nv g4 hns
  go_enter Tryz.func32, Tryz.ntmps32
  go_wp2_with (at_builtin; refine put_byte Br rfl (.tmp 40) (.tmp 42) rfl v bs 123 123 (by rfl) rfl (by first | rfl | (go_simp; done) | (go_simp; rfl)) HV.out (by omega) (by have := HL.out; omega) ?_; intro v1 w1 h1 b1 k1; replace h1 := Aside0.mk h1; replace b1 := Aside0.mk b1; replace k1 := Aside0.mk k1)
  have hv1 := k1.out _ _ NV.out
  have x0 : w1.cell? ⟨w.heap.size, 0, none⟩ = some (.int .i64 6) := blk_cell hv1 0
  have x3 : w1.cell? ⟨w.heap.size, 3, none⟩ = some (.slice A3 rs.length c3) := blk_cell hv1 3
  have hs1 : w.heap.size + 1 ≤ w1.heap.size := by have := b1.out.size; omega
  have HV1 := Aside0.mk hv1
  have HK1 := Aside0.mk ((KeptT.below HBA.out).trans k1.out)
  have HW1 := Aside0.mk ((HBA.out.mono hBr).trans b1.out)
  clear hv1 hlb HV
  go_loopg [0, 7] rs.length (fun kq v0 v7 w2 => ∃ (k : Nat) (v' : Value), k + kq = rs.length ∧ v' = v0 ∧ v7 = .int .i64 k ∧ w.heap.size + 1 ≤ w2.heap.size ∧ Aside0 (OwnB Br v' (bs ++ [123] ++ elemsW (writeD d) true 0 (rs.take k) ns) w2) ∧ Aside0 (Below Br w w2) ∧ Aside0 (KeptT w w2) ∧ Aside0 (w2.heap[w.heap.size]? = some (.cells #[.int .i64 6, .int .i64 n, .string t, .slice A3 rs.length c3, .slice A4 ns.length c4] 26 (0, 0))))
  case atStart => exact ⟨0, v1, by omega, rfl, rfl, hs1, Aside0.mk (by simpa [elemsW] using h1.out), HW1, HK1, HV1⟩
  case round =>
    obtain ⟨k, v0, hk, rfl, rfl, hsr, HR, HWR, HKR, HVR⟩ := hrel
    clear x0 x3 h1 HV1 HK1 HW1 hs1
    have y0 : wr.cell? ⟨w.heap.size, 0, none⟩ = some (.int .i64 6) := blk_cell HVR.out 0
    have y3 : wr.cell? ⟨w.heap.size, 3, none⟩ = some (.slice A3 rs.length c3) := blk_cell HVR.out 3
    cases gk with
    | zero =>
      have hge : ¬ ((k : Nat) : Int) < (rs.length : Int) := by omega
      have HE := Aside0.mk (show rs.take k = rs from List.take_of_length_le (by omega))
      have HBW := Aside0.mk (show Br ≤ wr.heap.size by omega)
      go_wp2_with (at_builtin; refine put_byte Br rfl (.tmp 77) (.tmp 79) rfl v0 _ 125 125 (by rfl) rfl (by first | rfl | (go_simp; done) | (go_simp; rfl)) HR.out HBW.out (by rw [HE.out]; have := HL.out; simp only [List.length_append, List.length_singleton]; omega) ?_; intro v3 w3 h3 b3 k3; replace h3 := Aside0.mk h3; replace b3 := Aside0.mk b3; replace k3 := Aside0.mk k3)
      go_ret
      refine PutQ.mk' ?_ (HWR.out.trans b3.out) (HKR.out.trans k3.out)
      have h9 := h3.out
      rw [HE.out] at h9
      simpa using h9
    | succ k1' =>
      have hlt : ((k : Nat) : Int) < (rs.length : Int) := by omega
      have hlt' : k < rs.length := by omega
      obtain ⟨ad, B3, e3, B4x, e4, e, r0, r1, r2, r3, r4, m3, g3, m4, g4⟩ := at_T26 HG.out k (by omega) hlt
      cases e
      have hrd : rd_T26 rs k = rs[k] := by simp [rd_T26, List.getD, List.getElem?_eq_getElem hlt']
      rw [hrd] at r0 r1 r2 r3 r4 m3 g3 m4 g4
      rw [Int.toNat_natCast] at r0 r1 r2 r3 r4
      have hbR : Below w0.heap.size w0 wr := HB0.out.trans (HWR.out.mono h0b)
      have HR0 := Aside0.mk (And.intro r0 (And.intro r1 (And.intro r2 (And.intro r3 r4))))
      have HNX := Aside0.mk (elemsW_next (writeD d) true rs ns k hlt')
      have HLN := Aside0.mk (elemsW_len (writeD d) true rs ns (k + 1))
      have HLN0 := Aside0.mk (elemsW_len (writeD d) true rs ns k)
      have HOX := Aside0.mk (HOK.out rs[k] (List.getElem_mem _))
      have HC := Aside0.mk (And.intro m3 (And.intro g3 (And.intro m4 g4)))
      have HBR := Aside0.mk hbR
      clear hrd m3 g3 m4 g4 hbR r0 r1 r2 r3 r4
      generalize rs[k] = x at *
      have HBW := Aside0.mk (show Br ≤ wr.heap.size by omega)
      have HHK := Aside0.mk hk
      have hl4 : k < ns.length := by have := HNS.out; omega
      have hl4z : ((k : Nat) : Int) < (ns.length : Int) := by omega
      obtain ⟨ad4, cs, e, _, hK, hc0⟩ := Kd.C_get HG4.out ByteArray.empty (k : Int) (by omega) hl4z
      cases e
      have hK' : cs = [.string (ns.getD k ByteArray.empty)] := by simpa [Kd.string, Kd.scalar] using hK
      subst hK'
      have q0 : w0.cell? (ad4.add k) = some (.string (ns.getD k ByteArray.empty)) := by
        have := hc0 0 _ rfl
        simpa [Kd.string, Kd.scalar] using this
      have HQ0 := Aside0.mk q0
      clear hK hc0 q0
      generalize hnme : ns.getD k ByteArray.empty = nme at *
      clear hnme
      obtain ⟨nm, rfl⟩ : ∃ nm : List UInt8, nme = ⟨nm.toArray⟩ := ⟨nme.data.toList, by cases nme; rfl⟩
      have HLS := Aside0.mk (show bs.length + (elemsW (writeD d) true 0 (rs.take k) ns).length + (if k = 0 then 0 else 1) + (quoteR nm).length + 1 + (writeD d x).length + 2 ≤ 10000000000000 by
        have h1 := HL.out; have h2 := HLN.out; rw [HNX.out, if_pos rfl] at h2
        simp only [List.length_append, List.length_singleton] at h2
        split <;> simp_all <;> omega)
      have HQT := Aside0.mk (fun W => RQ.refQuote_calls nm W (by have h1 := HLS.out; have h2 := quote_ge nm; omega))
      have y4 : wr.cell? ⟨w.heap.size, 4, none⟩ = some (.slice (some ad4) ns.length c4) := blk_cell HVR.out 4
      by_cases hk0 : k = 0
      · have hgt : ¬ ((k : Nat) : Int) > 0 := by omega
        have HK0 := Aside0.mk hk0
        clear hk0
        have HV4 := HVR
        have H4 := HR
        have B4 := HWR
        have K4 := HKR
        have HB4 := HBR
        have HBW4 := HBW
        have q0 := cell_below' HB4.out HQ0.out
        go_wp2_with fail
        refine (HQT.out wr).mono ?_
        rintro e w6 ⟨rfl, hb6⟩
        have hv6 := (hb6.block _ (blk_lt HV4.out)).trans HV4.out
        have u0 : w6.cell? ⟨w.heap.size, 0, none⟩ = some (.int .i64 6) := blk_cell hv6 0
        have u3 : w6.cell? ⟨w.heap.size, 3, none⟩ = some (.slice (some ad) rs.length c3) := blk_cell hv6 3
        have H6 := Aside0.mk (ownB_below H4.out hb6)
        have HV6 := Aside0.mk hv6
        have HB6 := Aside0.mk (HB4.out.trans (hb6.mono HB4.out.size))
        have B6 := Aside0.mk (B4.out.trans (hb6.mono HBW4.out))
        have K6 := Aside0.mk (K4.out.trans (KeptT.below hb6))
        have HBW6 := Aside0.mk (Nat.le_trans HBW4.out hb6.size)
        have hs6 := hb6.size
        clear hb6 hv6 q0 y0 y3 y4
        have HL7 := Aside0.mk (show (bs ++ [123] ++ elemsW (writeD d) true 0 (rs.take k) ns).length + (⟨(quoteR nm).toArray⟩ : ByteArray).size ≤ 140737488355328 by have h9 : (⟨(quoteR nm).toArray⟩ : ByteArray).size = (quoteR nm).length := (by simp [ByteArray.size]); rw [h9]; have h1 := HLS.out; rw [if_pos HK0.out] at h1; simp only [List.length_append, List.length_singleton] at h1 ⊢; omega)
        have HL8 := Aside0.mk (show (bs ++ [123] ++ elemsW (writeD d) true 0 (rs.take k) ns ++ quoteR nm).length + 1 ≤ 140737488355328 by have h1 := HLS.out; rw [if_pos HK0.out] at h1; simp only [List.length_append, List.length_singleton] at h1 ⊢; omega)
        have HL9 := Aside0.mk (show (bs ++ [123] ++ elemsW (writeD d) true 0 (rs.take k) ns ++ quoteR nm ++ [58]).length + (writeD d x).length ≤ 10000000000000 by have h1 := HLS.out; rw [if_pos HK0.out] at h1; simp only [List.length_append, List.length_singleton] at h1 ⊢; omega)
        go_wp2_with (first | (at_builtin; refine put_str Br rfl (.tmp 59) (.tmp 65) rfl v0 _ ⟨(quoteR nm).toArray⟩ rfl rfl H6.out HBW6.out HL7.out ?_; intro v7 w7 H7 b7 k7; have HV7 := Aside0.mk (k7 _ _ HV6.out); replace H7 := Aside0.mk H7; have HB7 := Aside0.mk (HB6.out.trans (b7.mono h0b)); have B7 := Aside0.mk (B6.out.trans b7); have K7 := Aside0.mk (K6.out.trans k7); have HBW7 := Aside0.mk (Nat.le_trans HBW6.out b7.size); have hs7 := b7.size; clear b7 k7 u0 u3) | (at_builtin; refine put_byte Br rfl (.tmp 67) (.tmp 68) rfl v7 (bs ++ [123] ++ elemsW (writeD d) true 0 (rs.take k) ns ++ quoteR nm) 58 58 (by rfl) rfl (by first | rfl | (go_simp; done) | (go_simp; rfl)) H7.out HBW7.out HL8.out ?_; intro v8 w8 H8 b8 k8; have HV8 := Aside0.mk (k8 _ _ HV7.out); have HB8 := HB7.out.trans (b8.mono h0b); have r0 := cell_below' HB8 HR0.out.1; have r1 := cell_below' HB8 HR0.out.2.1; have r2 := cell_below' HB8 HR0.out.2.2.1; have r3 := cell_below' HB8 HR0.out.2.2.2.1; have r4 := cell_below' HB8 HR0.out.2.2.2.2; have t3 : w8.cell? ⟨w.heap.size, 3, none⟩ = some (.slice (some ad) rs.length c3) := blk_cell HV8.out 3; replace HB8 := Aside0.mk HB8; replace H8 := Aside0.mk H8; have B8 := Aside0.mk (B7.out.trans b8); have K8 := Aside0.mk (K7.out.trans k8); have HBW8 := Aside0.mk (Nat.le_trans HBW7.out b8.size); have hs8 := b8.size; clear b8 k8))
        have H := Aside0.mk (HIH.out x B3 e3 B4x e4 w0 w8 Br v8 _ HOX.out HC.out.1 HC.out.2.1 HC.out.2.2.1 HC.out.2.2.2 HB8.out h0b H8.out HBW8.out HL9.out HLW.out)
        unfold vArg at H
        refine H.out.mono ?_
        rintro e w5 ⟨v5, rfl, h5, b5, k5⟩
        have H5 := Aside0.mk h5
        have B5 := Aside0.mk (B8.out.trans b5)
        have K5 := Aside0.mk (K8.out.trans k5)
        have V5 := Aside0.mk (k5 _ _ HV8.out)
        have S5 := b5.size
        clear h5 b5 k5 r0 r1 r2 r3 r4 t3
        go_wp2
        go_roundg k1'
        case measure => omega
        case rel => exact ⟨k + 1, v5, by omega, rfl, by go_num, by omega, Aside0.mk (by rw [HNX.out, if_pos HK0.out]; simpa using H5.out), B5, K5, V5⟩
      · have hgt : ((k : Nat) : Int) > 0 := by omega
        have HK0 := Aside0.mk hk0
        clear hk0
        go_wp2_with (at_builtin; refine put_byte Br rfl (.tmp 53) (.tmp 54) rfl v0 _ 44 44 (by rfl) rfl (by first | rfl | (go_simp; done) | (go_simp; rfl)) HR.out HBW.out (by have h1 := HLS.out; rw [if_neg HK0.out] at h1; simp only [List.length_append, List.length_singleton]; omega) ?_; intro v4 w4 H4 b4 k4; have hv4 := k4 _ _ HVR.out; have z0 : w4.cell? ⟨w.heap.size, 0, none⟩ = some (.int .i64 6) := blk_cell hv4 0; have z3 : w4.cell? ⟨w.heap.size, 3, none⟩ = some (.slice (some ad) rs.length c3) := blk_cell hv4 3; have z4 : w4.cell? ⟨w.heap.size, 4, none⟩ = some (.slice (some ad4) ns.length c4) := blk_cell hv4 4; have HB4 := HBR.out.trans (b4.mono h0b); have q0 := cell_below' HB4 HQ0.out; replace HB4 := Aside0.mk HB4; replace H4 := Aside0.mk H4; have HBW4 := Aside0.mk (Nat.le_trans HBW.out b4.size); have B4 := Aside0.mk (HWR.out.trans b4); have K4 := Aside0.mk (HKR.out.trans k4); have HV4 := Aside0.mk hv4; have hs4 := b4.size; clear b4 k4 hv4 y0 y3 y4)
        refine (HQT.out w4).mono ?_
        rintro e w6 ⟨rfl, hb6⟩
        have hv6 := (hb6.block _ (blk_lt HV4.out)).trans HV4.out
        have u0 : w6.cell? ⟨w.heap.size, 0, none⟩ = some (.int .i64 6) := blk_cell hv6 0
        have u3 : w6.cell? ⟨w.heap.size, 3, none⟩ = some (.slice (some ad) rs.length c3) := blk_cell hv6 3
        have H6 := Aside0.mk (ownB_below H4.out hb6)
        have HV6 := Aside0.mk hv6
        have HB6 := Aside0.mk (HB4.out.trans (hb6.mono HB4.out.size))
        have B6 := Aside0.mk (B4.out.trans (hb6.mono HBW4.out))
        have K6 := Aside0.mk (K4.out.trans (KeptT.below hb6))
        have HBW6 := Aside0.mk (Nat.le_trans HBW4.out hb6.size)
        have hs6 := hb6.size
        clear hb6 hv6 q0 z0 z3 z4
        have HL7 := Aside0.mk (show (bs ++ [123] ++ elemsW (writeD d) true 0 (rs.take k) ns ++ [44]).length + (⟨(quoteR nm).toArray⟩ : ByteArray).size ≤ 140737488355328 by have h9 : (⟨(quoteR nm).toArray⟩ : ByteArray).size = (quoteR nm).length := (by simp [ByteArray.size]); rw [h9]; have h1 := HLS.out; rw [if_neg HK0.out] at h1; simp only [List.length_append, List.length_singleton] at h1 ⊢; omega)
        have HL8 := Aside0.mk (show (bs ++ [123] ++ elemsW (writeD d) true 0 (rs.take k) ns ++ [44] ++ quoteR nm).length + 1 ≤ 140737488355328 by have h1 := HLS.out; rw [if_neg HK0.out] at h1; simp only [List.length_append, List.length_singleton] at h1 ⊢; omega)
        have HL9 := Aside0.mk (show (bs ++ [123] ++ elemsW (writeD d) true 0 (rs.take k) ns ++ [44] ++ quoteR nm ++ [58]).length + (writeD d x).length ≤ 10000000000000 by have h1 := HLS.out; rw [if_neg HK0.out] at h1; simp only [List.length_append, List.length_singleton] at h1 ⊢; omega)
        go_wp2_with (first | (at_builtin; refine put_str Br rfl (.tmp 59) (.tmp 65) rfl v4 _ ⟨(quoteR nm).toArray⟩ rfl rfl H6.out HBW6.out HL7.out ?_; intro v7 w7 H7 b7 k7; have HV7 := Aside0.mk (k7 _ _ HV6.out); replace H7 := Aside0.mk H7; have HB7 := Aside0.mk (HB6.out.trans (b7.mono h0b)); have B7 := Aside0.mk (B6.out.trans b7); have K7 := Aside0.mk (K6.out.trans k7); have HBW7 := Aside0.mk (Nat.le_trans HBW6.out b7.size); have hs7 := b7.size; clear b7 k7 u0 u3) | (at_builtin; refine put_byte Br rfl (.tmp 67) (.tmp 68) rfl v7 (bs ++ [123] ++ elemsW (writeD d) true 0 (rs.take k) ns ++ [44] ++ quoteR nm) 58 58 (by rfl) rfl (by first | rfl | (go_simp; done) | (go_simp; rfl)) H7.out HBW7.out HL8.out ?_; intro v8 w8 H8 b8 k8; have HV8 := Aside0.mk (k8 _ _ HV7.out); have HB8 := HB7.out.trans (b8.mono h0b); have r0 := cell_below' HB8 HR0.out.1; have r1 := cell_below' HB8 HR0.out.2.1; have r2 := cell_below' HB8 HR0.out.2.2.1; have r3 := cell_below' HB8 HR0.out.2.2.2.1; have r4 := cell_below' HB8 HR0.out.2.2.2.2; have t3 : w8.cell? ⟨w.heap.size, 3, none⟩ = some (.slice (some ad) rs.length c3) := blk_cell HV8.out 3; replace HB8 := Aside0.mk HB8; replace H8 := Aside0.mk H8; have B8 := Aside0.mk (B7.out.trans b8); have K8 := Aside0.mk (K7.out.trans k8); have HBW8 := Aside0.mk (Nat.le_trans HBW7.out b8.size); have hs8 := b8.size; clear b8 k8))
        have H := Aside0.mk (HIH.out x B3 e3 B4x e4 w0 w8 Br v8 _ HOX.out HC.out.1 HC.out.2.1 HC.out.2.2.1 HC.out.2.2.2 HB8.out h0b H8.out HBW8.out HL9.out HLW.out)
        unfold vArg at H
        refine H.out.mono ?_
        rintro e w5 ⟨v5, rfl, h5, b5, k5⟩
        have H5 := Aside0.mk h5
        have B5 := Aside0.mk (B8.out.trans b5)
        have K5 := Aside0.mk (K8.out.trans k5)
        have V5 := Aside0.mk (k5 _ _ HV8.out)
        have S5 := b5.size
        clear h5 b5 k5 r0 r1 r2 r3 r4 t3
        go_wp2
        go_roundg k1'
        case measure => omega
        case rel => exact ⟨k + 1, v5, by omega, rfl, by go_num, by omega, Aside0.mk (by rw [HNX.out, if_neg HK0.out]; simpa using H5.out), B5, K5, V5⟩
end Go.Proofs.YtegppkngdkkdcaaGreatDoor.Tr
end
section
set_option linter.unusedVariables false
set_option linter.unusedSimpArgs false
namespace Go.Proofs.YtegppkngdkkdcaaGreatDoor.Tr
open Go.RowKit Go.Proofs.YtegppkngdkkdcaaGreatDoorW.PrintWords Go.Proofs.YtegppkngdkkdcaaGreatDoorW.PrintLast Go.Proofs.YtegppkngdkkdcaaGreatDoorW.PrintMore
open Go.Proofs.YtegppkngdkkdcaaGreatDoor.Lx Go.Proofs.YtegppkngdkkdcaaGreatDoor.PS
theorem put_leaf (d : Nat) (x : V) (A3 : Option Addr) (c3 : Nat) (A4 : Option Addr) (c4 : Nat) (w : World) (Br : Nat) (v : Value) (bs : List UInt8) (hok : Ok d x) (h5 : x.f0 ≠ 5) (h6 : x.f0 ≠ 6) (hv : OwnB Br v bs w) (hBr : Br ≤ w.heap.size) (hl : bs.length + (writeD d x).length ≤ 10000000000000) (hlw : ∀ w1, Below w.heap.size w w1 → LW w1) :
    Calls Tryz.prog 32 #[v, vArg x A3 c3 A4 c4] w (PutQ Br bs (writeD d x) w) := by
  have hk := bareV_kind (sound_bare hok.s)
  have hn := ok_n hok
  rw [writeD_leaf d x h5 h6] at hl ⊢
  obtain ⟨k, n, t, rs, ns⟩ := x
  simp only at hk hn h5 h6
  unfold vArg
  simp only
  have hc : k = 1 ∨ k = 2 ∨ k = 3 ∨ k = 4 := by omega
  rcases hc with rfl | rfl | rfl | rfl
  · exact put_1 n t A3 _ c3 A4 _ c4 w Br v bs hv hBr hl
  · exact put_2 n t A3 _ c3 A4 _ c4 w Br v bs hv hBr hl
  · exact put_3 n hn t A3 _ c3 A4 _ c4 w Br v bs hv hBr hl hlw
  · have := put_4 n t.data.toList A3 rs.length c3 A4 ns.length c4 w Br v bs hv hBr hl
    rw [show (ByteArray.mk t.data.toList.toArray) = t by cases t; rfl] at this
    exact this
theorem put_calls : ∀ d, RPutC d
  | 0 => by
    intro x A3 c3 A4 c4 w0 w Br v bs hok l3 g3 l4 g4 hb0 h0b hv hBr hl hlw
    have hs := hok.s
    simp only [soundR, Bool.and_eq_true, Bool.not_eq_true', Bool.or_eq_false_iff, beq_eq_false_iff_ne] at hs
    exact put_leaf 0 x A3 c3 A4 c4 w Br v bs hok hs.1.1.1 hs.1.1.2 hv hBr hl (fun w1 h1 => hlw w1 (hb0.trans (h1.mono hb0.size)))
  | d + 1 => by
    intro x A3 c3 A4 c4 w0 w Br v bs hok l3 g3 l4 g4 hb0 h0b hv hBr hl hlw
    by_cases h5 : x.f0 = 5
    · have hs := hok.s
      simp only [soundR, Bool.and_eq_true, List.all_eq_true] at hs
      have hy : ∀ y ∈ x.f3, Ok d y := fun y hy => ⟨hs.2 y hy, hok.n.2 y hy, hok.f.2.2 y hy⟩
      obtain ⟨k, n, t, rs, ns⟩ := x
      simp only at h5
      subst h5
      simp only [writeD, if_pos] at hl ⊢
      exact put_arr d (put_calls d) n t rs ns A3 c3 A4 ns.length c4 w0 w Br v bs hy hok.f.1 l3 g3 hb0 h0b hv hBr (by simp only [List.length_append, List.length_cons, List.length_nil] at hl; omega) hlw
    · by_cases h6 : x.f0 = 6
      · have hs := hok.s
        have hbv := sound_bare hs
        simp only [soundR, Bool.and_eq_true, List.all_eq_true] at hs
        have hy : ∀ y ∈ x.f3, Ok d y := fun y hy => ⟨hs.2 y hy, hok.n.2 y hy, hok.f.2.2 y hy⟩
        obtain ⟨k, n, t, rs, ns⟩ := x
        simp only at h6
        subst h6
        have hns : ns.length = rs.length := by
          simp [bareV, bareR] at hbv
          exact hbv.2
        simp only [writeD, if_neg (show ¬ (6 : Int) = 5 by decide), if_pos] at hl ⊢
        exact put_map d (put_calls d) n t rs ns A3 c3 A4 c4 w0 w Br v bs hy hok.f.1 l3 g3 hns l4 g4 hb0 h0b hv hBr (by simp only [List.length_append, List.length_cons, List.length_nil] at hl; omega) hlw
      · exact put_leaf (d + 1) x A3 c3 A4 c4 w Br v bs hok h5 h6 hv hBr hl (fun w1 h1 => hlw w1 (hb0.trans (h1.mono hb0.size)))
theorem own_back {Br : Nat} {v : Value} {l : List UInt8} {w : World} (h : OwnB Br v l w) : (convert 63 9 v).run Tryz.prog w = .ok (.string ⟨l.toArray⟩) w := by
  have hc := fun g => World.ownsRow.cells (g := g) h
  rcases h.2 with ⟨rfl, hx⟩ | ⟨g, cap, cur, rfl, _⟩
  · have : l = [] := by
      cases l with
      | nil => rfl
      | cons a r => simp [Lib.byteCells] at hx
    subst this
    exact Lib.run_convert_nil_bytes w 63 9 5 0 Tryz.underlying63 Tryz.underlying5 Tryz.underlying9
  · exact run_convert_bytes_back _ 63 9 5 ⟨g, 0, none⟩ cap l Tryz.underlying63 Tryz.underlying5 Tryz.underlying9 (fun j hj => hc g rfl j (.int .u8 (l[j].toNat)) (by simp [Lib.byteCells, hj]))
set_option maxRecDepth 100000 in
set_option maxHeartbeats 1000000 in
theorem refSound_calls (x : V) (A3 : Option Addr) (c3 : Nat) (A4 : Option Addr) (c4 : Nat) (w : World) (fx : fitsR 8 x) (l3 : x.f3.length ≤ c3) (g3 : k26.C w A3 x.f3.length x.f3) (l4 : x.f4.length ≤ c4) (g4 : Kd.string.C w A4 x.f4.length x.f4) :
    Calls Tryz.prog 31 #[vArg x A3 c3 A4 c4] w fun e w' => e = .returned (.bool (soundR 8 x)) ∧ Below w.heap.size w w' := by
  have hba := (Below.refl w.heap.size w).alloc (Nat.le_refl _) (.cells #[.int .i64 x.f0, .int .i64 x.f1, .string x.f2, .slice A3 x.f3.length c3, .slice A4 x.f4.length c4] 26 (0, 0))
  have H := Aside0.mk (rsound_calls 8 (Nat.le_refl _) x A3 c3 A4 c4 _ fx l3 (Kd.C_below g3 hba) l4 (Kd.C_below g4 hba))
  have HB := Aside0.mk hba
  unfold vArg at *
  clear hba g3 g4
  generalize soundR 8 x = r at *
  go_enter Tryz.func31, Tryz.ntmps31
  go_wp2_with fail
  refine H.out.mono ?_
  rintro e w' ⟨rfl, hb'⟩
  have HB2 := Aside0.mk (HB.out.trans (hb'.mono HB.out.size))
  clear hb'
  go_wp2
  go_ret
  exact ⟨rfl, HB2.out⟩
set_option maxRecDepth 100000 in
set_option maxHeartbeats 2000000 in
theorem refPrint_calls (x : V) (A3 : Option Addr) (c3 : Nat) (A4 : Option Addr) (c4 : Nat) (w : World) (fx : fitsR 8 x) (nx : numsR 8 x) (l3 : x.f3.length ≤ c3) (g3 : k26.C w A3 x.f3.length x.f3) (l4 : x.f4.length ≤ c4) (g4 : Kd.string.C w A4 x.f4.length x.f4)
    (hl : (writeD 8 x).length ≤ 10000000000000) (hlw : ∀ w1, Below w.heap.size w w1 → LW w1) :
    Calls Tryz.prog 15 #[vArg x A3 c3 A4 c4] w fun e w' => e = .returned (.tuple #[.string ⟨(printR x).1.toArray⟩, .int .i64 (printR x).2]) ∧ Below w.heap.size w w' := by
  have hba := (Below.refl w.heap.size w).alloc (Nat.le_refl _) (.cells #[.int .i64 x.f0, .int .i64 x.f1, .string x.f2, .slice A3 x.f3.length c3, .slice A4 x.f4.length c4] 26 (0, 0))
  have NV := Aside0.mk (blk_new w (.cells #[.int .i64 x.f0, .int .i64 x.f1, .string x.f2, .slice A3 x.f3.length c3, .slice A4 x.f4.length c4] 26 (0, 0)))
  have HS := Aside0.mk (refSound_calls x A3 c3 A4 c4 _ fx l3 (Kd.C_below g3 hba) l4 (Kd.C_below g4 hba))
  have HG := Aside0.mk (And.intro g3 g4)
  have HW := Aside0.mk hlw
  have HO := Aside0.mk (And.intro fx nx)
  have HL := Aside0.mk hl
  have HBA := Aside0.mk hba
  have HR := Aside0.mk (show printR x = if soundR 8 x = true then (writeD 8 x, 0) else ([], 1) from rfl)
  generalize printR x = pr at *
  unfold vArg at *
  clear g3 g4 hlw fx nx hl hba
  go_enter Tryz.func15, Tryz.ntmps15
  go_wp2_with fail
  refine HS.out.mono ?_
  clear HS
  rintro e w1 ⟨rfl, hb1⟩
  have hv1 := (hb1.block _ (blk_lt NV.out)).trans NV.out
  have HB1 := Aside0.mk (HBA.out.trans (hb1.mono HBA.out.size))
  have x0 : w1.cell? ⟨w.heap.size, 0, none⟩ = some (.int .i64 x.f0) := blk_cell hv1 0
  have x1 : w1.cell? ⟨w.heap.size, 1, none⟩ = some (.int .i64 x.f1) := blk_cell hv1 1
  have x2 : w1.cell? ⟨w.heap.size, 2, none⟩ = some (.string x.f2) := blk_cell hv1 2
  have x3 : w1.cell? ⟨w.heap.size, 3, none⟩ = some (.slice A3 x.f3.length c3) := blk_cell hv1 3
  have x4 : w1.cell? ⟨w.heap.size, 4, none⟩ = some (.slice A4 x.f4.length c4) := blk_cell hv1 4
  clear hb1 hv1
  cases hs : soundR 8 x with
  | false =>
    have HQ := Aside0.mk (show pr = ([], 1) by rw [HR.out, hs]; rfl)
    clear hs
    go_wp2
    go_ret2
    rw [HQ.out]
    exact ⟨rfl, HB1.out⟩
  | true =>
    have HQ := Aside0.mk (show pr = (writeD 8 x, 0) by rw [HR.out, hs]; rfl)
    have HSS := Aside0.mk hs
    clear hs
    have H := Aside0.mk (put_calls 8 x A3 c3 A4 c4 w w1 w.heap.size (.slice none 0 0) [] ⟨HSS.out, HO.out.2, HO.out.1⟩ l3 HG.out.1 l4 HG.out.2 HB1.out (Nat.le_refl _) (ownB_nil _ _) HB1.out.size (by simpa using HL.out) HW.out)
    unfold vArg at H
    go_wp2_with fail
    refine H.out.mono ?_
    rintro e w3 ⟨v3, rfl, h3, b3, k3⟩
    have HB3 := Aside0.mk (HB1.out.trans b3)
    have hcv := own_back h3
    rw [List.nil_append] at hcv
    clear h3 b3 k3 x0 x1 x2 x3 x4 H
    go_wp2
    go_ret2
    rw [HQ.out]
    exact ⟨rfl, HB3.out⟩
end Go.Proofs.YtegppkngdkkdcaaGreatDoor.Tr
end
section
set_option linter.unusedVariables false
set_option linter.unusedSimpArgs false
namespace Go.Proofs.YtegppkngdkkdcaaGreatDoor.Tr
open Go.RowKit Go.Proofs.YtegppkngdkkdcaaGreatDoorW.PrintWords Go.Proofs.YtegppkngdkkdcaaGreatDoorW.PrintLast Go.Proofs.YtegppkngdkkdcaaGreatDoorW.PrintMore
open Go.Proofs.YtegppkngdkkdcaaGreatDoor.Lx Go.Proofs.YtegppkngdkkdcaaGreatDoor.PS
theorem infoStr' : (Tryz.prog.info? 9).map (fun i => (i.zero, i.size, i.bytes)) = some (some (.string ⟨#[]⟩), 1, 16) := by kernel_rfl
def CloQ {α : Type} (d : Kd α) (e : TypeId) (xs : List α) (w0 w : World) (E : Ending) (w' : World) : Prop :=
  ∃ v inner, E = .returned v ∧ w'.ownsRow w.heap.size e d.sz v xs.length inner ∧ Reps (d.K w0) d.sz xs inner ∧ Below w.heap.size w w'
set_option maxRecDepth 100000 in
set_option maxHeartbeats 1000000 in
theorem CloneV_calls (xs : List V) (A : Option Addr) (c : Nat) (w0 w : World) (hb : Below w0.heap.size w0 w) (hl : xs.length ≤ 1000000000000) (hc : xs.length ≤ c) (hC : Kd.C k26 w0 A xs.length xs) :
    Calls Tryz.prog 58 #[.slice A xs.length c] w (CloQ k26 26 xs w0 w) := by
  obtain ⟨i0, hi, hz0, hz1, hz2⟩ := info_parts infoVal'
  have qn : ∀ (w : World) (a : Option Addr) (n c n' c' : Nat), (binOp .eql 23 (.slice a n c) (.slice none n' c')).run Tryz.prog w = .ok (.bool a.isNone) w := fun w a n c n' c' => Lib.run_eql_slice_nil w _ _ a n c n' c' Tryz.underlying23
  have un : ∀ w, Sem.run Tryz.prog (underlying 23) w = .ok (TypeDesc.slice 26) w := run_underlying Tryz.underlying23
  cases A with
  | none =>
    have h0 : xs = [] := by
      cases xs with
      | nil => rfl
      | cons x xs =>
        obtain ⟨_, _, e, _⟩ := Kd.C_get hC zV 0 (by omega) (by simp)
        cases e
    subst h0
    clear hC hb
    go_enter Tryz.func58, Tryz.ntmps58
    go_wp2
    go_ret
    exact ⟨_, [], rfl, World.ownsRow_nil _ _ _ _, Reps.none _ _, Below.refl _ _⟩
  | some ad =>
    obtain ⟨inner, hr, hcells⟩ := ReadsRow.inner_ hC
    have HR := Aside0.mk hr
    have hil : inner.length = xs.length * 5 := hr.1
    have hone : ∀ u ∈ inner, u.oneCell' = true := Kd.reps_one hr (by decide) (fun p c h => Kd.K_one k26 h)
    have HCE := Aside0.mk (fun (j : Nat) (u : Value) (hj : inner[j]? = some u) => cell_below' hb (hcells j u hj))
    have HON := Aside0.mk hone
    have HIL := Aside0.mk hil
    clear hC hr hcells hone hil hb
    go_enter Tryz.func58, Tryz.ntmps58
    go_wp2_with (at_builtin; refine wpList_append_own _ rfl _ _ 23 rfl w.heap.size 26 i0 (.agg #[.int .i64 0, .int .i64 0, .string ⟨#[]⟩, .slice none 0 0, .slice none 0 0]) 5 80 Tryz.underlying23 hi hz0 hz1 hz2 rfl (by decide) _ _ _ rfl (World.ownsRow_made w #[] 0 (Nat.le_refl _) (Nat.zero_le _) rfl) ad xs.length c inner rfl ?qc1 ?qc2 ?qc3 ?qc4 ?qc5 ?qc6 ?_)
    case qc1 => rw [HIL.out]
    case qc2 =>
      intro j u hj
      exact Lib.cell?_alloc_some _ (HCE.out j u hj)
    case qc3 => exact HON.out
    case qc4 => unfold maxLen; omega
    case qc5 => omega
    case qc6 => simp
    intro v' w1 hown hgrow hnil
    have HO := Aside0.mk hown
    have HG := Aside0.mk hgrow
    clear hown hgrow hnil
    go_wp2
    go_ret
    refine ⟨v', inner, rfl, (show w1.ownsRow w.heap.size 26 5 v' xs.length inner by simpa using HO.out), HR.out, ?_⟩
    exact ((Below.refl _ w).alloc (Nat.le_refl _) _).grown HG.out (by simp) (by intro k hk; simp [Value.ownBlock] at hk; omega)
set_option maxRecDepth 100000 in
set_option maxHeartbeats 1000000 in
theorem CloneS_calls (xs : List ByteArray) (A : Option Addr) (c : Nat) (w0 w : World) (hb : Below w0.heap.size w0 w) (hl : xs.length ≤ 1000000000000) (hc : xs.length ≤ c) (hC : Kd.C Kd.string w0 A xs.length xs) :
    Calls Tryz.prog 57 #[.slice A xs.length c] w (CloQ Kd.string 9 xs w0 w) := by
  obtain ⟨i0, hi, hz0, hz1, hz2⟩ := info_parts infoStr'
  have qn : ∀ (w : World) (a : Option Addr) (n c n' c' : Nat), (binOp .eql 24 (.slice a n c) (.slice none n' c')).run Tryz.prog w = .ok (.bool a.isNone) w := fun w a n c n' c' => Lib.run_eql_slice_nil w _ _ a n c n' c' Tryz.underlying24
  have un : ∀ w, Sem.run Tryz.prog (underlying 24) w = .ok (TypeDesc.slice 9) w := run_underlying Tryz.underlying24
  cases A with
  | none =>
    have h0 : xs = [] := by
      cases xs with
      | nil => rfl
      | cons x xs =>
        obtain ⟨_, _, e, _⟩ := Kd.C_get hC ByteArray.empty 0 (by omega) (by simp)
        cases e
    subst h0
    clear hC hb
    go_enter Tryz.func57, Tryz.ntmps57
    go_wp2
    go_ret
    exact ⟨_, [], rfl, World.ownsRow_nil _ _ _ _, Reps.none _ _, Below.refl _ _⟩
  | some ad =>
    obtain ⟨inner, hr, hcells⟩ := ReadsRow.inner_ hC
    have HR := Aside0.mk hr
    have hil : inner.length = xs.length * 1 := hr.1
    have hone : ∀ u ∈ inner, u.oneCell' = true := Kd.reps_one hr (by decide) (fun p c h => Kd.K_one Kd.string h)
    have HCE := Aside0.mk (fun (j : Nat) (u : Value) (hj : inner[j]? = some u) => cell_below' hb (hcells j u hj))
    have HON := Aside0.mk hone
    have HIL := Aside0.mk hil
    clear hC hr hcells hone hil hb
    go_enter Tryz.func57, Tryz.ntmps57
    go_wp2_with (at_builtin; refine wpList_append_own _ rfl _ _ 24 rfl w.heap.size 9 i0 (.string ⟨#[]⟩) 1 16 Tryz.underlying24 hi hz0 hz1 hz2 rfl (by decide) _ _ _ rfl (World.ownsRow_made w #[] 0 (Nat.le_refl _) (Nat.zero_le _) rfl) ad xs.length c inner rfl ?qc1 ?qc2 ?qc3 ?qc4 ?qc5 ?qc6 ?_)
    case qc1 => rw [HIL.out]
    case qc2 =>
      intro j u hj
      exact Lib.cell?_alloc_some _ (HCE.out j u hj)
    case qc3 => exact HON.out
    case qc4 => unfold maxLen; omega
    case qc5 => omega
    case qc6 => simp
    intro v' w1 hown hgrow hnil
    have HO := Aside0.mk hown
    have HG := Aside0.mk hgrow
    clear hown hgrow hnil
    go_wp2
    go_ret
    refine ⟨v', inner, rfl, (show w1.ownsRow w.heap.size 9 1 v' xs.length inner by simpa using HO.out), HR.out, ?_⟩
    exact ((Below.refl _ w).alloc (Nat.le_refl _) _).grown HG.out (by simp) (by intro k hk; simp [Value.ownBlock] at hk; omega)
end Go.Proofs.YtegppkngdkkdcaaGreatDoor.Tr
end
section
set_option linter.unusedVariables false
set_option linter.unusedSimpArgs false
namespace Go.Proofs.YtegppkngdkkdcaaGreatDoor.Tr
open Go.RowKit Go.Proofs.YtegppkngdkkdcaaGreatDoorW.PrintWords Go.Proofs.YtegppkngdkkdcaaGreatDoorW.PrintLast Go.Proofs.YtegppkngdkkdcaaGreatDoorW.PrintMore
open Go.Proofs.YtegppkngdkkdcaaGreatDoor.Lx Go.Proofs.YtegppkngdkkdcaaGreatDoor.PS
theorem set5_mid (A R : List Value) (b0 b1 b2 b3 b4 a0 a1 a2 a3 a4 : Value) : ((((((A ++ b0 :: b1 :: b2 :: b3 :: b4 :: R).set A.length a0).set (A.length + 1) a1).set (A.length + 2) a2).set (A.length + 3) a3).set (A.length + 4) a4) = A ++ a0 :: a1 :: a2 :: a3 :: a4 :: R := by
  simp [List.set_append]
theorem five_of (l : List Value) (h : 5 ≤ l.length) : ∃ b0 b1 b2 b3 b4 R, l = b0 :: b1 :: b2 :: b3 :: b4 :: R := by
  match l, h with
  | b0 :: b1 :: b2 :: b3 :: b4 :: R, _ => exact ⟨_, _, _, _, _, _, rfl⟩
theorem list_put5 {l inner : List Value} {k m : Nat} (hk : k + 5 ≤ m) (h : l.take m = inner) (hm : m ≤ l.length) (a0 a1 a2 a3 a4 : Value) :
    (((((l.set k a0).set (k + 1) a1).set (k + 2) a2).set (k + 3) a3).set (k + 4) a4).take m = inner.take k ++ [a0, a1, a2, a3, a4] ++ inner.drop (k + 5) := by
  have hl : inner.length = m := by rw [← h, List.length_take]; omega
  simp only [List.take_set, h]
  obtain ⟨b0, b1, b2, b3, b4, R, hd⟩ := five_of (inner.drop k) (by rw [List.length_drop]; omega)
  have e : inner = inner.take k ++ b0 :: b1 :: b2 :: b3 :: b4 :: R := by rw [← hd, List.take_append_drop]
  have ek : (inner.take k).length = k := by rw [List.length_take]; omega
  have e5 : inner.drop (k + 5) = R := by rw [← List.drop_drop, hd]; rfl
  have hs := set5_mid (inner.take k) R b0 b1 b2 b3 b4 a0 a1 a2 a3 a4
  rw [← e, ek] at hs
  rw [hs, e5]
  simp
theorem put5_at {w : World} {base g n c i : Nat} {e : TypeId} {inner : List Value} (hi : i < n) (h : w.ownsRow base e 5 (.slice (some ⟨g, 0, none⟩) n c) n inner) (a0 a1 a2 a3 a4 : Value) :
    (put5 w g (i * 5) a0 a1 a2 a3 a4).ownsRow base e 5 (.slice (some ⟨g, 0, none⟩) n c) n (inner.take (i * 5) ++ [a0, a1, a2, a3, a4] ++ inner.drop (i * 5 + 5)) := by
  have hi5 : i * 5 + 5 ≤ n * 5 := by omega
  obtain ⟨h1, h2⟩ := h
  refine ⟨by simp only [List.length_append, List.length_take, List.length_drop, List.length_cons, List.length_nil]; omega, ?_⟩
  rcases h2 with ⟨h2, _⟩ | ⟨g', cap, cur, hv, hg, hh, r1, r2, r3, r4⟩
  · cases h2
  · injection hv with e1 e2 e3
    injection e1 with e1
    injection e1 with e1
    subst e1
    refine .inr ⟨g, cap, _, by rw [e3], hg, put5_blk hh _ _ _ _ _, r1, r2, by simpa using r3, ?_⟩
    simp only [Array.toList_setIfInBounds]
    refine list_put5 hi5 r4 ?_ _ _ _ _ _
    rw [Array.length_toList, r3]
    exact Nat.mul_le_mul_right 5 r1
theorem put5_below {B g k : Nat} {w : World} (hb : B ≤ g) (a0 a1 a2 a3 a4 : Value) : Below B w (put5 w g k a0 a1 a2 a3 a4) :=
  (((((Below.refl B w).setCell (p := ⟨g, k, none⟩) hb a0).setCell (p := ⟨g, k + 1, none⟩) hb a1).setCell (p := ⟨g, k + 2, none⟩) hb a2).setCell (p := ⟨g, k + 3, none⟩) hb a3).setCell (p := ⟨g, k + 4, none⟩) hb a4
def CopQ (x : V) (w : World) (e : Ending) (w' : World) : Prop := Below w.heap.size w w' ∧ ∃ v3 v4, e = .returned (.agg #[.int .i64 x.f0, .int .i64 x.f1, .string x.f2, v3, v4]) ∧
  k26.R 26 w' w.heap.size (fun _ => True) v3 x.f3 ∧ Kd.string.R 9 w' w.heap.size (fun _ => True) v4 x.f4
def CopyC (d : Nat) : Prop := ∀ (x : V) (A3 : Option Addr) (c3 : Nat) (A4 : Option Addr) (c4 : Nat) (w : World), soundR d x = true → fitsR d x → x.f3.length ≤ c3 → k26.C w A3 x.f3.length x.f3 → x.f4.length ≤ c4 → Kd.string.C w A4 x.f4.length x.f4 →
  Calls Tryz.prog 30 #[vArg x A3 c3 A4 c4] w (CopQ x w)
def seg (j : Nat) (inner : List Value) : List Value := (inner.drop (j * 5)).take 5
structure CpI (k : Nat) (rs : List V) (w : World) (g base : Nat) (inner : List Value) (w2 : World) : Prop where
  l : inner.length = rs.length * 5
  m : ∀ j p, rs[j]? = some p → j < k → k26.M w2 base (fun b => b ≠ g) p (seg j inner)
  o : ∀ j p, rs[j]? = some p → k ≤ j → k26.K w p (seg j inner)
theorem seg_put (inner : List Value) (n i j : Nat) (hl : inner.length = n * 5) (hi : i < n) (s : List Value) (hs : s.length = 5) : seg j (inner.take (i * 5) ++ s ++ inner.drop (i * 5 + 5)) = if j = i then s else seg j inner := by
  unfold seg
  have hi5 : i * 5 + 5 ≤ n * 5 := by omega
  have hkl : (inner.take (i * 5)).length = i * 5 := by rw [List.length_take]; omega
  split
  · rename_i h
    subst h
    rw [List.append_assoc, List.drop_append, List.drop_eq_nil_of_le (by omega), hkl, Nat.sub_self, List.drop_zero, List.nil_append, List.take_append_of_le_length (by omega), List.take_of_length_le (by omega)]
  · rename_i h
    rcases Nat.lt_or_ge j i with h1 | h1
    · rw [List.append_assoc, List.drop_append_of_le_length (by omega), List.take_append_of_le_length (by rw [List.length_drop]; omega), List.drop_take, List.take_take, Nat.min_eq_left (by omega)]
    · rw [List.drop_append, List.drop_eq_nil_of_le (by rw [List.length_append]; omega), List.nil_append, List.drop_drop, List.length_append, hkl, hs]
      rw [show i * 5 + 5 + (j * 5 - (i * 5 + 5)) = j * 5 by omega]
theorem res_copied (tmps : Array Value) (w : World) (b : Nat) (v0 v1 v2 v3 v4 : Value) (h4 : tmps.getD 2 undef = .pointer (some ⟨b, 0, none⟩)) (hb : w.heap[b]? = some (.cells #[v0, v1, v2, v3, v4] 26 (0, 0))) :
    (results Tryz.f30 tmps).run Tryz.prog w = .ok (.agg #[v0, v1, v2, v3, v4]) w := by
  have c0 := blk_cell hb 0
  have c1 := blk_cell hb 1
  have c2 := blk_cell hb 2
  have c3 := blk_cell hb 3
  have c4 := blk_cell hb 4
  rw [Array.getD_eq_getD_getElem?] at h4
  simp at c0 c1 c2 c3 c4
  simp [results, Tryz.results30, go_sem, h4, c0, c1, c2, c3, c4]
set_option maxRecDepth 100000 in
set_option maxHeartbeats 2000000 in
theorem copied_step (x : V) (P : V → Prop) (HC : ∀ y ∈ x.f3, ∀ (A3 : Option Addr) (c3 : Nat) (A4 : Option Addr) (c4 : Nat) (w : World), y.f3.length ≤ c3 → k26.C w A3 y.f3.length y.f3 → y.f4.length ≤ c4 → Kd.string.C w A4 y.f4.length y.f4 → Calls Tryz.prog 30 #[vArg y A3 c3 A4 c4] w (CopQ y w))
    (A3 : Option Addr) (c3 : Nat) (A4 : Option Addr) (c4 : Nat) (w : World) (h3 : x.f3.length ≤ 1000000000000) (h4 : x.f4.length ≤ 1000000000000) (l3 : x.f3.length ≤ c3) (g3 : k26.C w A3 x.f3.length x.f3) (l4 : x.f4.length ≤ c4) (g4 : Kd.string.C w A4 x.f4.length x.f4) :
    Calls Tryz.prog 30 #[vArg x A3 c3 A4 c4] w (CopQ x w) := by
  have nv := blkA (blk_new w (.cells #[.int .i64 x.f0, .int .i64 x.f1, .string x.f2, .slice A3 x.f3.length c3, .slice A4 x.f4.length c4] 26 (0, 0))) (.cells zCs.toArray 26 (0, 0))
  have nz := blk_new (w.alloc (.cells #[.int .i64 x.f0, .int .i64 x.f1, .string x.f2, .slice A3 x.f3.length c3, .slice A4 x.f4.length c4] 26 (0, 0))) (.cells zCs.toArray 26 (0, 0))
  rw [show (w.alloc (.cells #[.int .i64 x.f0, .int .i64 x.f1, .string x.f2, .slice A3 x.f3.length c3, .slice A4 x.f4.length c4] 26 (0, 0))).heap.size = w.heap.size + 1 by simp] at nz
  have hb0 : Below w.heap.size w ((w.alloc (.cells #[.int .i64 x.f0, .int .i64 x.f1, .string x.f2, .slice A3 x.f3.length c3, .slice A4 x.f4.length c4] 26 (0, 0))).alloc (.cells zCs.toArray 26 (0, 0))) := ((Below.refl _ _).alloc (Nat.le_refl _) _).alloc (by simp) _
  unfold zCs at *
  have HG := Aside0.mk (And.intro g3 g4)
  have HCC := Aside0.mk HC
  unfold vArg
  clear g3 g4 HC
  go_enter Tryz.func30, Tryz.ntmps30
  go_wp2_with fail
  generalize (w.alloc (.cells #[.int .i64 x.f0, .int .i64 x.f1, .string x.f2, .slice A3 x.f3.length c3, .slice A4 x.f4.length c4] 26 (0, 0))).alloc (.cells [.int .i64 0, .int .i64 0, .string ⟨#[]⟩, .slice none 0 0, .slice none 0 0].toArray 26 (0, 0)) = W2 at *
  refine (CloneS_calls x.f4 A4 c4 w W2 hb0 h4 l4 HG.out.2).mono ?_
  rintro e w3 ⟨v4, in4, rfl, o4, r4, b3⟩
  obtain ⟨B4, d4, rfl⟩ := own_slice o4
  have hv3 := (b3.block _ (blk_lt nv)).trans nv
  have hz3 := (b3.block _ (blk_lt nz)).trans nz
  have hb3 := hb0.trans (b3.mono hb0.size)
  have x0 : w3.cell? ⟨w.heap.size, 0, none⟩ = some (.int .i64 x.f0) := blk_cell hv3 0
  have x1 : w3.cell? ⟨w.heap.size, 1, none⟩ = some (.int .i64 x.f1) := blk_cell hv3 1
  have x2 : w3.cell? ⟨w.heap.size, 2, none⟩ = some (.string x.f2) := blk_cell hv3 2
  have x3 : w3.cell? ⟨w.heap.size, 3, none⟩ = some (.slice A3 x.f3.length c3) := blk_cell hv3 3
  have x4 : w3.cell? ⟨w.heap.size, 4, none⟩ = some (.slice A4 x.f4.length c4) := blk_cell hv3 4
  have xf : ∀ j, w3.frozen? ⟨w.heap.size, j, none⟩ = false := blk_frozen hv3
  have s2 : w.heap.size + 2 ≤ W2.heap.size := by have := blk_lt nz; omega
  have hR4 : Kd.string.R 9 w3 W2.heap.size (fun _ => True) (.slice B4 x.f4.length d4) x.f4 := ⟨fun _ _ => trivial, in4, o4, r4.imp_ (fun _ _ h => h)⟩
  have hv4 := blk_put hv3 4 (.slice B4 x.f4.length d4) rfl
  have hz4 := far1 (j := 4) hz3 (show w.heap.size + 1 ≠ w.heap.size by omega) (.slice B4 x.f4.length d4)
  have hb4 : Below w.heap.size w (w3.setCell ⟨w.heap.size, 4, none⟩ (.slice B4 x.f4.length d4)) := hb3.setCell (p := ⟨w.heap.size, 4, none⟩) (Nat.le_refl _) _
  have hR44 := Kd.R_step (Kd.R_bound hR4) (w1 := w3.setCell ⟨w.heap.size, 4, none⟩ (.slice B4 x.f4.length d4)) (fun k hk _ => far_set _ _ _ _ _ (by have := hk.2.1; omega))
  have hs4 : W2.heap.size ≤ (w3.setCell ⟨w.heap.size, 4, none⟩ (.slice B4 x.f4.length d4)).heap.size := by have := b3.size; simpa [World.setCell] using this
  have H4 := Aside0.mk (And.intro hv4 (And.intro hz4 (And.intro hb4 (And.intro hR44 hs4))))
  clear o4 r4 b3 nv nz hv3 hz3 hb3 hR4 hv4 hz4 hb4 hR44 hs4
  go_wp2_with fail
  generalize w3.setCell ⟨w.heap.size, 4, none⟩ (.slice B4 x.f4.length d4) = W4 at *
  refine (CloneV_calls x.f3 A3 c3 w W4 H4.out.2.2.1 h3 l3 HG.out.1).mono ?_
  rintro e w5 ⟨v3, in3, rfl, o3, r3, b5⟩
  obtain ⟨hv4, hz4, hb4, hR4, hs4⟩ := H4.out
  obtain ⟨B3, d3, rfl⟩ := own_slice o3
  have hv5 := (b5.block _ (blk_lt hv4)).trans hv4
  have hz5 := (b5.block _ (blk_lt hz4)).trans hz4
  have hb5 := hb4.trans (b5.mono hb4.size)
  have hR5 := Kd.R_below hR4 b5
  clear x0 x1 x2 x3 x4 xf H4
  have x0 : w5.cell? ⟨w.heap.size, 0, none⟩ = some (.int .i64 x.f0) := blk_cell hv5 0
  have x1 : w5.cell? ⟨w.heap.size, 1, none⟩ = some (.int .i64 x.f1) := blk_cell hv5 1
  have x2 : w5.cell? ⟨w.heap.size, 2, none⟩ = some (.string x.f2) := blk_cell hv5 2
  have x3 : w5.cell? ⟨w.heap.size, 3, none⟩ = some (.slice A3 x.f3.length c3) := blk_cell hv5 3
  have x4 : w5.cell? ⟨w.heap.size, 4, none⟩ = some (.slice B4 x.f4.length d4) := blk_cell hv5 4
  have xf : ∀ j, w5.frozen? ⟨w.heap.size, j, none⟩ = false := blk_frozen hv5
  have hv6 := blk_put hv5 3 (.slice B3 x.f3.length d3) rfl
  have hz6 := far1 (j := 3) hz5 (show w.heap.size + 1 ≠ w.heap.size by omega) (.slice B3 x.f3.length d3)
  have hb6 : Below w.heap.size w (w5.setCell ⟨w.heap.size, 3, none⟩ (.slice B3 x.f3.length d3)) := hb5.setCell (p := ⟨w.heap.size, 3, none⟩) (Nat.le_refl _) _
  have hR6 := Kd.R_step hR5 (w1 := w5.setCell ⟨w.heap.size, 3, none⟩ (.slice B3 x.f3.length d3)) (fun k hk _ => far_set _ _ _ _ _ (by have := hk.2.1; omega))
  have hs6 : W4.heap.size ≤ (w5.setCell ⟨w.heap.size, 3, none⟩ (.slice B3 x.f3.length d3)).heap.size := by have := b5.size; simpa [World.setCell] using this
  have ho6 : (w5.setCell ⟨w.heap.size, 3, none⟩ (.slice B3 x.f3.length d3)).ownsRow W2.heap.size 26 5 (.slice B3 x.f3.length d3) x.f3.length in3 := own_weaken (own_move o3 (fun k hk => far_set _ _ _ _ _ (by have := own_base o3 k hk; omega))) hs4
  obtain ⟨g, hg, hgb⟩ : ∃ g, (0 < x.f3.length → B3 = some ⟨g, 0, none⟩) ∧ W4.heap.size ≤ g := by
    rcases o3.2 with ⟨e, h0⟩ | ⟨g, cap, cur, e, hb, _⟩
    · exact ⟨W4.heap.size, fun h => by omega, Nat.le_refl _⟩
    · injection e with e _ _
      exact ⟨g, fun _ => e, hb⟩
  have hI6 : CpI 0 x.f3 w g W2.heap.size in3 (w5.setCell ⟨w.heap.size, 3, none⟩ (.slice B3 x.f3.length d3)) := ⟨r3.1, fun j p _ h => absurd h (Nat.not_lt_zero _), fun j p hj _ => r3.2 j p hj⟩
  have H6 := Aside0.mk (And.intro hv6 (And.intro hz6 (And.intro hb6 (And.intro (Kd.R_mono hR6 (ok' := fun k => W2.heap.size ≤ k) (fun k hk => hk.2.1)) (And.intro hs6 (And.intro ho6 hI6))))))
  clear o3 r3 b5 hv4 hz4 hb4 hR4 hv5 hz5 hb5 hR5 hv6 hz6 hb6 hR6 hs6 ho6 hI6
  go_wp2_with fail
  generalize w5.setCell ⟨w.heap.size, 3, none⟩ (.slice B3 x.f3.length d3) = W6 at *
  clear x0 x1 x2 x3 x4 xf
  go_loopg [3, 4, 16] x.f3.length (fun kq v3 v4 v16 w2 => ∃ (k : Nat) (inner : List Value), k + kq = x.f3.length ∧ v16 = .int .i64 k ∧ W4.heap.size ≤ w2.heap.size ∧ Aside0 (w2.heap[w.heap.size]? = some (.cells #[.int .i64 x.f0, .int .i64 x.f1, .string x.f2, .slice B3 x.f3.length d3, .slice B4 x.f4.length d4] 26 (0, 0))) ∧
    Aside0 (w2.heap[w.heap.size + 1]? = some (.cells #[.int .i64 0, .int .i64 0, .string ⟨#[]⟩, .slice none 0 0, .slice none 0 0] 26 (0, 0))) ∧ Aside0 (Below w.heap.size w w2) ∧ Aside0 (Kd.string.R 9 w2 W2.heap.size (fun k => W2.heap.size ≤ k) (.slice B4 x.f4.length d4) x.f4) ∧
    Aside0 (w2.ownsRow W2.heap.size 26 5 (.slice B3 x.f3.length d3) x.f3.length inner) ∧ Aside0 (CpI k x.f3 w g W2.heap.size inner w2))
  case atStart => exact ⟨0, in3, by omega, rfl, H6.out.2.2.2.2.1, Aside0.mk H6.out.1, Aside0.mk H6.out.2.1, Aside0.mk H6.out.2.2.1, Aside0.mk H6.out.2.2.2.1, Aside0.mk H6.out.2.2.2.2.2.1, Aside0.mk H6.out.2.2.2.2.2.2⟩
  case round =>
    obtain ⟨k, inner, hk, rfl, hsr, HV, HZ, HB, HR, HO, HI⟩ := hrel
    clear H6
    have x0 : wr.cell? ⟨w.heap.size, 0, none⟩ = some (.int .i64 x.f0) := blk_cell HV.out 0
    have x1 : wr.cell? ⟨w.heap.size, 1, none⟩ = some (.int .i64 x.f1) := blk_cell HV.out 1
    have x2 : wr.cell? ⟨w.heap.size, 2, none⟩ = some (.string x.f2) := blk_cell HV.out 2
    have x3 : wr.cell? ⟨w.heap.size, 3, none⟩ = some (.slice B3 x.f3.length d3) := blk_cell HV.out 3
    have x4 : wr.cell? ⟨w.heap.size, 4, none⟩ = some (.slice B4 x.f4.length d4) := blk_cell HV.out 4
    cases gk with
    | zero =>
      have hge : ¬ ((k : Nat) : Int) < (x.f3.length : Int) := by omega
      obtain rfl : k = x.f3.length := by omega
      have y0 : wr.cell? ⟨w.heap.size + 1, 0, none⟩ = some (.int .i64 0) := blk_cell HZ.out 0
      have y1 : wr.cell? ⟨w.heap.size + 1, 1, none⟩ = some (.int .i64 0) := blk_cell HZ.out 1
      have y2 : wr.cell? ⟨w.heap.size + 1, 2, none⟩ = some (.string ⟨#[]⟩) := blk_cell HZ.out 2
      have y3 : wr.cell? ⟨w.heap.size + 1, 3, none⟩ = some (.slice none 0 0) := blk_cell HZ.out 3
      have y4 : wr.cell? ⟨w.heap.size + 1, 4, none⟩ = some (.slice none 0 0) := blk_cell HZ.out 4
      have yf : ∀ j, wr.frozen? ⟨w.heap.size + 1, j, none⟩ = false := blk_frozen HZ.out
      go_wp2
      have hz7 := blk_set5 HZ.out (.int .i64 x.f0) (.int .i64 x.f1) (.string x.f2) (.slice B3 x.f3.length d3) (.slice B4 x.f4.length d4)
      refine bodyPost_ret (v := .agg #[.int .i64 x.f0, .int .i64 x.f1, .string x.f2, .slice B3 x.f3.length d3, .slice B4 x.f4.length d4]) (res_copied _ _ (w.heap.size + 1) _ _ _ _ _ rfl hz7) rfl ?_
      have hfar : ∀ k, W2.heap.size ≤ k → (((((wr.setCell ⟨w.heap.size + 1, 0, none⟩ (.int .i64 x.f0)).setCell ⟨w.heap.size + 1, 1, none⟩ (.int .i64 x.f1)).setCell ⟨w.heap.size + 1, 2, none⟩ (.string x.f2)).setCell ⟨w.heap.size + 1, 3, none⟩ (.slice B3 x.f3.length d3)).setCell ⟨w.heap.size + 1, 4, none⟩ (.slice B4 x.f4.length d4)).heap[k]? = wr.heap[k]? := fun k hk => far5' (by omega) _ _ _ _ _
      refine ⟨below5 HB.out (by omega) _ _ _ _ _, _, _, rfl, ?_, ?_⟩
      · refine Kd.R_lower (Kd.R_step (w := wr) (base := W2.heap.size) (ok := fun k => W2.heap.size ≤ k) ?_ (fun k hk _ => hfar k hk) |> fun h => Kd.R_mono h (fun _ _ => trivial)) (by omega)
        refine ⟨fun k hk => own_base HO.out k hk, inner, HO.out, HI.out.l, fun j p hj => ?_⟩
        have hm := HI.out.m j p hj (List.getElem?_eq_some_iff.1 hj).1
        refine k26.M_mono (fun k hk => ⟨hk.2.1, fun e => hk.1 ?_⟩) (k26.M_bound hm)
        have hpos : 0 < x.f3.length := by have := (List.getElem?_eq_some_iff.1 hj).1; omega
        rw [hg hpos] at e
        simpa [Value.ownBlock] using e
      · exact Kd.R_lower (Kd.R_mono (Kd.R_step HR.out (fun k hk _ => hfar k hk)) (fun _ _ => trivial)) (by omega)
    | succ k1 =>
      have hlt : ((k : Nat) : Int) < (x.f3.length : Int) := by omega
      have hlt' : k < x.f3.length := by omega
      obtain rfl := hg (by omega)
      have hget : x.f3[k]? = some x.f3[k] := List.getElem?_eq_getElem hlt'
      obtain ⟨E3, e3, E4, e4, hsg, m3, q3, m4, q4⟩ := k26_open (HI.out.o k x.f3[k] hget (Nat.le_refl _))
      have hin : ∀ j, j < 5 → inner[k * 5 + j]? = (seg k inner)[j]? := fun j hj => by
        unfold seg
        rw [List.getElem?_take, if_pos hj, List.getElem?_drop]
      have hcell : ∀ j u, j < 5 → (seg k inner)[j]? = some u → wr.cell? ⟨g, k * 5 + j, none⟩ = some u := fun j u hj hu => by
        have h := HO.out.cells (g := g) rfl _ _ ((hin j hj).trans hu)
        rwa [show (⟨g, 0, none⟩ : Addr).add (k * 5 + j) = ⟨g, k * 5 + j, none⟩ by unfold Addr.add; split <;> simp_all] at h
      rw [hsg] at hcell
      have r0 : wr.cell? ⟨g, k * 5, none⟩ = some (.int .i64 x.f3[k].f0) := hcell 0 _ (by omega) rfl
      have r1 : wr.cell? ⟨g, k * 5 + 1, none⟩ = some (.int .i64 x.f3[k].f1) := hcell 1 _ (by omega) rfl
      have r2 : wr.cell? ⟨g, k * 5 + 2, none⟩ = some (.string x.f3[k].f2) := hcell 2 _ (by omega) rfl
      have r3 : wr.cell? ⟨g, k * 5 + 3, none⟩ = some (.slice E3 x.f3[k].f3.length e3) := hcell 3 _ (by omega) rfl
      have r4 : wr.cell? ⟨g, k * 5 + 4, none⟩ = some (.slice E4 x.f3[k].f4.length e4) := hcell 4 _ (by omega) rfl
      have HY := Aside0.mk (HCC.out x.f3[k] (List.getElem_mem _))
      have HGET := Aside0.mk hget
      have HQ := Aside0.mk (And.intro m3 (And.intro q3 (And.intro m4 q4)))
      have HCELL := Aside0.mk (fun (j : Nat) (u : Value) (hj : j < 5) (hu : [Value.int .i64 x.f3[k].f0, .int .i64 x.f3[k].f1, .string x.f3[k].f2, .slice E3 x.f3[k].f3.length e3, .slice E4 x.f3[k].f4.length e4][j]? = some u) => (show inner[k * 5 + j]? = some u from (hin j hj).trans (hsg ▸ hu)))
      clear hin hcell hsg m3 q3 m4 q4 hget
      generalize x.f3[k] = y at *
      have hba := (Below.refl wr.heap.size wr).alloc (Nat.le_refl _) (.cells #[.int .i64 y.f0, .int .i64 y.f1, .string y.f2, .slice E3 y.f3.length e3, .slice E4 y.f4.length e4] 26 (0, 0))
      have HBA := Aside0.mk hba
      have NV := Aside0.mk (blk_new wr (.cells #[.int .i64 y.f0, .int .i64 y.f1, .string y.f2, .slice E3 y.f3.length e3, .slice E4 y.f4.length e4] 26 (0, 0)))
      clear hba
      go_wp2_with fail
      have hv7 := (HBA.out.block _ (blk_lt HV.out)).trans HV.out
      have nv7 := NV.out
      have s7 : wr.heap.size + 1 ≤ (wr.alloc (.cells #[.int .i64 y.f0, .int .i64 y.f1, .string y.f2, .slice E3 y.f3.length e3, .slice E4 y.f4.length e4] 26 (0, 0))).heap.size := by simp
      clear x0 x1 x2 x3 x4 r0 r1 r2 r3 r4
      generalize wr.alloc (.cells #[.int .i64 y.f0, .int .i64 y.f1, .string y.f2, .slice E3 y.f3.length e3, .slice E4 y.f4.length e4] 26 (0, 0)) = W7 at *
      have k3 : W7.drew.cell? ⟨w.heap.size, 3, none⟩ = some (.slice (some ⟨g, 0, none⟩) x.f3.length d3) := blk_cell (w := W7.drew) hv7 3
      have b0 : W7.drew.cell? ⟨wr.heap.size, 0, none⟩ = some (.int .i64 y.f0) := blk_cell (w := W7.drew) nv7 0
      have b1 : W7.drew.cell? ⟨wr.heap.size, 1, none⟩ = some (.int .i64 y.f1) := blk_cell (w := W7.drew) nv7 1
      have b2 : W7.drew.cell? ⟨wr.heap.size, 2, none⟩ = some (.string y.f2) := blk_cell (w := W7.drew) nv7 2
      have b3 : W7.drew.cell? ⟨wr.heap.size, 3, none⟩ = some (.slice E3 y.f3.length e3) := blk_cell (w := W7.drew) nv7 3
      have b4 : W7.drew.cell? ⟨wr.heap.size, 4, none⟩ = some (.slice E4 y.f4.length e4) := blk_cell (w := W7.drew) nv7 4
      have hdr : Below W7.heap.size W7 W7.drew := ⟨rfl, rfl, rfl, Nat.le_refl _, fun _ _ => rfl⟩
      have hltn : k < x.f3.length := hlt'
      refine start_ (n := 7) (S := fun w' => w'.cell? ⟨w.heap.size, 3, none⟩ = some (.slice (some ⟨g, 0, none⟩) x.f3.length d3) ∧ w'.cell? ⟨wr.heap.size, 0, none⟩ = some (.int .i64 y.f0) ∧ w'.cell? ⟨wr.heap.size, 1, none⟩ = some (.int .i64 y.f1) ∧ w'.cell? ⟨wr.heap.size, 2, none⟩ = some (.string y.f2) ∧ w'.cell? ⟨wr.heap.size, 3, none⟩ = some (.slice E3 y.f3.length e3) ∧ w'.cell? ⟨wr.heap.size, 4, none⟩ = some (.slice E4 y.f4.length e4)) (ds := [6]) #[fF, fF, fF, fF, fF, fF, fF] (by kernel_rfl) rfl rfl ⟨k3, b0, b1, b2, b3, b4⟩ (fun hHeld => ?_)
      refine pure_ (i := 0) (N := some 21) (v := ?_) (a' := ?_) #[tT, fF, fF, fF, fF, fF, fF] rfl rfl (by kernel_rfl) (fun _ _ _ h => h) (Or.inl ⟨by rfl, ?_⟩) ?_ ?_
      rotate_left
      · intro w'
        go_simp
        with_reducible rfl
      rotate_left
      · simp only [Act.put, sA, sZ, sS, i64_w, i32_w]
        rfl
      refine take_ (i := 1) (N := some 22) (v := ?_) (a' := ?_) #[tT, tT, fF, fF, fF, fF, fF] rfl rfl (by kernel_rfl) (fun _ _ _ h => h) (Or.inl ⟨by rfl, ?_⟩) hHeld ?_ ?_
      rotate_left
      · rintro w' ⟨g3, g4, g5, g6, g7, g8⟩
        go_simp
        with_reducible rfl
      rotate_left
      · simp only [Act.put, sA, sZ, sS, i64_w, i32_w]
        rfl
      refine pure_ (i := 2) (N := some 23) (v := ?_) (a' := ?_) #[tT, tT, tT, fF, fF, fF, fF] rfl rfl (by kernel_rfl) (fun _ _ _ h => h) (Or.inl ⟨by rfl, ?_⟩) ?_ ?_
      rotate_left
      · intro w'
        go_simp
        with_reducible rfl
      rotate_left
      · simp only [Act.put, sA, sZ, sS, i64_w, i32_w]
        rfl
      refine take_ (i := 3) (N := some 24) (v := ?_) (a' := ?_) #[tT, tT, tT, tT, fF, fF, fF] rfl rfl (by kernel_rfl) (fun _ _ _ h => h) (Or.inl ⟨by rfl, ?_⟩) hHeld ?_ ?_
      rotate_left
      · rintro w' ⟨g3, g4, g5, g6, g7, g8⟩
        go_simp
        with_reducible rfl
      rotate_left
      · simp only [Act.put, sA, sZ, sS, i64_w, i32_w]
        rfl
      refine one_ (i := 4) (N := some 25) #[tT, tT, tT, tT, tT, fF, fF] rfl rfl (by kernel_rfl) (by decide) (fun K hK => ?_)
      refine goes_ Tryz.func30 (by kernel_rfl) rfl #[.agg #[.int .i64 y.f0, .int .i64 y.f1, .string y.f2, .slice E3 y.f3.length e3, .slice E4 y.f4.length e4]] (by rfl) rfl rfl (by simp only [List.map_toArray, List.map_cons, List.map_nil]; rfl) ?_
      have hw7 : Below w.heap.size w W7.drew := (HB.out.trans (HBA.out.mono HB.out.size)).trans (hdr.mono (by have := HB.out.size; omega))
      have H := Aside0.mk (HY.out E3 e3 E4 e4 W7.drew HQ.out.1 (Kd.C_below HQ.out.2.1 hw7) HQ.out.2.2.1 (Kd.C_below HQ.out.2.2.2 hw7))
      unfold vArg at H
      refine H.out.mono ?_
      rintro e w8 ⟨hb8, v3, v4, rfl, hr3, hr4⟩
      have h8v := (hb8.block _ (blk_lt hv7)).trans hv7
      have h8n := (hb8.block _ (blk_lt nv7)).trans nv7
      refine ⟨_, rfl, ?_⟩
      refine hK.out _ _ ⟨blk_cell h8v 3, blk_cell h8n 0, blk_cell h8n 1, blk_cell h8n 2, blk_cell h8n 3, blk_cell h8n 4⟩ fun hHeld => ?_
      clear hK K H
      obtain ⟨F3, f3', rfl⟩ := Kd.R_slice hr3
      obtain ⟨F4, f4', rfl⟩ := Kd.R_slice hr4
      refine pure_ (i := 5) (N := some 26) (v := ?_) (a' := ?_) #[tT, tT, tT, tT, tT, tT, fF] rfl rfl (by kernel_rfl) (fun _ _ _ h => h) (Or.inl ⟨by rfl, ?_⟩) ?_ ?_
      rotate_left
      · intro w'
        go_simp
        with_reducible rfl
      rotate_left
      · simp only [Act.put, sA, sZ, sS, i64_w, i32_w]
        rfl
      have hwb8 : Below wr.heap.size wr w8 := (HBA.out.trans (hdr.mono (by omega))).trans (hb8.mono (by show wr.heap.size ≤ W7.drew.heap.size; have : W7.drew.heap.size = W7.heap.size := rfl; omega))
      have ho8 := own_move HO.out (w1 := w8) (fun j hj => hwb8.block j (own_lt HO.out j hj))
      have hgs : g < wr.heap.size := own_lt HO.out g (by simp [Value.ownBlock])
      obtain ⟨cur8, hcur8⟩ : ∃ cur, w8.heap[g]? = some (.cells cur 26 (0, 0)) := by
        rcases ho8.2 with ⟨h, _⟩ | ⟨g', cap, cur, h, h', hh, _⟩
        · cases h
        · injection h with e1 e2 e3
          injection e1 with e1
          injection e1 with e1
          subst e1
          exact ⟨cur, hh⟩
      have hfz8 : ∀ j, w8.frozen? ⟨g, j, none⟩ = false := blk_frozen hcur8
      have hgc8 : ∀ j u, j < 5 → [Value.int .i64 y.f0, .int .i64 y.f1, .string y.f2, .slice E3 y.f3.length e3, .slice E4 y.f4.length e4][j]? = some u → w8.cell? ⟨g, k * 5 + j, none⟩ = some u := fun j u hj hu => by
        have h := ho8.cells (g := g) rfl _ _ (HCELL.out j u hj hu)
        rwa [show (⟨g, 0, none⟩ : Addr).add (k * 5 + j) = ⟨g, k * 5 + j, none⟩ by unfold Addr.add; split <;> simp_all] at h
      have z0 : w8.cell? ⟨g, k * 5, none⟩ = some (.int .i64 y.f0) := hgc8 0 _ (by omega) rfl
      have z1 : w8.cell? ⟨g, k * 5 + 1, none⟩ = some (.int .i64 y.f1) := hgc8 1 _ (by omega) rfl
      have z2 : w8.cell? ⟨g, k * 5 + 2, none⟩ = some (.string y.f2) := hgc8 2 _ (by omega) rfl
      have z3 : w8.cell? ⟨g, k * 5 + 3, none⟩ = some (.slice E3 y.f3.length e3) := hgc8 3 _ (by omega) rfl
      have z4 : w8.cell? ⟨g, k * 5 + 4, none⟩ = some (.slice E4 y.f4.length e4) := hgc8 4 _ (by omega) rfl
      refine last_ (i := 6) (N := none) #[tT, tT, tT, tT, tT, tT, tT] rfl rfl (by kernel_rfl) (by decide) (fun K hK => ?_)
      rw [if_pos (by rfl)]
      unfold Oper.wp
      go_simp
      refine hK.out _ _ ?_
      clear hK K hHeld
      refine done_ (by kernel_rfl) ?_
      have h7s : W7.drew.heap.size = W7.heap.size := rfl
      have h9 : (((((w8.setCell ⟨g, k * 5, none⟩ (.int .i64 y.f0)).setCell ⟨g, k * 5 + 1, none⟩ (.int .i64 y.f1)).setCell ⟨g, k * 5 + 2, none⟩ (.string y.f2)).setCell ⟨g, k * 5 + 3, none⟩ (.slice F3 y.f3.length f3')).setCell ⟨g, k * 5 + 4, none⟩ (.slice F4 y.f4.length f4')) = put5 w8 g (k * 5) (.int .i64 y.f0) (.int .i64 y.f1) (.string y.f2) (.slice F3 y.f3.length f3') (.slice F4 y.f4.length f4') := rfl
      rw [h9]
      have hfar : ∀ j, j ≠ g → (put5 w8 g (k * 5) (.int .i64 y.f0) (.int .i64 y.f1) (.string y.f2) (.slice F3 y.f3.length f3') (.slice F4 y.f4.length f4')).heap[j]? = w8.heap[j]? := fun j hj => put5_far hj _ _ _ _ _
      have hV9 := (hfar w.heap.size (by omega)).trans h8v
      have hZ9 := (hfar (w.heap.size + 1) (by omega)).trans ((hwb8.block _ (blk_lt HZ.out)).trans HZ.out)
      have hB9 : Below w.heap.size w (put5 w8 g (k * 5) (.int .i64 y.f0) (.int .i64 y.f1) (.string y.f2) (.slice F3 y.f3.length f3') (.slice F4 y.f4.length f4')) := (hw7.trans (hb8.mono hw7.size)).trans (put5_below (by omega) _ _ _ _ _)
      have hS9 : wr.heap.size ≤ (put5 w8 g (k * 5) (.int .i64 y.f0) (.int .i64 y.f1) (.string y.f2) (.slice F3 y.f3.length f3') (.slice F4 y.f4.length f4')).heap.size := Nat.le_trans hwb8.size (put5_same _ _ _ _ _ _ _ _).size
      have hR9 := Kd.R_mono (Kd.R_step (Kd.R_types (Kd.R_below HR.out hwb8) hcur8 (by decide)) (fun j hj _ => hfar j hj.2)) (ok' := fun k => W2.heap.size ≤ k) (fun j hj => hj.1)
      have hO9 := put5_at hlt' ho8 (.int .i64 y.f0) (.int .i64 y.f1) (.string y.f2) (.slice F3 y.f3.length f3') (.slice F4 y.f4.length f4')
      have hI9 : CpI (k + 1) x.f3 w g W2.heap.size (inner.take (k * 5) ++ [.int .i64 y.f0, .int .i64 y.f1, .string y.f2, .slice F3 y.f3.length f3', .slice F4 y.f4.length f4'] ++ inner.drop (k * 5 + 5)) (put5 w8 g (k * 5) (.int .i64 y.f0) (.int .i64 y.f1) (.string y.f2) (.slice F3 y.f3.length f3') (.slice F4 y.f4.length f4')) := by
        refine ⟨hO9.1, fun j p hj hjk => ?_, fun j p hj hjk => ?_⟩
        · rw [seg_put inner x.f3.length k j HI.out.l hlt' _ rfl]
          split
          · rename_i e
            subst e
            have hpy : p = y := Option.some.inj (hj.symm.trans HGET.out)
            subst hpy
            have hM := k26.M_bound (k26_mkM w8 W7.drew.heap.size (fun _ => True) p hr3 hr4)
            exact k26.M_lower (by omega) (Kd.M_step (k26.M_mono (fun j hj => (show j ≠ g by have := hj.2.1; omega)) hM) (fun j hj _ => hfar j hj))
          · have hm := HI.out.m j p hj (by omega)
            exact Kd.M_step (Kd.M_step hm (fun j _ hj => hwb8.block j hj)) (fun j hj _ => hfar j hj)
        · rw [seg_put inner x.f3.length k j HI.out.l hlt' _ rfl, if_neg (by omega)]
          exact HI.out.o j p hj (by omega)
      have A9 := Aside0.mk (And.intro hV9 (And.intro hZ9 (And.intro hB9 (And.intro hR9 (And.intro hO9 (And.intro hI9 hS9))))))
      clear hV9 hZ9 hB9 hR9 hO9 hI9 hS9 h9 hfar z0 z1 z2 z3 z4 hgc8 hfz8 hcur8 ho8 hwb8 hr3 hr4 h8v h8n hb8 b0 b1 b2 b3 b4 k3 hdr hv7 nv7
      generalize put5 w8 g (k * 5) (.int .i64 y.f0) (.int .i64 y.f1) (.string y.f2) (.slice F3 y.f3.length f3') (.slice F4 y.f4.length f4') = W9 at *
      go_wp2
      go_roundg k1
      case measure => omega
      case rel => exact ⟨k + 1, _, by omega, by go_num, Nat.le_trans hsr A9.out.2.2.2.2.2.2, Aside0.mk A9.out.1, Aside0.mk A9.out.2.1, Aside0.mk A9.out.2.2.1, Aside0.mk A9.out.2.2.2.1, Aside0.mk A9.out.2.2.2.2.1, Aside0.mk A9.out.2.2.2.2.2.1⟩
theorem copied_calls : ∀ d, CopyC d
  | 0 => by
    intro x A3 c3 A4 c4 w hs hf l3 g3 l4 g4
    have hb := sound_bare hs
    simp only [soundR, Bool.and_eq_true, Bool.not_eq_true', Bool.or_eq_false_iff, beq_eq_false_iff_ne] at hs
    obtain ⟨e3, e4⟩ := bareV_leaf hb hs.1.1.1 hs.1.1.2
    exact copied_step x (fun _ => True) (fun y hy => by rw [e3] at hy; cases hy) A3 c3 A4 c4 w hf.1 hf.2 l3 g3 l4 g4
  | d + 1 => by
    intro x A3 c3 A4 c4 w hs hf l3 g3 l4 g4
    simp only [soundR, Bool.and_eq_true, List.all_eq_true] at hs
    exact copied_step x (fun _ => True) (fun y hy B3 e3 B4 e4 w1 m3 q3 m4 q4 => copied_calls d y B3 e3 B4 e4 w1 (hs.2 y hy) (hf.2.2 y hy) m3 q3 m4 q4) A3 c3 A4 c4 w hf.1 hf.2.1 l3 g3 l4 g4
end Go.Proofs.YtegppkngdkkdcaaGreatDoor.Tr
end
section
set_option linter.unusedVariables false
set_option linter.unusedSimpArgs false
namespace Go.Proofs.YtegppkngdkkdcaaGreatDoor.Tr
open Go.RowKit Go.Proofs.YtegppkngdkkdcaaGreatDoorW.PrintWords Go.Proofs.YtegppkngdkkdcaaGreatDoorW.PrintLast Go.Proofs.YtegppkngdkkdcaaGreatDoorW.PrintMore
open Go.Proofs.YtegppkngdkkdcaaGreatDoor.Lx Go.Proofs.YtegppkngdkkdcaaGreatDoor.PS
def idxB (x : ByteArray) : List ByteArray → Option Nat
  | [] => none
  | a :: r => if x = a then some 0 else (idxB x r).map (· + 1)
theorem idxB_get (x : ByteArray) : ∀ (l : List ByteArray) (i : Nat), idxB x l = some i → l[i]? = some x
  | [], _, h => by cases h
  | a :: r, i, h => by
    unfold idxB at h
    split at h
    · rename_i e
      cases h
      rw [e]
      rfl
    · obtain ⟨j, hj, rfl⟩ := Option.map_eq_some_iff.1 h
      rw [List.getElem?_cons_succ]
      exact idxB_get x r j hj
theorem idx_l0 (x : ByteArray) (nm : List ByteArray) (hl : nm.length ≤ 1000000000000) : ∀ (d j k : Nat), j + d = nm.length → d + 1 ≤ k →
    PC.slices_Index_string_string.l0 k nm x (nm.length : Int) (j : Int) = some (match idxB x (nm.drop j) with | some i => ((j + i : Nat) : Int) | none => -1)
  | 0, j, k, hj, hk => by
    obtain ⟨k, rfl⟩ : ∃ k', k = k' + 1 := ⟨k - 1, by omega⟩
    simp only [PC.slices_Index_string_string.l0]
    rw [if_neg (by omega), List.drop_eq_nil_of_le (by omega)]
    rfl
  | d + 1, j, k, hj, hk => by
    obtain ⟨k, rfl⟩ : ∃ k', k = k' + 1 := ⟨k - 1, by omega⟩
    have hlt : j < nm.length := by omega
    simp only [PC.slices_Index_string_string.l0]
    rw [if_pos (by omega), if_pos (by omega), if_pos (by omega)]
    have hrd : rdOf ByteArray.empty nm (j : Int) = nm[j] := by simp [rdOf, List.getD, List.getElem?_eq_getElem hlt]
    rw [hrd, List.drop_eq_getElem_cons hlt]
    unfold idxB
    by_cases he : x = nm[j]
    · rw [if_pos he, if_pos (by rw [← he])]
      simp
    · rw [if_neg he, if_neg (fun e => he (by rw [toList_data, toList_data] at e; rw [← toB_list x, ← toB_list nm[j], e]))]
      have hw : wrap64 ((j : Int) + 1) = ((j + 1 : Nat) : Int) := by
        unfold wrap64
        omega
      rw [hw, idx_l0 x nm hl d (j + 1) k (by omega) (by omega)]
      clear hw
      cases idxB x (nm.drop (j + 1)) with
      | none => rfl
      | some i =>
        simp only [Option.map_some, Option.some.injEq]
        exact congrArg Int.ofNat (by omega)
theorem sound_rows {d : Nat} {x : V} (h : soundR (d + 1) x = true) : ∀ y ∈ x.f3, soundR d y = true := by
  simp only [soundR, Bool.and_eq_true, List.all_eq_true] at h
  exact h.2
def getR (x : V) (name : ByteArray) : V × Bool := if x.f0 = 6 ∧ soundR 8 x = true then (match idxB name x.f4 with | some i => (x.f3.getD i zV, true) | none => (zV, false)) else (zV, false)
def GetQ (r : V × Bool) (w : World) (e : Ending) (w' : World) : Prop := Below w.heap.size w w' ∧ ∃ v3 v4, e = .returned (.tuple #[.agg #[.int .i64 r.1.f0, .int .i64 r.1.f1, .string r.1.f2, v3, v4], .bool r.2]) ∧
  k26.R 26 w' w.heap.size (fun _ => True) v3 r.1.f3 ∧ Kd.string.R 9 w' w.heap.size (fun _ => True) v4 r.1.f4
theorem res_Get (tmps : Array Value) (w : World) (b : Nat) (v0 v1 v2 v3 v4 z : Value) (h4 : tmps.getD 4 undef = .pointer (some ⟨b, 0, none⟩)) (h5 : tmps.getD 5 undef = z) (hb : w.heap[b]? = some (.cells #[v0, v1, v2, v3, v4] 26 (0, 0))) :
    (results Tryz.f14 tmps).run Tryz.prog w = .ok (.tuple #[.agg #[v0, v1, v2, v3, v4], z]) w := by
  have c0 := blk_cell hb 0
  have c1 := blk_cell hb 1
  have c2 := blk_cell hb 2
  have c3 := blk_cell hb 3
  have c4 := blk_cell hb 4
  rw [Array.getD_eq_getD_getElem?] at h4 h5
  simp at c0 c1 c2 c3 c4
  simp [results, Tryz.results14, go_sem, h4, h5, c0, c1, c2, c3, c4]
set_option maxRecDepth 100000 in
set_option maxHeartbeats 2000000 in
theorem Get_calls (x : V) (name : ByteArray) (A3 : Option Addr) (c3 : Nat) (A4 : Option Addr) (c4 : Nat) (w : World) (fx : fitsR 8 x) (l3 : x.f3.length ≤ c3) (g3 : k26.C w A3 x.f3.length x.f3) (l4 : x.f4.length ≤ c4) (g4 : Kd.string.C w A4 x.f4.length x.f4) :
    Calls Tryz.prog 14 #[vArg x A3 c3 A4 c4, .string name] w (GetQ (getR x name) w) := by
  have nv := blkA (blk_new w (.cells #[.int .i64 x.f0, .int .i64 x.f1, .string x.f2, .slice A3 x.f3.length c3, .slice A4 x.f4.length c4] 26 (0, 0))) (.cells zCs.toArray 26 (0, 0))
  have nz := blk_new (w.alloc (.cells #[.int .i64 x.f0, .int .i64 x.f1, .string x.f2, .slice A3 x.f3.length c3, .slice A4 x.f4.length c4] 26 (0, 0))) (.cells zCs.toArray 26 (0, 0))
  rw [show (w.alloc (.cells #[.int .i64 x.f0, .int .i64 x.f1, .string x.f2, .slice A3 x.f3.length c3, .slice A4 x.f4.length c4] 26 (0, 0))).heap.size = w.heap.size + 1 by simp] at nz
  have hb0 : Below w.heap.size w ((w.alloc (.cells #[.int .i64 x.f0, .int .i64 x.f1, .string x.f2, .slice A3 x.f3.length c3, .slice A4 x.f4.length c4] 26 (0, 0))).alloc (.cells zCs.toArray 26 (0, 0))) := ((Below.refl _ _).alloc (Nat.le_refl _) _).alloc (by simp) _
  have hs2 : w.heap.size + 2 ≤ ((w.alloc (.cells #[.int .i64 x.f0, .int .i64 x.f1, .string x.f2, .slice A3 x.f3.length c3, .slice A4 x.f4.length c4] 26 (0, 0))).alloc (.cells zCs.toArray 26 (0, 0))).heap.size := by simp
  unfold zCs at *
  have hlen := fitsR_len fx
  have HFX := Aside0.mk fx
  have HG := Aside0.mk (And.intro g3 g4)
  have HR := Aside0.mk (show getR x name = if x.f0 = 6 ∧ soundR 8 x = true then (match idxB name x.f4 with | some i => (x.f3.getD i zV, true) | none => (zV, false)) else (zV, false) from rfl)
  have HSC := Aside0.mk (sound_calls 8 (Nat.le_refl _))
  generalize getR x name = res at *
  unfold vArg
  have NV := Aside0.mk nv
  have NZ := Aside0.mk nz
  have HB0 := Aside0.mk hb0
  clear g3 g4 fx nv nz hb0
  by_cases h6 : x.f0 = 6
  · have hn6 : (x.f0 != 6) = false := by simp [h6]
    have H6 := Aside0.mk h6
    clear h6
    go_enter Tryz.func14, Tryz.ntmps14
    go_wp2_with fail
    generalize (w.alloc (.cells #[.int .i64 x.f0, .int .i64 x.f1, .string x.f2, .slice A3 x.f3.length c3, .slice A4 x.f4.length c4] 26 (0, 0))).alloc (.cells [.int .i64 0, .int .i64 0, .string ⟨#[]⟩, .slice none 0 0, .slice none 0 0].toArray 26 (0, 0)) = W2 at *
    refine (HSC.out x A3 c3 A4 c4 W2 HFX.out l3 (Kd.C_below HG.out.1 HB0.out) l4 (Kd.C_below HG.out.2 HB0.out)).mono ?_
    rintro e w3 ⟨rfl, b3⟩
    have hv3 := (b3.block _ (blk_lt NV.out)).trans NV.out
    have hz3 := (b3.block _ (blk_lt NZ.out)).trans NZ.out
    have hb3 := HB0.out.trans (b3.mono HB0.out.size)
    have hs3 := b3.size
    have x3 : w3.cell? ⟨w.heap.size, 3, none⟩ = some (.slice A3 x.f3.length c3) := blk_cell hv3 3
    have x4 : w3.cell? ⟨w.heap.size, 4, none⟩ = some (.slice A4 x.f4.length c4) := blk_cell hv3 4
    have z0 : w3.cell? ⟨w.heap.size + 1, 0, none⟩ = some (.int .i64 0) := blk_cell hz3 0
    have z1 : w3.cell? ⟨w.heap.size + 1, 1, none⟩ = some (.int .i64 0) := blk_cell hz3 1
    have z2 : w3.cell? ⟨w.heap.size + 1, 2, none⟩ = some (.string ⟨#[]⟩) := blk_cell hz3 2
    have z3 : w3.cell? ⟨w.heap.size + 1, 3, none⟩ = some (.slice none 0 0) := blk_cell hz3 3
    have z4 : w3.cell? ⟨w.heap.size + 1, 4, none⟩ = some (.slice none 0 0) := blk_cell hz3 4
    have zf : ∀ j, w3.frozen? ⟨w.heap.size + 1, j, none⟩ = false := blk_frozen hz3
    have HV3 := Aside0.mk hv3
    have HZ3 := Aside0.mk hz3
    have HB3 := Aside0.mk hb3
    clear hv3 hz3 hb3 b3 HSC
    cases hs : soundR 8 x with
    | false =>
      have HE := Aside0.mk (show res = (zV, false) by rw [HR.out, if_neg (fun h => by rw [hs] at h; cases h.2)])
      clear hs
      go_wp2
      refine bodyPost_ret (v := .tuple #[.agg #[.int .i64 0, .int .i64 0, .string ⟨#[]⟩, .slice none 0 0, .slice none 0 0], .bool false]) (res_Get _ _ (w.heap.size + 1) _ _ _ _ _ _ rfl rfl (blk_set5 HZ3.out (.int .i64 0) (.int .i64 0) (.string ⟨#[]⟩) (.slice none 0 0) (.slice none 0 0))) rfl ?_
      rw [HE.out]
      exact ⟨below5 HB3.out (by omega) _ _ _ _ _, _, _, rfl, Kd.R_nil _ _ _ _ _, Kd.R_nil _ _ _ _ _⟩
    | true =>
      have HS := Aside0.mk hs
      clear hs
      have hix := idx_l0 name x.f4 hlen.2 x.f4.length 0 (x.f4.length + 1) (by omega) (by omega)
      rw [List.drop_zero] at hix
      cases hq : idxB name x.f4 with
      | none =>
        rw [hq] at hix
        simp only at hix
        have HE := Aside0.mk (show res = (zV, false) by rw [HR.out, if_pos ⟨H6.out, HS.out⟩, hq])
        clear hq
        go_wp2_with fail
        refine (PC.slices_Index_string_string.calls (x.f4.length + 1) A4 c4 x.f4 name _ w3 (Kd.C_below HG.out.2 HB3.out) l4 hix).mono ?_
        rintro e w4 ⟨rfl, hd4⟩
        obtain ⟨nq, rfl⟩ := hd4.out
        clear hd4 hix x3 x4
        go_wp2
        refine bodyPost_ret (v := .tuple #[.agg #[.int .i64 0, .int .i64 0, .string ⟨#[]⟩, .slice none 0 0, .slice none 0 0], .bool false]) (res_Get _ _ (w.heap.size + 1) _ _ _ _ _ _ rfl rfl (blk_set5 (w := w3.drewN nq) HZ3.out (.int .i64 0) (.int .i64 0) (.string ⟨#[]⟩) (.slice none 0 0) (.slice none 0 0))) rfl ?_
        rw [HE.out]
        exact ⟨below5 (w' := w3.drewN nq) ⟨HB3.out.os, HB3.out.tape, HB3.out.output, HB3.out.size, HB3.out.block⟩ (by omega) _ _ _ _ _, _, _, rfl, Kd.R_nil _ _ _ _ _, Kd.R_nil _ _ _ _ _⟩
      | some i =>
        rw [hq] at hix
        simp only [Nat.zero_add] at hix
        have hgi := idxB_get name x.f4 i hq
        have hi4 := (List.getElem?_eq_some_iff.1 hgi).1
        have hb := sound_bare HS.out
        have hl34 : x.f4.length = x.f3.length := by
          unfold bareV bareR at hb
          rw [if_neg (by rw [H6.out]; decide), if_neg (by rw [H6.out]; decide), if_neg (by rw [H6.out]; decide), if_neg (by rw [H6.out]; decide), if_neg (by rw [H6.out]; decide), if_pos H6.out] at hb
          simp at hb
          exact hb.2
        have hlt' : i < x.f3.length := by omega
        have HE := Aside0.mk (show res = (x.f3[i], true) by
          rw [HR.out, if_pos ⟨H6.out, HS.out⟩, hq]
          simp [List.getD, List.getElem?_eq_getElem hlt'])
        have hlt : ((i : Nat) : Int) < (x.f3.length : Int) := by omega
        have hge : ((i : Nat) : Int) ≥ 0 := by omega
        obtain ⟨ad, D3, d3, D4, d4, e, r0, r1, r2, r3, r4, m3, q3, m4, q4⟩ := at_T26 HG.out.1 i (by omega) hlt
        cases e
        have hrd : rd_T26 x.f3 i = x.f3[i] := by simp [rd_T26, List.getD, List.getElem?_eq_getElem hlt']
        rw [hrd] at r0 r1 r2 r3 r4 m3 q3 m4 q4
        rw [Int.toNat_natCast] at r0 r1 r2 r3 r4
        have HQ := Aside0.mk (And.intro m3 (And.intro q3 (And.intro m4 q4)))
        have HSI := Aside0.mk (show soundR 7 x.f3[i] = true from sound_rows (d := 7) HS.out _ (List.getElem_mem _))
        have HFI := Aside0.mk (show fitsR 7 x.f3[i] from HFX.out.2.2 _ (List.getElem_mem _))
        clear hq hgi hb hl34 hrd m3 q3 m4 q4
        generalize x.f3[i] = y at *
        have HIX := Aside0.mk hix
        clear hix
        go_wp2_with fail
        refine (PC.slices_Index_string_string.calls (x.f4.length + 1) A4 c4 x.f4 name _ w3 (Kd.C_below HG.out.2 HB3.out) l4 HIX.out).mono ?_
        rintro e w4 ⟨rfl, hd4⟩
        obtain ⟨nq, rfl⟩ := hd4.out
        have hbd : Below w.heap.size w (w3.drewN nq) := ⟨HB3.out.os, HB3.out.tape, HB3.out.output, HB3.out.size, HB3.out.block⟩
        have hv4 : (w3.drewN nq).heap[w.heap.size]? = _ := HV3.out
        have hz4 : (w3.drewN nq).heap[w.heap.size + 1]? = _ := HZ3.out
        have hs4 : w.heap.size + 2 ≤ (w3.drewN nq).heap.size := by show w.heap.size + 2 ≤ w3.heap.size; omega
        clear hd4 x3 x4 z0 z1 z2 z3 z4 zf
        generalize w3.drewN nq = W4 at *
        have x3 : W4.cell? ⟨w.heap.size, 3, none⟩ = some (.slice (some ad) x.f3.length c3) := blk_cell hv4 3
        replace r0 := cell_below' hbd r0
        replace r1 := cell_below' hbd r1
        replace r2 := cell_below' hbd r2
        replace r3 := cell_below' hbd r3
        replace r4 := cell_below' hbd r4
        have H := Aside0.mk (copied_calls 7 y D3 d3 D4 d4 W4 HSI.out HFI.out HQ.out.1 (Kd.C_below HQ.out.2.1 hbd) HQ.out.2.2.1 (Kd.C_below HQ.out.2.2.2 hbd))
        unfold vArg at H
        have HZ4 := Aside0.mk hz4
        have HBD := Aside0.mk hbd
        clear hv4 hz4 hbd
        go_wp2_with fail
        refine H.out.mono ?_
        rintro e w5 ⟨b5, v3, v4, rfl, h3, h4⟩
        have hz5 := (b5.block _ (blk_lt HZ4.out)).trans HZ4.out
        have z0 : w5.cell? ⟨w.heap.size + 1, 0, none⟩ = some (.int .i64 0) := blk_cell hz5 0
        have z1 : w5.cell? ⟨w.heap.size + 1, 1, none⟩ = some (.int .i64 0) := blk_cell hz5 1
        have z2 : w5.cell? ⟨w.heap.size + 1, 2, none⟩ = some (.string ⟨#[]⟩) := blk_cell hz5 2
        have z3 : w5.cell? ⟨w.heap.size + 1, 3, none⟩ = some (.slice none 0 0) := blk_cell hz5 3
        have z4 : w5.cell? ⟨w.heap.size + 1, 4, none⟩ = some (.slice none 0 0) := blk_cell hz5 4
        have zf : ∀ j, w5.frozen? ⟨w.heap.size + 1, j, none⟩ = false := blk_frozen hz5
        have HZ5 := Aside0.mk hz5
        have HB5 := Aside0.mk (HBD.out.trans (b5.mono (by omega)))
        have H3 := Aside0.mk h3
        have H4 := Aside0.mk h4
        obtain ⟨G3, g3', rfl⟩ := Kd.R_slice h3
        obtain ⟨G4, g4', rfl⟩ := Kd.R_slice h4
        clear hz5 b5 h3 h4 H x3 r0 r1 r2 r3 r4
        go_wp2
        refine bodyPost_ret (v := .tuple #[.agg #[.int .i64 y.f0, .int .i64 y.f1, .string y.f2, .slice G3 y.f3.length g3', .slice G4 y.f4.length g4'], .bool true]) (res_Get _ _ (w.heap.size + 1) _ _ _ _ _ _ rfl rfl (blk_set5 HZ5.out _ _ _ _ _)) rfl ?_
        rw [HE.out]
        have hfar : ∀ k, W4.heap.size ≤ k → (((((w5.setCell ⟨w.heap.size + 1, 0, none⟩ (.int .i64 y.f0)).setCell ⟨w.heap.size + 1, 1, none⟩ (.int .i64 y.f1)).setCell ⟨w.heap.size + 1, 2, none⟩ (.string y.f2)).setCell ⟨w.heap.size + 1, 3, none⟩ (.slice G3 y.f3.length g3')).setCell ⟨w.heap.size + 1, 4, none⟩ (.slice G4 y.f4.length g4')).heap[k]? = w5.heap[k]? := fun k hk => far5' (by omega) _ _ _ _ _
        exact ⟨below5 HB5.out (by omega) _ _ _ _ _, _, _, rfl, Kd.R_mono (Kd.R_lower (Kd.R_step (Kd.R_bound H3.out) (fun k hk _ => hfar k hk.2.1)) (by omega)) (fun _ _ => trivial), Kd.R_mono (Kd.R_lower (Kd.R_step (Kd.R_bound H4.out) (fun k hk _ => hfar k hk.2.1)) (by omega)) (fun _ _ => trivial)⟩
  · have hn6 : (x.f0 != 6) = true := by simp [h6]
    have HE := Aside0.mk (show res = (zV, false) by rw [HR.out, if_neg (fun h => h6 h.1)])
    clear h6
    go_enter Tryz.func14, Tryz.ntmps14
    go_wp2
    refine bodyPost_ret (v := .tuple #[.agg #[.int .i64 0, .int .i64 0, .string ⟨#[]⟩, .slice none 0 0, .slice none 0 0], .bool false]) (res_Get _ _ (w.heap.size + 1) _ _ _ _ _ _ rfl rfl NZ.out) rfl ?_
    rw [HE.out]
    exact ⟨HB0.out, _, _, rfl, Kd.R_nil _ _ _ _ _, Kd.R_nil _ _ _ _ _⟩
end Go.Proofs.YtegppkngdkkdcaaGreatDoor.Tr
end
section
set_option linter.unusedVariables false
set_option linter.unusedSimpArgs false
namespace Go.Proofs.YtegppkngdkkdcaaGreatDoor.Tr
open Go.RowKit Go.Proofs.YtegppkngdkkdcaaGreatDoorW.PrintWords Go.Proofs.YtegppkngdkkdcaaGreatDoorW.PrintLast Go.Proofs.YtegppkngdkkdcaaGreatDoorW.PrintMore
open Go.Proofs.YtegppkngdkkdcaaGreatDoor.Lx Go.Proofs.YtegppkngdkkdcaaGreatDoor.PS
theorem printR_code (x : V) : (printR x).2 = 0 ∨ (printR x).2 = 1 := by
  unfold printR
  split <;> simp
set_option maxRecDepth 100000 in
set_option maxHeartbeats 2000000 in
theorem refEqual_calls (x y : V) (A3 : Option Addr) (c3 : Nat) (A4 : Option Addr) (c4 : Nat) (B3 : Option Addr) (e3 : Nat) (B4 : Option Addr) (e4 : Nat) (w : World) (fx : fitsR 8 x) (fy : fitsR 8 y) (nx : numsR 8 x) (ny : numsR 8 y) (l3 : x.f3.length ≤ c3) (m3 : y.f3.length ≤ e3)
    (l4 : x.f4.length ≤ c4) (m4 : y.f4.length ≤ e4) (g3 : k26.C w A3 x.f3.length x.f3) (g4 : Kd.string.C w A4 x.f4.length x.f4) (k3 : k26.C w B3 y.f3.length y.f3) (k4 : Kd.string.C w B4 y.f4.length y.f4)
    (hlx : (writeD 8 x).length ≤ 10000000000000) (hly : (writeD 8 y).length ≤ 10000000000000) (hlw : ∀ w1, Below w.heap.size w w1 → LW w1) :
    Calls Tryz.prog 18 #[vArg x A3 c3 A4 c4, vArg y B3 e3 B4 e4] w fun e w' => e = .returned (.bool (equalR x y)) ∧ Below w.heap.size w w' := by
  have HE := Aside0.mk (equal_text x y nx ny)
  obtain ⟨r, hr⟩ : ∃ r, r = equalR x y := ⟨_, rfl⟩
  rw [← hr] at HE ⊢
  clear hr
  have nv := blkA (blk_new w (.cells #[.int .i64 x.f0, .int .i64 x.f1, .string x.f2, .slice A3 x.f3.length c3, .slice A4 x.f4.length c4] 26 (0, 0))) (.cells #[.int .i64 y.f0, .int .i64 y.f1, .string y.f2, .slice B3 y.f3.length e3, .slice B4 y.f4.length e4] 26 (0, 0))
  have nd := blk_new (w.alloc (.cells #[.int .i64 x.f0, .int .i64 x.f1, .string x.f2, .slice A3 x.f3.length c3, .slice A4 x.f4.length c4] 26 (0, 0))) (.cells #[.int .i64 y.f0, .int .i64 y.f1, .string y.f2, .slice B3 y.f3.length e3, .slice B4 y.f4.length e4] 26 (0, 0))
  rw [show (w.alloc (.cells #[.int .i64 x.f0, .int .i64 x.f1, .string x.f2, .slice A3 x.f3.length c3, .slice A4 x.f4.length c4] 26 (0, 0))).heap.size = w.heap.size + 1 by simp] at nd
  have hB2 : Below w.heap.size w ((w.alloc (.cells #[.int .i64 x.f0, .int .i64 x.f1, .string x.f2, .slice A3 x.f3.length c3, .slice A4 x.f4.length c4] 26 (0, 0))).alloc (.cells #[.int .i64 y.f0, .int .i64 y.f1, .string y.f2, .slice B3 y.f3.length e3, .slice B4 y.f4.length e4] 26 (0, 0))) := ((Below.refl _ _).alloc (Nat.le_refl _) _).alloc (by simp) _
  have HPX := Aside0.mk (fun w1 (h : Below w.heap.size w w1) => refPrint_calls x A3 c3 A4 c4 w1 fx nx l3 (Kd.C_below g3 h) l4 (Kd.C_below g4 h) hlx (fun w2 h2 => hlw w2 (h.trans (h2.mono h.size))))
  have HPY := Aside0.mk (fun w1 (h : Below w.heap.size w w1) => refPrint_calls y B3 e3 B4 e4 w1 fy ny m3 (Kd.C_below k3 h) m4 (Kd.C_below k4 h) hly (fun w2 h2 => hlw w2 (h.trans (h2.mono h.size))))
  have CX := printR_code x
  have CY := printR_code y
  generalize printR x = px at *
  generalize printR y = py at *
  obtain ⟨s, ex⟩ := px
  obtain ⟨t, ey⟩ := py
  dsimp only at CX CY HE HPX HPY
  unfold vArg at *
  clear g3 g4 k3 k4 fx fy nx ny hlx hly hlw
  have NV := Aside0.mk nv
  have ND := Aside0.mk nd
  have HB2 := Aside0.mk hB2
  clear nv nd hB2
  go_enter Tryz.func18, Tryz.ntmps18
  go_wp2_with fail
  generalize (w.alloc (.cells #[.int .i64 x.f0, .int .i64 x.f1, .string x.f2, .slice A3 x.f3.length c3, .slice A4 x.f4.length c4] 26 (0, 0))).alloc (.cells #[.int .i64 y.f0, .int .i64 y.f1, .string y.f2, .slice B3 y.f3.length e3, .slice B4 y.f4.length e4] 26 (0, 0)) = W2 at *
  refine (HPX.out W2 HB2.out).mono ?_
  rintro e w3 ⟨rfl, b3⟩
  have ND3 := Aside0.mk ((b3.block _ (blk_lt ND.out)).trans ND.out)
  have HB3 := Aside0.mk (HB2.out.trans (b3.mono HB2.out.size))
  have y0 : w3.cell? ⟨w.heap.size + 1, 0, none⟩ = some (.int .i64 y.f0) := blk_cell ND3.out 0
  have y1 : w3.cell? ⟨w.heap.size + 1, 1, none⟩ = some (.int .i64 y.f1) := blk_cell ND3.out 1
  have y2 : w3.cell? ⟨w.heap.size + 1, 2, none⟩ = some (.string y.f2) := blk_cell ND3.out 2
  have y3 : w3.cell? ⟨w.heap.size + 1, 3, none⟩ = some (.slice B3 y.f3.length e3) := blk_cell ND3.out 3
  have y4 : w3.cell? ⟨w.heap.size + 1, 4, none⟩ = some (.slice B4 y.f4.length e4) := blk_cell ND3.out 4
  clear b3
  go_wp2_with fail
  refine (HPY.out w3 HB3.out).mono ?_
  rintro e w4 ⟨rfl, b4⟩
  have HB4 := Aside0.mk (HB3.out.trans (b4.mono HB3.out.size))
  clear b4 y0 y1 y2 y3 y4
  rcases CX with rfl | rfl
  · rcases CY with rfl | rfl
    · by_cases q : s = t
      · subst q
        have hr : r = true := by rw [HE.out]; simp
        subst hr
        go_wp2
        go_ret
        exact ⟨rfl, HB4.out⟩
      · have hr : r = false := by rw [HE.out]; simp [q]
        have q1 : (s == t) = false := beq_eq_false_iff_ne.2 q
        subst hr
        clear q
        go_wp2
        go_ret
        exact ⟨rfl, HB4.out⟩
    · have hr : r = false := by rw [HE.out]; simp
      subst hr
      go_wp2
      go_ret
      exact ⟨rfl, HB4.out⟩
  · have hr : r = false := by rw [HE.out]; simp
    subst hr
    go_wp2
    go_ret
    exact ⟨rfl, HB4.out⟩
def RGetQ (r : V × Bool) (w : World) (e : Ending) (w' : World) : Prop := Below w.heap.size w w' ∧ ∃ (A3 : Option Addr) (c3 : Nat) (A4 : Option Addr) (c4 : Nat), e = .returned (.tuple #[vArg r.1 A3 c3 A4 c4, .bool r.2]) ∧
  r.1.f3.length ≤ c3 ∧ k26.C w' A3 r.1.f3.length r.1.f3 ∧ r.1.f4.length ≤ c4 ∧ Kd.string.C w' A4 r.1.f4.length r.1.f4
theorem res_rGet (tmps : Array Value) (w : World) (b : Nat) (v0 v1 v2 v3 v4 z : Value) (h4 : tmps.getD 4 undef = .pointer (some ⟨b, 0, none⟩)) (h5 : tmps.getD 5 undef = z) (hb : w.heap[b]? = some (.cells #[v0, v1, v2, v3, v4] 26 (0, 0))) :
    (results Tryz.f16 tmps).run Tryz.prog w = .ok (.tuple #[.agg #[v0, v1, v2, v3, v4], z]) w := by
  have c0 := blk_cell hb 0
  have c1 := blk_cell hb 1
  have c2 := blk_cell hb 2
  have c3 := blk_cell hb 3
  have c4 := blk_cell hb 4
  rw [Array.getD_eq_getD_getElem?] at h4 h5
  simp at c0 c1 c2 c3 c4
  simp [results, Tryz.results16, go_sem, h4, h5, c0, c1, c2, c3, c4]
theorem idxB_none {x : ByteArray} : ∀ {l : List ByteArray}, (∀ j : Nat, l[j]? ≠ some x) → idxB x l = none
  | [], _ => rfl
  | a :: r, h => by
    unfold idxB
    rw [if_neg (fun e => h 0 (by rw [e]; rfl)), idxB_none (fun j => by have := h (j + 1); rwa [List.getElem?_cons_succ] at this)]
    rfl
theorem idxB_some {x : ByteArray} : ∀ {l : List ByteArray} {k : Nat}, (∀ j : Nat, j < k → l[j]? ≠ some x) → l[k]? = some x → idxB x l = some k
  | [], k, _, h => by simp at h
  | a :: r, 0, _, h => by
    unfold idxB
    rw [if_pos (by simpa using h.symm)]
  | a :: r, k + 1, hn, h => by
    unfold idxB
    rw [if_neg (fun e => hn 0 (by omega) (by rw [e]; rfl)), idxB_some (k := k) (fun j hj => by have := hn (j + 1) (by omega); rwa [List.getElem?_cons_succ] at this) (by rwa [List.getElem?_cons_succ] at h)]
    rfl
set_option maxRecDepth 100000 in
set_option maxHeartbeats 4000000 in
theorem refGet_calls (x : V) (name : ByteArray) (A3 : Option Addr) (c3 : Nat) (A4 : Option Addr) (c4 : Nat) (w : World) (fx : fitsR 8 x) (l3 : x.f3.length ≤ c3) (g3 : k26.C w A3 x.f3.length x.f3) (l4 : x.f4.length ≤ c4) (g4 : Kd.string.C w A4 x.f4.length x.f4) :
    Calls Tryz.prog 16 #[vArg x A3 c3 A4 c4, .string name] w (RGetQ (getR x name) w) := by
  have nv := blkA (blk_new w (.cells #[.int .i64 x.f0, .int .i64 x.f1, .string x.f2, .slice A3 x.f3.length c3, .slice A4 x.f4.length c4] 26 (0, 0))) (.cells zCs.toArray 26 (0, 0))
  have nz := blk_new (w.alloc (.cells #[.int .i64 x.f0, .int .i64 x.f1, .string x.f2, .slice A3 x.f3.length c3, .slice A4 x.f4.length c4] 26 (0, 0))) (.cells zCs.toArray 26 (0, 0))
  rw [show (w.alloc (.cells #[.int .i64 x.f0, .int .i64 x.f1, .string x.f2, .slice A3 x.f3.length c3, .slice A4 x.f4.length c4] 26 (0, 0))).heap.size = w.heap.size + 1 by simp] at nz
  have hb0 : Below w.heap.size w ((w.alloc (.cells #[.int .i64 x.f0, .int .i64 x.f1, .string x.f2, .slice A3 x.f3.length c3, .slice A4 x.f4.length c4] 26 (0, 0))).alloc (.cells zCs.toArray 26 (0, 0))) := ((Below.refl _ _).alloc (Nat.le_refl _) _).alloc (by simp) _
  have hs2 : w.heap.size + 2 ≤ ((w.alloc (.cells #[.int .i64 x.f0, .int .i64 x.f1, .string x.f2, .slice A3 x.f3.length c3, .slice A4 x.f4.length c4] 26 (0, 0))).alloc (.cells zCs.toArray 26 (0, 0))).heap.size := by simp
  unfold zCs at *
  have hlen := fitsR_len fx
  have HG := Aside0.mk (And.intro g3 g4)
  have HR := Aside0.mk (show getR x name = if x.f0 = 6 ∧ soundR 8 x = true then (match idxB name x.f4 with | some i => (x.f3.getD i zV, true) | none => (zV, false)) else (zV, false) from rfl)
  have HSC := Aside0.mk (fun w1 (h : Below w.heap.size w w1) => refSound_calls x A3 c3 A4 c4 w1 fx l3 (Kd.C_below g3 h) l4 (Kd.C_below g4 h))
  generalize getR x name = res at *
  unfold vArg at HSC ⊢
  have NV := Aside0.mk nv
  have NZ := Aside0.mk nz
  have HB0 := Aside0.mk hb0
  clear g3 g4 fx nv nz hb0
  go_enter Tryz.func16, Tryz.ntmps16
  go_wp2_with fail
  generalize (w.alloc (.cells #[.int .i64 x.f0, .int .i64 x.f1, .string x.f2, .slice A3 x.f3.length c3, .slice A4 x.f4.length c4] 26 (0, 0))).alloc (.cells [.int .i64 0, .int .i64 0, .string ⟨#[]⟩, .slice none 0 0, .slice none 0 0].toArray 26 (0, 0)) = W2 at *
  refine (HSC.out W2 HB0.out).mono ?_
  rintro e w3 ⟨rfl, b3⟩
  have hv3 := (b3.block _ (blk_lt NV.out)).trans NV.out
  have hz3 := (b3.block _ (blk_lt NZ.out)).trans NZ.out
  have hb3 := HB0.out.trans (b3.mono HB0.out.size)
  have hs3 := b3.size
  have x0 : w3.cell? ⟨w.heap.size, 0, none⟩ = some (.int .i64 x.f0) := blk_cell hv3 0
  have x3 : w3.cell? ⟨w.heap.size, 3, none⟩ = some (.slice A3 x.f3.length c3) := blk_cell hv3 3
  have x4 : w3.cell? ⟨w.heap.size, 4, none⟩ = some (.slice A4 x.f4.length c4) := blk_cell hv3 4
  have z0 : w3.cell? ⟨w.heap.size + 1, 0, none⟩ = some (.int .i64 0) := blk_cell hz3 0
  have z1 : w3.cell? ⟨w.heap.size + 1, 1, none⟩ = some (.int .i64 0) := blk_cell hz3 1
  have z2 : w3.cell? ⟨w.heap.size + 1, 2, none⟩ = some (.string ⟨#[]⟩) := blk_cell hz3 2
  have z3 : w3.cell? ⟨w.heap.size + 1, 3, none⟩ = some (.slice none 0 0) := blk_cell hz3 3
  have z4 : w3.cell? ⟨w.heap.size + 1, 4, none⟩ = some (.slice none 0 0) := blk_cell hz3 4
  have zf : ∀ j, w3.frozen? ⟨w.heap.size + 1, j, none⟩ = false := blk_frozen hz3
  have HV3 := Aside0.mk hv3
  have HZ3 := Aside0.mk hz3
  have HB3 := Aside0.mk hb3
  clear hv3 hz3 hb3 b3 HSC
  cases hs : soundR 8 x with
  | false =>
    have HE := Aside0.mk (show res = (zV, false) by rw [HR.out, if_neg (fun h => by rw [hs] at h; cases h.2)])
    clear hs
    go_wp2
    refine bodyPost_ret (v := .tuple #[.agg #[.int .i64 0, .int .i64 0, .string ⟨#[]⟩, .slice none 0 0, .slice none 0 0], .bool false]) (res_rGet _ _ (w.heap.size + 1) _ _ _ _ _ _ rfl rfl (blk_set5 HZ3.out (.int .i64 0) (.int .i64 0) (.string ⟨#[]⟩) (.slice none 0 0) (.slice none 0 0))) rfl ?_
    rw [HE.out]
    exact ⟨below5 HB3.out (by omega) _ _ _ _ _, none, 0, none, 0, rfl, Nat.le_refl _, Kd.C_nil _ _, Nat.le_refl _, Kd.C_nil _ _⟩
  | true =>
    have HS := Aside0.mk hs
    clear hs
    by_cases h6 : x.f0 = 6
    · have hn6 : (x.f0 != 6) = false := by simp [h6]
      have hb := sound_bare HS.out
      have hl34 : x.f4.length = x.f3.length := by
        unfold bareV bareR at hb
        rw [if_neg (by rw [h6]; decide), if_neg (by rw [h6]; decide), if_neg (by rw [h6]; decide), if_neg (by rw [h6]; decide), if_neg (by rw [h6]; decide), if_pos h6] at hb
        simp at hb
        exact hb.2
      have HL34 := Aside0.mk hl34
      have H6 := Aside0.mk h6
      clear h6 hb hl34
      go_wp2_with fail
      go_loopg [6] x.f4.length (fun kq v6 w5 => ∃ k : Nat, k + kq = x.f4.length ∧ v6 = .int .i64 k ∧ w.heap.size + 2 ≤ w5.heap.size ∧ Aside0 (∀ j : Nat, j < k → x.f4[j]? ≠ some name) ∧ Aside0 (Below w.heap.size w w5) ∧ Aside0 (w5.heap[w.heap.size]? = some (.cells #[.int .i64 x.f0, .int .i64 x.f1, .string x.f2, .slice A3 x.f3.length c3, .slice A4 x.f4.length c4] 26 (0, 0))) ∧ Aside0 (w5.heap[w.heap.size + 1]? = some (.cells #[.int .i64 0, .int .i64 0, .string ⟨#[]⟩, .slice none 0 0, .slice none 0 0] 26 (0, 0))))
      case atStart => exact ⟨0, by omega, rfl, by omega, Aside0.mk (fun j hj => by omega), HB3, HV3, HZ3⟩
      case round =>
        obtain ⟨k, hk, rfl, hsz, HN, HBW, HVW, HZW⟩ := hrel
        clear x0 x3 x4 z0 z1 z2 z3 z4 zf
        have x3 : wr.cell? ⟨w.heap.size, 3, none⟩ = some (.slice A3 x.f3.length c3) := blk_cell HVW.out 3
        have x4 : wr.cell? ⟨w.heap.size, 4, none⟩ = some (.slice A4 x.f4.length c4) := blk_cell HVW.out 4
        have z0 : wr.cell? ⟨w.heap.size + 1, 0, none⟩ = some (.int .i64 0) := blk_cell HZW.out 0
        have z1 : wr.cell? ⟨w.heap.size + 1, 1, none⟩ = some (.int .i64 0) := blk_cell HZW.out 1
        have z2 : wr.cell? ⟨w.heap.size + 1, 2, none⟩ = some (.string ⟨#[]⟩) := blk_cell HZW.out 2
        have z3 : wr.cell? ⟨w.heap.size + 1, 3, none⟩ = some (.slice none 0 0) := blk_cell HZW.out 3
        have z4 : wr.cell? ⟨w.heap.size + 1, 4, none⟩ = some (.slice none 0 0) := blk_cell HZW.out 4
        have zf : ∀ j, wr.frozen? ⟨w.heap.size + 1, j, none⟩ = false := blk_frozen HZW.out
        cases gk with
        | zero =>
          have hge : ¬ ((k : Nat) : Int) < (x.f4.length : Int) := by omega
          have HE := Aside0.mk (show res = (zV, false) by
            rw [HR.out, if_pos ⟨H6.out, HS.out⟩, idxB_none]
            intro j hj
            exact HN.out j (by have := (List.getElem?_eq_some_iff.1 hj).1; omega) hj)
          go_wp2
          refine bodyPost_ret (v := .tuple #[.agg #[.int .i64 0, .int .i64 0, .string ⟨#[]⟩, .slice none 0 0, .slice none 0 0], .bool false]) (res_rGet _ _ (w.heap.size + 1) _ _ _ _ _ _ rfl rfl (blk_set5 HZW.out (.int .i64 0) (.int .i64 0) (.string ⟨#[]⟩) (.slice none 0 0) (.slice none 0 0))) rfl ?_
          rw [HE.out]
          exact ⟨below5 HBW.out (by omega) _ _ _ _ _, none, 0, none, 0, rfl, Nat.le_refl _, Kd.C_nil _ _, Nat.le_refl _, Kd.C_nil _ _⟩
        | succ k1 =>
          have hlt : ((k : Nat) : Int) < (x.f4.length : Int) := by omega
          have hlt' : k < x.f4.length := by omega
          obtain ⟨ad4, cs, e, _, hK, hc0⟩ := Kd.C_get (Kd.C_below HG.out.2 HBW.out) ByteArray.empty (k : Int) (by omega) hlt
          cases e
          have hK' : cs = [.string (x.f4.getD k ByteArray.empty)] := by simpa [Kd.string, Kd.scalar] using hK
          subst hK'
          have q0 : wr.cell? (ad4.add k) = some (.string (x.f4.getD k ByteArray.empty)) := by
            have := hc0 0 _ rfl
            simpa [Kd.string, Kd.scalar] using this
          have HGD := Aside0.mk (show x.f4[k]? = some (x.f4.getD k ByteArray.empty) by rw [List.getD_eq_getElem?_getD, List.getElem?_eq_getElem hlt']; rfl)
          clear hK hc0
          generalize x.f4.getD k ByteArray.empty = nme at *
          have HK := Aside0.mk hk
          by_cases q : nme = name
          · subst q
            have hlt3 : ((k : Nat) : Int) < (x.f3.length : Int) := by have := HL34.out; omega
            have hlt3' : k < x.f3.length := by omega
            have HE := Aside0.mk (show res = (x.f3[k], true) by
              rw [HR.out, if_pos ⟨H6.out, HS.out⟩, idxB_some HN.out HGD.out]
              simp [List.getD, List.getElem?_eq_getElem hlt3'])
            obtain ⟨ad, D3, d3, D4, d4, e, r0, r1, r2, r3, r4, m3, q3, m4, q4⟩ := at_T26 HG.out.1 k (by omega) hlt3
            cases e
            have hrd : rd_T26 x.f3 k = x.f3[k] := by simp [rd_T26, List.getD, List.getElem?_eq_getElem hlt3']
            rw [hrd] at r0 r1 r2 r3 r4 m3 q3 m4 q4
            rw [Int.toNat_natCast] at r0 r1 r2 r3 r4
            replace r0 := cell_below' HBW.out r0
            replace r1 := cell_below' HBW.out r1
            replace r2 := cell_below' HBW.out r2
            replace r3 := cell_below' HBW.out r3
            replace r4 := cell_below' HBW.out r4
            have HQ := Aside0.mk (And.intro m3 (And.intro q3 (And.intro m4 q4)))
            clear hrd m3 q3 m4 q4 hk
            generalize x.f3[k] = y at *
            go_wp2
            refine bodyPost_ret (v := .tuple #[.agg #[.int .i64 y.f0, .int .i64 y.f1, .string y.f2, .slice D3 y.f3.length d3, .slice D4 y.f4.length d4], .bool true]) (res_rGet _ _ (w.heap.size + 1) _ _ _ _ _ _ rfl rfl (blk_set5 HZW.out _ _ _ _ _)) rfl ?_
            rw [HE.out]
            have hfin := below5 HBW.out (show w.heap.size ≤ w.heap.size + 1 by omega) (.int .i64 y.f0) (.int .i64 y.f1) (.string y.f2) (.slice D3 y.f3.length d3) (.slice D4 y.f4.length d4)
            exact ⟨hfin, D3, d3, D4, d4, rfl, HQ.out.1, Kd.C_below HQ.out.2.1 hfin, HQ.out.2.2.1, Kd.C_below HQ.out.2.2.2 hfin⟩
          · have q2 : (nme.data.toList == name.data.toList) = false := beq_eq_false_iff_ne.2 (fun e => q (ByteArray.ext (Array.ext' e)))
            have q3 : (nme.toList == name.toList) = false := by rw [Lib.toList_data, Lib.toList_data]; exact q2
            have HN2 := Aside0.mk (show ∀ j : Nat, j < k + 1 → x.f4[j]? ≠ some name by
              intro j hj
              by_cases hjk : j < k
              · exact HN.out j hjk
              · have : j = k := by omega
                rw [this, HGD.out]
                intro h
                exact q (Option.some.inj h))
            clear q hk
            go_wp2
            go_roundg k1
            case measure => omega
            case rel => exact ⟨k + 1, by have := HK.out; omega, by go_num, hsz, HN2, HBW, HVW, HZW⟩
    · have hn6 : (x.f0 != 6) = true := by simp [h6]
      have HE := Aside0.mk (show res = (zV, false) by rw [HR.out, if_neg (fun h => h6 h.1)])
      clear h6
      go_wp2
      refine bodyPost_ret (v := .tuple #[.agg #[.int .i64 0, .int .i64 0, .string ⟨#[]⟩, .slice none 0 0, .slice none 0 0], .bool false]) (res_rGet _ _ (w.heap.size + 1) _ _ _ _ _ _ rfl rfl (blk_set5 HZ3.out (.int .i64 0) (.int .i64 0) (.string ⟨#[]⟩) (.slice none 0 0) (.slice none 0 0))) rfl ?_
      rw [HE.out]
      exact ⟨below5 HB3.out (by omega) _ _ _ _ _, none, 0, none, 0, rfl, Nat.le_refl _, Kd.C_nil _ _, Nat.le_refl _, Kd.C_nil _ _⟩
end Go.Proofs.YtegppkngdkkdcaaGreatDoor.Tr
end
section
set_option linter.unusedVariables false
set_option linter.unusedSimpArgs false
namespace Go.Proofs.YtegppkngdkkdcaaGreatDoor.Tr
open Go.RowKit Go.Proofs.YtegppkngdkkdcaaGreatDoorW.PrintWords Go.Proofs.YtegppkngdkkdcaaGreatDoorW.PrintLast Go.Proofs.YtegppkngdkkdcaaGreatDoorW.PrintMore
open Go.Proofs.YtegppkngdkkdcaaGreatDoor.Lx Go.Proofs.YtegppkngdkkdcaaGreatDoor.PS
theorem fitsA_zV : fitsA zV := fun d => by cases d <;> simp [fitsR, zV]
theorem getR_fits {x : V} (h : fitsA x) (name : ByteArray) : fitsA (getR x name).1 := by
  unfold getR
  split
  · cases idxB name x.f4 with
    | none => exact fitsA_zV
    | some i =>
      dsimp only
      rw [List.getD_eq_getElem?_getD]
      cases hi : x.f3[i]? with
      | none => exact fitsA_zV
      | some y => exact h.row (List.mem_of_getElem? hi)
  · exact fitsA_zV
theorem alive_true (k : Nat) : assizelaw02_alive.f k = some true := by kernel_rfl
set_option maxRecDepth 100000 in
set_option maxHeartbeats 8000000 in
theorem TreePrints_at (x y : V) (name : ByteArray) (A3 : Option Addr) (c3 : Nat) (A4 : Option Addr) (c4 : Nat) (B3 : Option Addr) (e3 : Nat) (B4 : Option Addr) (e4 : Nat) (w : World) (fx : fitsA x) (fy : fitsA y) (nx : numsR 8 x) (ny : numsR 8 y) (l3 : x.f3.length ≤ c3) (m3 : y.f3.length ≤ e3)
    (l4 : x.f4.length ≤ c4) (m4 : y.f4.length ≤ e4) (g3 : k26.C w A3 x.f3.length x.f3) (g4 : Kd.string.C w A4 x.f4.length x.f4) (k3 : k26.C w B3 y.f3.length y.f3) (k4 : Kd.string.C w B4 y.f4.length y.f4)
    (hlx : (writeD 8 x).length ≤ 10000000000000) (hly : (writeD 8 y).length ≤ 10000000000000) (htab : LW w) :
    Calls Tryz.prog 5 #[vArg x A3 c3 A4 c4, vArg y B3 e3 B4 e4, .string name] w fun e w' => e = .returned (.bool true) ∧ Below w.heap.size w w' := by
  have nv := blkA (blk_new w (.cells #[.int .i64 x.f0, .int .i64 x.f1, .string x.f2, .slice A3 x.f3.length c3, .slice A4 x.f4.length c4] 26 (0, 0))) (.cells #[.int .i64 y.f0, .int .i64 y.f1, .string y.f2, .slice B3 y.f3.length e3, .slice B4 y.f4.length e4] 26 (0, 0))
  have nd := blk_new (w.alloc (.cells #[.int .i64 x.f0, .int .i64 x.f1, .string x.f2, .slice A3 x.f3.length c3, .slice A4 x.f4.length c4] 26 (0, 0))) (.cells #[.int .i64 y.f0, .int .i64 y.f1, .string y.f2, .slice B3 y.f3.length e3, .slice B4 y.f4.length e4] 26 (0, 0))
  rw [show (w.alloc (.cells #[.int .i64 x.f0, .int .i64 x.f1, .string x.f2, .slice A3 x.f3.length c3, .slice A4 x.f4.length c4] 26 (0, 0))).heap.size = w.heap.size + 1 by simp] at nd
  have hB2 : Below w.heap.size w ((w.alloc (.cells #[.int .i64 x.f0, .int .i64 x.f1, .string x.f2, .slice A3 x.f3.length c3, .slice A4 x.f4.length c4] 26 (0, 0))).alloc (.cells #[.int .i64 y.f0, .int .i64 y.f1, .string y.f2, .slice B3 y.f3.length e3, .slice B4 y.f4.length e4] 26 (0, 0))) := ((Below.refl _ _).alloc (Nat.le_refl _) _).alloc (by simp) _
  have HTAB := Aside0.mk (fun w1 (h : Below w.heap.size w w1) => htab.below h)
  have HFX := Aside0.mk (fx 8)
  have HFY := Aside0.mk (fy 8)
  have HNX := Aside0.mk nx
  have HNY := Aside0.mk ny
  have HLX := Aside0.mk hlx
  have HLY := Aside0.mk hly
  have HGX := Aside0.mk (And.intro g3 g4)
  have HGY := Aside0.mk (And.intro k3 k4)
  obtain ⟨kc, hkc⟩ := copy_any _ x (Nat.le_refl _) fx
  have HCQ := Aside0.mk (hkc kc (Nat.le_refl _))
  obtain ⟨ks, hks⟩ := same_any _ x (Nat.le_refl _) fx
  have HSX := Aside0.mk (hks ks (Nat.le_refl _))
  obtain ⟨kg, hkg⟩ := same_any _ (getR x name).1 (Nat.le_refl _) (getR_fits fx name)
  have HSG := Aside0.mk (hkg kg (Nat.le_refl _))
  unfold CopyQ at HCQ
  unfold SameQ at HSX HSG
  have HTG := Aside0.mk (fun (G3 : Option Addr) (g3 : Nat) (G4 : Option Addr) (g4 : Nat) (w1 : World) (a : x.f3.length ≤ g3) (b : k26.C w1 G3 x.f3.length x.f3) (c : x.f4.length ≤ g4) (d : Kd.string.C w1 G4 x.f4.length x.f4) => Get_calls x name G3 g3 G4 g4 w1 HFX.out a b c d)
  have HRG := Aside0.mk (fun (w1 : World) (b : k26.C w1 A3 x.f3.length x.f3) (d : Kd.string.C w1 A4 x.f4.length x.f4) => refGet_calls x name A3 c3 A4 c4 w1 HFX.out l3 b l4 d)
  unfold vArg at HTG HRG
  unfold GetQ at HTG
  unfold RGetQ vArg at HRG
  generalize getR x name = gr at *
  obtain ⟨g, gb⟩ := gr
  dsimp only at HSG HTG HRG
  have HTP := Aside0.mk (fun (G3 : Option Addr) (g3 : Nat) (G4 : Option Addr) (g4 : Nat) (w1 : World) (a : x.f3.length ≤ g3) (b : k26.C w1 G3 x.f3.length x.f3) (c : x.f4.length ≤ g4) (d : Kd.string.C w1 G4 x.f4.length x.f4) (h : Below w.heap.size w w1) => Print_calls x G3 g3 G4 g4 w1 HFX.out HNX.out a b c d HLX.out (fun w2 h2 => HTAB.out w2 (h.trans (h2.mono h.size))))
  have HRP := Aside0.mk (fun (w1 : World) (b : k26.C w1 A3 x.f3.length x.f3) (d : Kd.string.C w1 A4 x.f4.length x.f4) (h : Below w.heap.size w w1) => refPrint_calls x A3 c3 A4 c4 w1 HFX.out HNX.out l3 b l4 d HLX.out (fun w2 h2 => HTAB.out w2 (h.trans (h2.mono h.size))))
  unfold vArg at HTP HRP
  generalize printR x = pr at *
  obtain ⟨ps, pe⟩ := pr
  dsimp only at HTP HRP
  have HTE := Aside0.mk (fun (G3 : Option Addr) (g3 : Nat) (G4 : Option Addr) (g4 : Nat) (w1 : World) (a : x.f3.length ≤ g3) (c : x.f4.length ≤ g4) (b : k26.C w1 G3 x.f3.length x.f3) (d : Kd.string.C w1 G4 x.f4.length x.f4) (b' : k26.C w1 B3 y.f3.length y.f3) (d' : Kd.string.C w1 B4 y.f4.length y.f4) => Equal_calls x y G3 g3 G4 g4 B3 e3 B4 e4 w1 HFX.out HFY.out a m3 c m4 b d b' d')
  have HRE := Aside0.mk (fun (w1 : World) (b : k26.C w1 A3 x.f3.length x.f3) (d : Kd.string.C w1 A4 x.f4.length x.f4) (b' : k26.C w1 B3 y.f3.length y.f3) (d' : Kd.string.C w1 B4 y.f4.length y.f4) (h : Below w.heap.size w w1) => refEqual_calls x y A3 c3 A4 c4 B3 e3 B4 e4 w1 HFX.out HFY.out HNX.out HNY.out l3 m3 l4 m4 b d b' d' HLX.out HLY.out (fun w2 h2 => HTAB.out w2 (h.trans (h2.mono h.size))))
  unfold vArg at HTE HRE
  generalize equalR x y = q at *
  have HL := Aside0.mk (And.intro l3 l4)
  unfold vArg
  have NX := Aside0.mk nv
  have NY := Aside0.mk nd
  have HB2 := Aside0.mk hB2
  clear htab fx fy nx ny hlx hly g3 g4 k3 k4 hkc hks hkg nv nd hB2
  go_enter Tryz.func5, Tryz.ntmps5
  go_wp2_with fail
  generalize (w.alloc (.cells #[.int .i64 x.f0, .int .i64 x.f1, .string x.f2, .slice A3 x.f3.length c3, .slice A4 x.f4.length c4] 26 (0, 0))).alloc (.cells #[.int .i64 y.f0, .int .i64 y.f1, .string y.f2, .slice B3 y.f3.length e3, .slice B4 y.f4.length e4] 26 (0, 0)) = W2 at *
  refine (assizelaw02_alive.calls 0 true W2 (alive_true 0) (HTAB.out W2 HB2.out)).mono ?_
  rintro e w1 ⟨rfl, b1⟩
  have NX1 := Aside0.mk ((b1.block _ (blk_lt NX.out)).trans NX.out)
  have NY1 := Aside0.mk ((b1.block _ (blk_lt NY.out)).trans NY.out)
  have HB1 := Aside0.mk (HB2.out.trans (b1.mono HB2.out.size))
  have x0 : w1.cell? ⟨w.heap.size, 0, none⟩ = some (.int .i64 x.f0) := blk_cell NX1.out 0
  have x1 : w1.cell? ⟨w.heap.size, 1, none⟩ = some (.int .i64 x.f1) := blk_cell NX1.out 1
  have x2 : w1.cell? ⟨w.heap.size, 2, none⟩ = some (.string x.f2) := blk_cell NX1.out 2
  have x3 : w1.cell? ⟨w.heap.size, 3, none⟩ = some (.slice A3 x.f3.length c3) := blk_cell NX1.out 3
  have x4 : w1.cell? ⟨w.heap.size, 4, none⟩ = some (.slice A4 x.f4.length c4) := blk_cell NX1.out 4
  clear b1
  go_wp2_with fail
  refine (assizeref02_Copy.calls kc x.f0 x.f1 x.f2 A3 c3 x.f3 A4 c4 x.f4 x.f0 x.f1 x.f2 x.f3 x.f4 w1 (Kd.C_below HGX.out.1 HB1.out) HL.out.1 (Kd.C_below HGX.out.2 HB1.out) HL.out.2 HCQ.out).mono ?_
  rintro e w2 ⟨v3, v4, rfl, h3, h4, b2⟩
  obtain ⟨G3, g3, rfl, n3, u3⟩ := Kd.R_reads h3
  obtain ⟨G4, g4, rfl, n4, u4⟩ := Kd.R_reads h4
  have b3 := (Below.refl w2.heap.size w2).alloc (Nat.le_refl _) (.cells #[.int .i64 x.f0, .int .i64 x.f1, .string x.f2, .slice G3 x.f3.length g3, .slice G4 x.f4.length g4] 26 (0, 0))
  have b23 := b2.trans (b3.mono b2.size)
  have NG3 := Aside0.mk (blk_new w2 (.cells #[.int .i64 x.f0, .int .i64 x.f1, .string x.f2, .slice G3 x.f3.length g3, .slice G4 x.f4.length g4] 26 (0, 0)))
  have NX3 := Aside0.mk ((b23.block _ (blk_lt NX1.out)).trans NX1.out)
  have NY3 := Aside0.mk ((b23.block _ (blk_lt NY1.out)).trans NY1.out)
  have HB3 := Aside0.mk (HB1.out.trans (b23.mono HB1.out.size))
  have HGG := Aside0.mk (And.intro n3 (And.intro (Kd.C_below u3 b3) (And.intro n4 (Kd.C_below u4 b3))))
  clear h3 h4 u3 u4 b2 b3 b23 x0 x1 x2 x3 x4 n3 n4
  go_wp2_with fail
  generalize w2.alloc (.cells #[.int .i64 x.f0, .int .i64 x.f1, .string x.f2, .slice G3 x.f3.length g3, .slice G4 x.f4.length g4] 26 (0, 0)) = W3 at *
  refine (HTP.out G3 g3 G4 g4 W3 HGG.out.1 HGG.out.2.1 HGG.out.2.2.1 HGG.out.2.2.2 HB3.out).mono ?_
  rintro e w4 ⟨rfl, b4⟩
  have NG4 := Aside0.mk ((b4.block _ (blk_lt NG3.out)).trans NG3.out)
  have NX4 := Aside0.mk ((b4.block _ (blk_lt NX3.out)).trans NX3.out)
  have NY4 := Aside0.mk ((b4.block _ (blk_lt NY3.out)).trans NY3.out)
  have HB4 := Aside0.mk (HB3.out.trans (b4.mono HB3.out.size))
  have HG4 := Aside0.mk (And.intro HGG.out.1 (And.intro (Kd.C_below HGG.out.2.1 b4) (And.intro HGG.out.2.2.1 (Kd.C_below HGG.out.2.2.2 b4))))
  have x0 : w4.cell? ⟨w.heap.size, 0, none⟩ = some (.int .i64 x.f0) := blk_cell NX4.out 0
  have x1 : w4.cell? ⟨w.heap.size, 1, none⟩ = some (.int .i64 x.f1) := blk_cell NX4.out 1
  have x2 : w4.cell? ⟨w.heap.size, 2, none⟩ = some (.string x.f2) := blk_cell NX4.out 2
  have x3 : w4.cell? ⟨w.heap.size, 3, none⟩ = some (.slice A3 x.f3.length c3) := blk_cell NX4.out 3
  have x4 : w4.cell? ⟨w.heap.size, 4, none⟩ = some (.slice A4 x.f4.length c4) := blk_cell NX4.out 4
  clear b4
  go_wp2_with fail
  refine (HRP.out w4 (Kd.C_below HGX.out.1 HB4.out) (Kd.C_below HGX.out.2 HB4.out) HB4.out).mono ?_
  rintro e w5 ⟨rfl, b5⟩
  have NG5 := Aside0.mk ((b5.block _ (blk_lt NG4.out)).trans NG4.out)
  have NX5 := Aside0.mk ((b5.block _ (blk_lt NX4.out)).trans NX4.out)
  have NY5 := Aside0.mk ((b5.block _ (blk_lt NY4.out)).trans NY4.out)
  have HB5 := Aside0.mk (HB4.out.trans (b5.mono HB4.out.size))
  have HG5 := Aside0.mk (And.intro HG4.out.1 (And.intro (Kd.C_below HG4.out.2.1 b5) (And.intro HG4.out.2.2.1 (Kd.C_below HG4.out.2.2.2 b5))))
  clear x0 x1 x2 x3 x4
  have x0 : w5.cell? ⟨w2.heap.size, 0, none⟩ = some (.int .i64 x.f0) := blk_cell NG5.out 0
  have x1 : w5.cell? ⟨w2.heap.size, 1, none⟩ = some (.int .i64 x.f1) := blk_cell NG5.out 1
  have x2 : w5.cell? ⟨w2.heap.size, 2, none⟩ = some (.string x.f2) := blk_cell NG5.out 2
  have x3 : w5.cell? ⟨w2.heap.size, 3, none⟩ = some (.slice G3 x.f3.length g3) := blk_cell NG5.out 3
  have x4 : w5.cell? ⟨w2.heap.size, 4, none⟩ = some (.slice G4 x.f4.length g4) := blk_cell NG5.out 4
  clear b5
  go_wp2_with fail
  refine (HTG.out G3 g3 G4 g4 w5 HG5.out.1 HG5.out.2.1 HG5.out.2.2.1 HG5.out.2.2.2).mono ?_
  rintro e w6 ⟨b6, v3, v4, rfl, h3, h4⟩
  obtain ⟨H3, h3', rfl, n3, u3⟩ := Kd.R_reads h3
  obtain ⟨H4, h4', rfl, n4, u4⟩ := Kd.R_reads h4
  have b7 := (Below.refl w6.heap.size w6).alloc (Nat.le_refl _) (.cells #[.int .i64 g.f0, .int .i64 g.f1, .string g.f2, .slice H3 g.f3.length h3', .slice H4 g.f4.length h4'] 26 (0, 0))
  have b67 := b6.trans (b7.mono b6.size)
  have ND7 := Aside0.mk (blk_new w6 (.cells #[.int .i64 g.f0, .int .i64 g.f1, .string g.f2, .slice H3 g.f3.length h3', .slice H4 g.f4.length h4'] 26 (0, 0)))
  have NG7 := Aside0.mk ((b67.block _ (blk_lt NG5.out)).trans NG5.out)
  have NX7 := Aside0.mk ((b67.block _ (blk_lt NX5.out)).trans NX5.out)
  have NY7 := Aside0.mk ((b67.block _ (blk_lt NY5.out)).trans NY5.out)
  have HB7 := Aside0.mk (HB5.out.trans (b67.mono HB5.out.size))
  have HG7 := Aside0.mk (And.intro HG5.out.1 (And.intro (Kd.C_below HG5.out.2.1 b67) (And.intro HG5.out.2.2.1 (Kd.C_below HG5.out.2.2.2 b67))))
  have HD7 := Aside0.mk (And.intro n3 (And.intro (Kd.C_below u3 b7) (And.intro n4 (Kd.C_below u4 b7))))
  clear h3 h4 u3 u4 b6 b67 x0 x1 x2 x3 x4 n3 n4 b7
  have x0' : (w6.alloc (.cells #[.int .i64 g.f0, .int .i64 g.f1, .string g.f2, .slice H3 g.f3.length h3', .slice H4 g.f4.length h4'] 26 (0, 0))).cell? ⟨w.heap.size, 0, none⟩ = some (.int .i64 x.f0) := blk_cell NX7.out 0
  have x1 : (w6.alloc (.cells #[.int .i64 g.f0, .int .i64 g.f1, .string g.f2, .slice H3 g.f3.length h3', .slice H4 g.f4.length h4'] 26 (0, 0))).cell? ⟨w.heap.size, 1, none⟩ = some (.int .i64 x.f1) := blk_cell NX7.out 1
  have x2 : (w6.alloc (.cells #[.int .i64 g.f0, .int .i64 g.f1, .string g.f2, .slice H3 g.f3.length h3', .slice H4 g.f4.length h4'] 26 (0, 0))).cell? ⟨w.heap.size, 2, none⟩ = some (.string x.f2) := blk_cell NX7.out 2
  have x3 : (w6.alloc (.cells #[.int .i64 g.f0, .int .i64 g.f1, .string g.f2, .slice H3 g.f3.length h3', .slice H4 g.f4.length h4'] 26 (0, 0))).cell? ⟨w.heap.size, 3, none⟩ = some (.slice A3 x.f3.length c3) := blk_cell NX7.out 3
  have x4 : (w6.alloc (.cells #[.int .i64 g.f0, .int .i64 g.f1, .string g.f2, .slice H3 g.f3.length h3', .slice H4 g.f4.length h4'] 26 (0, 0))).cell? ⟨w.heap.size, 4, none⟩ = some (.slice A4 x.f4.length c4) := blk_cell NX7.out 4
  go_wp2_with fail
  generalize w6.alloc (.cells #[.int .i64 g.f0, .int .i64 g.f1, .string g.f2, .slice H3 g.f3.length h3', .slice H4 g.f4.length h4'] 26 (0, 0)) = W7 at *
  refine (HRG.out W7 (Kd.C_below HGX.out.1 HB7.out) (Kd.C_below HGX.out.2 HB7.out)).mono ?_
  rintro e w8 ⟨b8, J3, j3, J4, j4, rfl, n3, u3, n4, u4⟩
  have b9 := (Below.refl w8.heap.size w8).alloc (Nat.le_refl _) (.cells #[.int .i64 g.f0, .int .i64 g.f1, .string g.f2, .slice J3 g.f3.length j3, .slice J4 g.f4.length j4] 26 (0, 0))
  have b89 := b8.trans (b9.mono b8.size)
  have NE9 := Aside0.mk (blk_new w8 (.cells #[.int .i64 g.f0, .int .i64 g.f1, .string g.f2, .slice J3 g.f3.length j3, .slice J4 g.f4.length j4] 26 (0, 0)))
  have ND9 := Aside0.mk ((b89.block _ (blk_lt ND7.out)).trans ND7.out)
  have NG9 := Aside0.mk ((b89.block _ (blk_lt NG7.out)).trans NG7.out)
  have NX9 := Aside0.mk ((b89.block _ (blk_lt NX7.out)).trans NX7.out)
  have NY9 := Aside0.mk ((b89.block _ (blk_lt NY7.out)).trans NY7.out)
  have HB9 := Aside0.mk (HB7.out.trans (b89.mono HB7.out.size))
  have HG9 := Aside0.mk (And.intro HG7.out.1 (And.intro (Kd.C_below HG7.out.2.1 b89) (And.intro HG7.out.2.2.1 (Kd.C_below HG7.out.2.2.2 b89))))
  have HD9 := Aside0.mk (And.intro HD7.out.1 (And.intro (Kd.C_below HD7.out.2.1 b89) (And.intro HD7.out.2.2.1 (Kd.C_below HD7.out.2.2.2 b89))))
  have HE9 := Aside0.mk (And.intro n3 (And.intro (Kd.C_below u3 b9) (And.intro n4 (Kd.C_below u4 b9))))
  clear u3 u4 b8 b89 x0' x1 x2 x3 x4 n3 n4 b9
  go_wp2_with fail
  generalize w8.alloc (.cells #[.int .i64 g.f0, .int .i64 g.f1, .string g.f2, .slice J3 g.f3.length j3, .slice J4 g.f4.length j4] 26 (0, 0)) = W9 at *
  have hdr : Below W9.heap.size W9 W9.drew := ⟨rfl, rfl, rfl, Nat.le_refl _, fun _ _ => rfl⟩
  have b9d := hdr
  have z0 : W9.drew.cell? ⟨w6.heap.size, 0, none⟩ = some (.int .i64 g.f0) := blk_cell (w := W9.drew) ND9.out 0
  have z1 : W9.drew.cell? ⟨w6.heap.size, 1, none⟩ = some (.int .i64 g.f1) := blk_cell (w := W9.drew) ND9.out 1
  have z2 : W9.drew.cell? ⟨w6.heap.size, 2, none⟩ = some (.string g.f2) := blk_cell (w := W9.drew) ND9.out 2
  have z3 : W9.drew.cell? ⟨w6.heap.size, 3, none⟩ = some (.slice H3 g.f3.length h3') := blk_cell (w := W9.drew) ND9.out 3
  have z4 : W9.drew.cell? ⟨w6.heap.size, 4, none⟩ = some (.slice H4 g.f4.length h4') := blk_cell (w := W9.drew) ND9.out 4
  have z5 : W9.drew.cell? ⟨w8.heap.size, 0, none⟩ = some (.int .i64 g.f0) := blk_cell (w := W9.drew) NE9.out 0
  have z6 : W9.drew.cell? ⟨w8.heap.size, 1, none⟩ = some (.int .i64 g.f1) := blk_cell (w := W9.drew) NE9.out 1
  have z7 : W9.drew.cell? ⟨w8.heap.size, 2, none⟩ = some (.string g.f2) := blk_cell (w := W9.drew) NE9.out 2
  have z8 : W9.drew.cell? ⟨w8.heap.size, 3, none⟩ = some (.slice J3 g.f3.length j3) := blk_cell (w := W9.drew) NE9.out 3
  have z9 : W9.drew.cell? ⟨w8.heap.size, 4, none⟩ = some (.slice J4 g.f4.length j4) := blk_cell (w := W9.drew) NE9.out 4
  have z10 : W9.drew.cell? ⟨w2.heap.size, 0, none⟩ = some (.int .i64 x.f0) := blk_cell (w := W9.drew) NG9.out 0
  have z11 : W9.drew.cell? ⟨w2.heap.size, 1, none⟩ = some (.int .i64 x.f1) := blk_cell (w := W9.drew) NG9.out 1
  have z12 : W9.drew.cell? ⟨w2.heap.size, 2, none⟩ = some (.string x.f2) := blk_cell (w := W9.drew) NG9.out 2
  have z13 : W9.drew.cell? ⟨w2.heap.size, 3, none⟩ = some (.slice G3 x.f3.length g3) := blk_cell (w := W9.drew) NG9.out 3
  have z14 : W9.drew.cell? ⟨w2.heap.size, 4, none⟩ = some (.slice G4 x.f4.length g4) := blk_cell (w := W9.drew) NG9.out 4
  have z15 : W9.drew.cell? ⟨w.heap.size + 1, 0, none⟩ = some (.int .i64 y.f0) := blk_cell (w := W9.drew) NY9.out 0
  have z16 : W9.drew.cell? ⟨w.heap.size + 1, 1, none⟩ = some (.int .i64 y.f1) := blk_cell (w := W9.drew) NY9.out 1
  have z17 : W9.drew.cell? ⟨w.heap.size + 1, 2, none⟩ = some (.string y.f2) := blk_cell (w := W9.drew) NY9.out 2
  have z18 : W9.drew.cell? ⟨w.heap.size + 1, 3, none⟩ = some (.slice B3 y.f3.length e3) := blk_cell (w := W9.drew) NY9.out 3
  have z19 : W9.drew.cell? ⟨w.heap.size + 1, 4, none⟩ = some (.slice B4 y.f4.length e4) := blk_cell (w := W9.drew) NY9.out 4
  have z20 : W9.drew.cell? ⟨w.heap.size, 0, none⟩ = some (.int .i64 x.f0) := blk_cell (w := W9.drew) NX9.out 0
  have z21 : W9.drew.cell? ⟨w.heap.size, 1, none⟩ = some (.int .i64 x.f1) := blk_cell (w := W9.drew) NX9.out 1
  have z22 : W9.drew.cell? ⟨w.heap.size, 2, none⟩ = some (.string x.f2) := blk_cell (w := W9.drew) NX9.out 2
  have z23 : W9.drew.cell? ⟨w.heap.size, 3, none⟩ = some (.slice A3 x.f3.length c3) := blk_cell (w := W9.drew) NX9.out 3
  have z24 : W9.drew.cell? ⟨w.heap.size, 4, none⟩ = some (.slice A4 x.f4.length c4) := blk_cell (w := W9.drew) NX9.out 4
  refine start_ (n := 33) (S := fun w' => w'.cell? ⟨w6.heap.size, 0, none⟩ = some (.int .i64 g.f0) ∧ w'.cell? ⟨w6.heap.size, 1, none⟩ = some (.int .i64 g.f1) ∧ w'.cell? ⟨w6.heap.size, 2, none⟩ = some (.string g.f2) ∧ w'.cell? ⟨w6.heap.size, 3, none⟩ = some (.slice H3 g.f3.length h3') ∧ w'.cell? ⟨w6.heap.size, 4, none⟩ = some (.slice H4 g.f4.length h4') ∧ w'.cell? ⟨w8.heap.size, 0, none⟩ = some (.int .i64 g.f0) ∧ w'.cell? ⟨w8.heap.size, 1, none⟩ = some (.int .i64 g.f1) ∧ w'.cell? ⟨w8.heap.size, 2, none⟩ = some (.string g.f2) ∧ w'.cell? ⟨w8.heap.size, 3, none⟩ = some (.slice J3 g.f3.length j3) ∧ w'.cell? ⟨w8.heap.size, 4, none⟩ = some (.slice J4 g.f4.length j4) ∧ w'.cell? ⟨w2.heap.size, 0, none⟩ = some (.int .i64 x.f0) ∧ w'.cell? ⟨w2.heap.size, 1, none⟩ = some (.int .i64 x.f1) ∧ w'.cell? ⟨w2.heap.size, 2, none⟩ = some (.string x.f2) ∧ w'.cell? ⟨w2.heap.size, 3, none⟩ = some (.slice G3 x.f3.length g3) ∧ w'.cell? ⟨w2.heap.size, 4, none⟩ = some (.slice G4 x.f4.length g4) ∧ w'.cell? ⟨w.heap.size + 1, 0, none⟩ = some (.int .i64 y.f0) ∧ w'.cell? ⟨w.heap.size + 1, 1, none⟩ = some (.int .i64 y.f1) ∧ w'.cell? ⟨w.heap.size + 1, 2, none⟩ = some (.string y.f2) ∧ w'.cell? ⟨w.heap.size + 1, 3, none⟩ = some (.slice B3 y.f3.length e3) ∧ w'.cell? ⟨w.heap.size + 1, 4, none⟩ = some (.slice B4 y.f4.length e4) ∧ w'.cell? ⟨w.heap.size, 0, none⟩ = some (.int .i64 x.f0) ∧ w'.cell? ⟨w.heap.size, 1, none⟩ = some (.int .i64 x.f1) ∧ w'.cell? ⟨w.heap.size, 2, none⟩ = some (.string x.f2) ∧ w'.cell? ⟨w.heap.size, 3, none⟩ = some (.slice A3 x.f3.length c3) ∧ w'.cell? ⟨w.heap.size, 4, none⟩ = some (.slice A4 x.f4.length c4)) (ds := []) #[fF, fF, fF, fF, fF, fF, fF, fF, fF, fF, fF, fF, fF, fF, fF, fF, fF, fF, fF, fF, fF, fF, fF, fF, fF, fF, fF, fF, fF, fF, fF, fF, fF] (by kernel_rfl) rfl rfl ⟨z0, z1, z2, z3, z4, z5, z6, z7, z8, z9, z10, z11, z12, z13, z14, z15, z16, z17, z18, z19, z20, z21, z22, z23, z24⟩ (fun hHeld => ?_)
  refine pure_ (i := 0) (N := some 42) (v := ?_) (a' := ?_) #[tT, fF, fF, fF, fF, fF, fF, fF, fF, fF, fF, fF, fF, fF, fF, fF, fF, fF, fF, fF, fF, fF, fF, fF, fF, fF, fF, fF, fF, fF, fF, fF, fF] rfl rfl (by kernel_rfl) (fun _ _ _ h => h) (Or.inl ⟨by rfl, ?_⟩) ?_ ?_
  rotate_left
  · intro w'
    go_simp
    with_reducible rfl
  rotate_left
  · simp only [Act.put, sA, sZ, sS, i64_w, i32_w]
    rfl
  refine pure_ (i := 1) (N := some 43) (v := ?_) (a' := ?_) #[tT, tT, fF, fF, fF, fF, fF, fF, fF, fF, fF, fF, fF, fF, fF, fF, fF, fF, fF, fF, fF, fF, fF, fF, fF, fF, fF, fF, fF, fF, fF, fF, fF] rfl rfl (by kernel_rfl) (fun _ _ _ h => h) (Or.inl ⟨by rfl, ?_⟩) ?_ ?_
  rotate_left
  · intro w'
    go_simp
    with_reducible rfl
  rotate_left
  · simp only [Act.put, sA, sZ, sS, i64_w, i32_w]
    rfl
  refine pure_ (i := 2) (N := some 44) (v := ?_) (a' := ?_) #[tT, tT, tT, fF, fF, fF, fF, fF, fF, fF, fF, fF, fF, fF, fF, fF, fF, fF, fF, fF, fF, fF, fF, fF, fF, fF, fF, fF, fF, fF, fF, fF, fF] rfl rfl (by kernel_rfl) (fun _ _ _ h => h) (Or.inl ⟨by rfl, ?_⟩) ?_ ?_
  rotate_left
  · intro w'
    go_simp
    with_reducible rfl
  rotate_left
  · simp only [Act.put, sA, sZ, sS, i64_w, i32_w]
    rfl
  refine pure_ (i := 3) (N := some 45) (v := ?_) (a' := ?_) #[tT, tT, tT, tT, fF, fF, fF, fF, fF, fF, fF, fF, fF, fF, fF, fF, fF, fF, fF, fF, fF, fF, fF, fF, fF, fF, fF, fF, fF, fF, fF, fF, fF] rfl rfl (by kernel_rfl) (fun _ _ _ h => h) (Or.inl ⟨by rfl, ?_⟩) ?_ ?_
  rotate_left
  · intro w'
    go_simp
    with_reducible rfl
  rotate_left
  · simp only [Act.put, sA, sZ, sS, i64_w, i32_w]
    rfl
  refine pure_ (i := 4) (N := some 46) (v := ?_) (a' := ?_) #[tT, tT, tT, tT, tT, fF, fF, fF, fF, fF, fF, fF, fF, fF, fF, fF, fF, fF, fF, fF, fF, fF, fF, fF, fF, fF, fF, fF, fF, fF, fF, fF, fF] rfl rfl (by kernel_rfl) (fun _ _ _ h => h) (Or.inl ⟨by rfl, ?_⟩) ?_ ?_
  rotate_left
  · intro w'
    go_simp
    with_reducible rfl
  rotate_left
  · simp only [Act.put, sA, sZ, sS, i64_w, i32_w]
    rfl
  refine pure_ (i := 5) (N := some 47) (v := ?_) (a' := ?_) #[tT, tT, tT, tT, tT, tT, fF, fF, fF, fF, fF, fF, fF, fF, fF, fF, fF, fF, fF, fF, fF, fF, fF, fF, fF, fF, fF, fF, fF, fF, fF, fF, fF] rfl rfl (by kernel_rfl) (fun _ _ _ h => h) (Or.inl ⟨by rfl, ?_⟩) ?_ ?_
  rotate_left
  · intro w'
    go_simp
    with_reducible rfl
  rotate_left
  · simp only [Act.put, sA, sZ, sS, i64_w, i32_w]
    rfl
  refine pure_ (i := 6) (N := some 48) (v := ?_) (a' := ?_) #[tT, tT, tT, tT, tT, tT, tT, fF, fF, fF, fF, fF, fF, fF, fF, fF, fF, fF, fF, fF, fF, fF, fF, fF, fF, fF, fF, fF, fF, fF, fF, fF, fF] rfl rfl (by kernel_rfl) (fun _ _ _ h => h) (Or.inl ⟨by rfl, ?_⟩) ?_ ?_
  rotate_left
  · intro w'
    go_simp
    with_reducible rfl
  rotate_left
  · simp only [Act.put, sA, sZ, sS, i64_w, i32_w]
    rfl
  refine pure_ (i := 7) (N := some 49) (v := ?_) (a' := ?_) #[tT, tT, tT, tT, tT, tT, tT, tT, fF, fF, fF, fF, fF, fF, fF, fF, fF, fF, fF, fF, fF, fF, fF, fF, fF, fF, fF, fF, fF, fF, fF, fF, fF] rfl rfl (by kernel_rfl) (fun _ _ _ h => h) (Or.inl ⟨by rfl, ?_⟩) ?_ ?_
  rotate_left
  · intro w'
    go_simp
    with_reducible rfl
  rotate_left
  · simp only [Act.put, sA, sZ, sS, i64_w, i32_w]
    rfl
  refine pure_ (i := 8) (N := some 50) (v := ?_) (a' := ?_) #[tT, tT, tT, tT, tT, tT, tT, tT, tT, fF, fF, fF, fF, fF, fF, fF, fF, fF, fF, fF, fF, fF, fF, fF, fF, fF, fF, fF, fF, fF, fF, fF, fF] rfl rfl (by kernel_rfl) (fun _ _ _ h => h) (Or.inl ⟨by rfl, ?_⟩) ?_ ?_
  rotate_left
  · intro w'
    go_simp
    with_reducible rfl
  rotate_left
  · simp only [Act.put, sA, sZ, sS, i64_w, i32_w]
    rfl
  refine pure_ (i := 9) (N := some 51) (v := ?_) (a' := ?_) #[tT, tT, tT, tT, tT, tT, tT, tT, tT, tT, fF, fF, fF, fF, fF, fF, fF, fF, fF, fF, fF, fF, fF, fF, fF, fF, fF, fF, fF, fF, fF, fF, fF] rfl rfl (by kernel_rfl) (fun _ _ _ h => h) (Or.inl ⟨by rfl, ?_⟩) ?_ ?_
  rotate_left
  · intro w'
    go_simp
    with_reducible rfl
  rotate_left
  · simp only [Act.put, sA, sZ, sS, i64_w, i32_w]
    rfl
  refine pure_ (i := 10) (N := some 52) (v := ?_) (a' := ?_) #[tT, tT, tT, tT, tT, tT, tT, tT, tT, tT, tT, fF, fF, fF, fF, fF, fF, fF, fF, fF, fF, fF, fF, fF, fF, fF, fF, fF, fF, fF, fF, fF, fF] rfl rfl (by kernel_rfl) (fun _ _ _ h => h) (Or.inl ⟨by rfl, ?_⟩) ?_ ?_
  rotate_left
  · intro w'
    go_simp
    with_reducible rfl
  rotate_left
  · simp only [Act.put, sA, sZ, sS, i64_w, i32_w]
    rfl
  refine pure_ (i := 11) (N := some 53) (v := ?_) (a' := ?_) #[tT, tT, tT, tT, tT, tT, tT, tT, tT, tT, tT, tT, fF, fF, fF, fF, fF, fF, fF, fF, fF, fF, fF, fF, fF, fF, fF, fF, fF, fF, fF, fF, fF] rfl rfl (by kernel_rfl) (fun _ _ _ h => h) (Or.inl ⟨by rfl, ?_⟩) ?_ ?_
  rotate_left
  · intro w'
    go_simp
    with_reducible rfl
  rotate_left
  · simp only [Act.put, sA, sZ, sS, i64_w, i32_w]
    rfl
  refine pure_ (i := 12) (N := some 54) (v := ?_) (a' := ?_) #[tT, tT, tT, tT, tT, tT, tT, tT, tT, tT, tT, tT, tT, fF, fF, fF, fF, fF, fF, fF, fF, fF, fF, fF, fF, fF, fF, fF, fF, fF, fF, fF, fF] rfl rfl (by kernel_rfl) (fun _ _ _ h => h) (Or.inl ⟨by rfl, ?_⟩) ?_ ?_
  rotate_left
  · intro w'
    go_simp
    with_reducible rfl
  rotate_left
  · simp only [Act.put, sA, sZ, sS, i64_w, i32_w]
    rfl
  refine pure_ (i := 13) (N := some 55) (v := ?_) (a' := ?_) #[tT, tT, tT, tT, tT, tT, tT, tT, tT, tT, tT, tT, tT, tT, fF, fF, fF, fF, fF, fF, fF, fF, fF, fF, fF, fF, fF, fF, fF, fF, fF, fF, fF] rfl rfl (by kernel_rfl) (fun _ _ _ h => h) (Or.inl ⟨by rfl, ?_⟩) ?_ ?_
  rotate_left
  · intro w'
    go_simp
    with_reducible rfl
  rotate_left
  · simp only [Act.put, sA, sZ, sS, i64_w, i32_w]
    rfl
  refine take_ (i := 14) (N := some 56) (v := ?_) (a' := ?_) #[tT, tT, tT, tT, tT, tT, tT, tT, tT, tT, tT, tT, tT, tT, tT, fF, fF, fF, fF, fF, fF, fF, fF, fF, fF, fF, fF, fF, fF, fF, fF, fF, fF] rfl rfl (by kernel_rfl) (fun _ _ _ h => h) (Or.inl ⟨by rfl, ?_⟩) hHeld ?_ ?_
  rotate_left
  · rintro w' ⟨y0_, y1_, y2_, y3_, y4_, y5_, y6_, y7_, y8_, y9_, y10_, y11_, y12_, y13_, y14_, y15_, y16_, y17_, y18_, y19_, y20_, y21_, y22_, y23_, y24_⟩
    go_simp
    with_reducible rfl
  rotate_left
  · simp only [Act.put, sA, sZ, sS, i64_w, i32_w]
    rfl
  refine take_ (i := 15) (N := some 57) (v := ?_) (a' := ?_) #[tT, tT, tT, tT, tT, tT, tT, tT, tT, tT, tT, tT, tT, tT, tT, tT, fF, fF, fF, fF, fF, fF, fF, fF, fF, fF, fF, fF, fF, fF, fF, fF, fF] rfl rfl (by kernel_rfl) (fun _ _ _ h => h) (Or.inl ⟨by rfl, ?_⟩) hHeld ?_ ?_
  rotate_left
  · rintro w' ⟨y0_, y1_, y2_, y3_, y4_, y5_, y6_, y7_, y8_, y9_, y10_, y11_, y12_, y13_, y14_, y15_, y16_, y17_, y18_, y19_, y20_, y21_, y22_, y23_, y24_⟩
    go_simp
    with_reducible rfl
  rotate_left
  · simp only [Act.put, sA, sZ, sS, i64_w, i32_w]
    rfl
  have HX9 := Aside0.mk (And.intro HL.out.1 (And.intro (Kd.C_below HGX.out.1 HB9.out) (And.intro HL.out.2 (Kd.C_below HGX.out.2 HB9.out))))
  have HY9 := Aside0.mk (And.intro (Kd.C_below HGY.out.1 HB9.out) (Kd.C_below HGY.out.2 HB9.out))
  refine one_ (i := 16) (N := some 58) #[tT, tT, tT, tT, tT, tT, tT, tT, tT, tT, tT, tT, tT, tT, tT, tT, tT, fF, fF, fF, fF, fF, fF, fF, fF, fF, fF, fF, fF, fF, fF, fF, fF] rfl rfl (by kernel_rfl) (by decide) (fun K hK => ?_)
  refine goes_ Tryz.func10 (by kernel_rfl) rfl #[.agg #[.int .i64 g.f0, .int .i64 g.f1, .string g.f2, .slice H3 g.f3.length h3', .slice H4 g.f4.length h4'], .agg #[.int .i64 g.f0, .int .i64 g.f1, .string g.f2, .slice J3 g.f3.length j3, .slice J4 g.f4.length j4]] (by rfl) rfl rfl (by simp only [List.map_toArray, List.map_cons, List.map_nil]; rfl) ?_
  refine (assizeref02_Same.calls kg g.f0 g.f1 g.f2 H3 h3' g.f3 H4 h4' g.f4 g.f0 g.f1 g.f2 J3 j3 g.f3 J4 j4 g.f4 true W9.drew (Kd.C_below HD9.out.2.1 b9d) HD9.out.1 (Kd.C_below HD9.out.2.2.2 b9d) HD9.out.2.2.1 (Kd.C_below HE9.out.2.1 b9d) HE9.out.1 (Kd.C_below HE9.out.2.2.2 b9d) HE9.out.2.2.1 HSG.out).mono ?_
  rintro e u1 ⟨rfl, hbu1⟩
  refine ⟨_, rfl, ?_⟩
  replace z0 := cell_below' hbu1 z0
  replace z1 := cell_below' hbu1 z1
  replace z2 := cell_below' hbu1 z2
  replace z3 := cell_below' hbu1 z3
  replace z4 := cell_below' hbu1 z4
  replace z5 := cell_below' hbu1 z5
  replace z6 := cell_below' hbu1 z6
  replace z7 := cell_below' hbu1 z7
  replace z8 := cell_below' hbu1 z8
  replace z9 := cell_below' hbu1 z9
  replace z10 := cell_below' hbu1 z10
  replace z11 := cell_below' hbu1 z11
  replace z12 := cell_below' hbu1 z12
  replace z13 := cell_below' hbu1 z13
  replace z14 := cell_below' hbu1 z14
  replace z15 := cell_below' hbu1 z15
  replace z16 := cell_below' hbu1 z16
  replace z17 := cell_below' hbu1 z17
  replace z18 := cell_below' hbu1 z18
  replace z19 := cell_below' hbu1 z19
  replace z20 := cell_below' hbu1 z20
  replace z21 := cell_below' hbu1 z21
  replace z22 := cell_below' hbu1 z22
  replace z23 := cell_below' hbu1 z23
  replace z24 := cell_below' hbu1 z24
  refine hK.out _ _ ⟨z0, z1, z2, z3, z4, z5, z6, z7, z8, z9, z10, z11, z12, z13, z14, z15, z16, z17, z18, z19, z20, z21, z22, z23, z24⟩ fun hHeld => ?_
  clear hK K
  replace b9d := b9d.trans (hbu1.mono b9d.size)
  refine pure_ (i := 17) (N := some 59) (v := ?_) (a' := ?_) #[tT, tT, tT, tT, tT, tT, tT, tT, tT, tT, tT, tT, tT, tT, tT, tT, tT, tT, fF, fF, fF, fF, fF, fF, fF, fF, fF, fF, fF, fF, fF, fF, fF] rfl rfl (by kernel_rfl) (fun _ _ _ h => h) (Or.inl ⟨by rfl, ?_⟩) ?_ ?_
  rotate_left
  · intro w'
    go_simp
    with_reducible rfl
  rotate_left
  · simp only [Act.put, sA, sZ, sS, i64_w, i32_w]
    rfl
  refine pure_ (i := 18) (N := some 60) (v := ?_) (a' := ?_) #[tT, tT, tT, tT, tT, tT, tT, tT, tT, tT, tT, tT, tT, tT, tT, tT, tT, tT, tT, fF, fF, fF, fF, fF, fF, fF, fF, fF, fF, fF, fF, fF, fF] rfl rfl (by kernel_rfl) (fun _ _ _ h => h) (Or.inl ⟨by rfl, ?_⟩) ?_ ?_
  rotate_left
  · intro w'
    go_simp
    with_reducible rfl
  rotate_left
  · simp only [Act.put, sA, sZ, sS, i64_w, i32_w]
    rfl
  refine take_ (i := 19) (N := some 61) (v := ?_) (a' := ?_) #[tT, tT, tT, tT, tT, tT, tT, tT, tT, tT, tT, tT, tT, tT, tT, tT, tT, tT, tT, tT, fF, fF, fF, fF, fF, fF, fF, fF, fF, fF, fF, fF, fF] rfl rfl (by kernel_rfl) (fun _ _ _ h => h) (Or.inl ⟨by rfl, ?_⟩) hHeld ?_ ?_
  rotate_left
  · rintro w' ⟨y0_, y1_, y2_, y3_, y4_, y5_, y6_, y7_, y8_, y9_, y10_, y11_, y12_, y13_, y14_, y15_, y16_, y17_, y18_, y19_, y20_, y21_, y22_, y23_, y24_⟩
    go_simp
    with_reducible rfl
  rotate_left
  · simp only [Act.put, sA, sZ, sS, i64_w, i32_w]
    rfl
  refine take_ (i := 20) (N := some 62) (v := ?_) (a' := ?_) #[tT, tT, tT, tT, tT, tT, tT, tT, tT, tT, tT, tT, tT, tT, tT, tT, tT, tT, tT, tT, tT, fF, fF, fF, fF, fF, fF, fF, fF, fF, fF, fF, fF] rfl rfl (by kernel_rfl) (fun _ _ _ h => h) (Or.inl ⟨by rfl, ?_⟩) hHeld ?_ ?_
  rotate_left
  · rintro w' ⟨y0_, y1_, y2_, y3_, y4_, y5_, y6_, y7_, y8_, y9_, y10_, y11_, y12_, y13_, y14_, y15_, y16_, y17_, y18_, y19_, y20_, y21_, y22_, y23_, y24_⟩
    go_simp
    with_reducible rfl
  rotate_left
  · simp only [Act.put, sA, sZ, sS, i64_w, i32_w]
    rfl
  refine take_ (i := 22) (N := some 64) (v := ?_) (a' := ?_) #[tT, tT, tT, tT, tT, tT, tT, tT, tT, tT, tT, tT, tT, tT, tT, tT, tT, tT, tT, tT, tT, fF, tT, fF, fF, fF, fF, fF, fF, fF, fF, fF, fF] rfl rfl (by kernel_rfl) (fun _ _ _ h => h) (Or.inl ⟨by rfl, ?_⟩) hHeld ?_ ?_
  rotate_left
  · rintro w' ⟨y0_, y1_, y2_, y3_, y4_, y5_, y6_, y7_, y8_, y9_, y10_, y11_, y12_, y13_, y14_, y15_, y16_, y17_, y18_, y19_, y20_, y21_, y22_, y23_, y24_⟩
    go_simp
    with_reducible rfl
  rotate_left
  · simp only [Act.put, sA, sZ, sS, i64_w, i32_w]
    rfl
  refine take_ (i := 23) (N := some 65) (v := ?_) (a' := ?_) #[tT, tT, tT, tT, tT, tT, tT, tT, tT, tT, tT, tT, tT, tT, tT, tT, tT, tT, tT, tT, tT, fF, tT, tT, fF, fF, fF, fF, fF, fF, fF, fF, fF] rfl rfl (by kernel_rfl) (fun _ _ _ h => h) (Or.inl ⟨by rfl, ?_⟩) hHeld ?_ ?_
  rotate_left
  · rintro w' ⟨y0_, y1_, y2_, y3_, y4_, y5_, y6_, y7_, y8_, y9_, y10_, y11_, y12_, y13_, y14_, y15_, y16_, y17_, y18_, y19_, y20_, y21_, y22_, y23_, y24_⟩
    go_simp
    with_reducible rfl
  rotate_left
  · simp only [Act.put, sA, sZ, sS, i64_w, i32_w]
    rfl
  refine one_ (i := 21) (N := some 63) #[tT, tT, tT, tT, tT, tT, tT, tT, tT, tT, tT, tT, tT, tT, tT, tT, tT, tT, tT, tT, tT, tT, tT, tT, fF, fF, fF, fF, fF, fF, fF, fF, fF] rfl rfl (by kernel_rfl) (by decide) (fun K hK => ?_)
  refine goes_ Tryz.func17 (by kernel_rfl) rfl #[.agg #[.int .i64 x.f0, .int .i64 x.f1, .string x.f2, .slice G3 x.f3.length g3, .slice G4 x.f4.length g4], .agg #[.int .i64 y.f0, .int .i64 y.f1, .string y.f2, .slice B3 y.f3.length e3, .slice B4 y.f4.length e4]] (by rfl) rfl rfl (by simp only [List.map_toArray, List.map_cons, List.map_nil]; rfl) ?_
  refine (HTE.out G3 g3 G4 g4 u1 HG9.out.1 HG9.out.2.2.1 (Kd.C_below HG9.out.2.1 b9d) (Kd.C_below HG9.out.2.2.2 b9d) (Kd.C_below HY9.out.1 b9d) (Kd.C_below HY9.out.2 b9d)).mono ?_
  rintro e u2 ⟨rfl, hbu2⟩
  refine ⟨_, rfl, ?_⟩
  replace z0 := cell_below' hbu2 z0
  replace z1 := cell_below' hbu2 z1
  replace z2 := cell_below' hbu2 z2
  replace z3 := cell_below' hbu2 z3
  replace z4 := cell_below' hbu2 z4
  replace z5 := cell_below' hbu2 z5
  replace z6 := cell_below' hbu2 z6
  replace z7 := cell_below' hbu2 z7
  replace z8 := cell_below' hbu2 z8
  replace z9 := cell_below' hbu2 z9
  replace z10 := cell_below' hbu2 z10
  replace z11 := cell_below' hbu2 z11
  replace z12 := cell_below' hbu2 z12
  replace z13 := cell_below' hbu2 z13
  replace z14 := cell_below' hbu2 z14
  replace z15 := cell_below' hbu2 z15
  replace z16 := cell_below' hbu2 z16
  replace z17 := cell_below' hbu2 z17
  replace z18 := cell_below' hbu2 z18
  replace z19 := cell_below' hbu2 z19
  replace z20 := cell_below' hbu2 z20
  replace z21 := cell_below' hbu2 z21
  replace z22 := cell_below' hbu2 z22
  replace z23 := cell_below' hbu2 z23
  replace z24 := cell_below' hbu2 z24
  refine hK.out _ _ ⟨z0, z1, z2, z3, z4, z5, z6, z7, z8, z9, z10, z11, z12, z13, z14, z15, z16, z17, z18, z19, z20, z21, z22, z23, z24⟩ fun hHeld => ?_
  clear hK K
  replace b9d := b9d.trans (hbu2.mono b9d.size)
  refine one_ (i := 24) (N := some 66) #[tT, tT, tT, tT, tT, tT, tT, tT, tT, tT, tT, tT, tT, tT, tT, tT, tT, tT, tT, tT, tT, tT, tT, tT, tT, fF, fF, fF, fF, fF, fF, fF, fF] rfl rfl (by kernel_rfl) (by decide) (fun K hK => ?_)
  refine goes_ Tryz.func18 (by kernel_rfl) rfl #[.agg #[.int .i64 x.f0, .int .i64 x.f1, .string x.f2, .slice A3 x.f3.length c3, .slice A4 x.f4.length c4], .agg #[.int .i64 y.f0, .int .i64 y.f1, .string y.f2, .slice B3 y.f3.length e3, .slice B4 y.f4.length e4]] (by rfl) rfl rfl (by simp only [List.map_toArray, List.map_cons, List.map_nil]; rfl) ?_
  refine (HRE.out u2 (Kd.C_below HX9.out.2.1 b9d) (Kd.C_below HX9.out.2.2.2 b9d) (Kd.C_below HY9.out.1 b9d) (Kd.C_below HY9.out.2 b9d) (HB9.out.trans (b9d.mono HB9.out.size))).mono ?_
  rintro e u3 ⟨rfl, hbu3⟩
  refine ⟨_, rfl, ?_⟩
  replace z0 := cell_below' hbu3 z0
  replace z1 := cell_below' hbu3 z1
  replace z2 := cell_below' hbu3 z2
  replace z3 := cell_below' hbu3 z3
  replace z4 := cell_below' hbu3 z4
  replace z5 := cell_below' hbu3 z5
  replace z6 := cell_below' hbu3 z6
  replace z7 := cell_below' hbu3 z7
  replace z8 := cell_below' hbu3 z8
  replace z9 := cell_below' hbu3 z9
  replace z10 := cell_below' hbu3 z10
  replace z11 := cell_below' hbu3 z11
  replace z12 := cell_below' hbu3 z12
  replace z13 := cell_below' hbu3 z13
  replace z14 := cell_below' hbu3 z14
  replace z15 := cell_below' hbu3 z15
  replace z16 := cell_below' hbu3 z16
  replace z17 := cell_below' hbu3 z17
  replace z18 := cell_below' hbu3 z18
  replace z19 := cell_below' hbu3 z19
  replace z20 := cell_below' hbu3 z20
  replace z21 := cell_below' hbu3 z21
  replace z22 := cell_below' hbu3 z22
  replace z23 := cell_below' hbu3 z23
  replace z24 := cell_below' hbu3 z24
  refine hK.out _ _ ⟨z0, z1, z2, z3, z4, z5, z6, z7, z8, z9, z10, z11, z12, z13, z14, z15, z16, z17, z18, z19, z20, z21, z22, z23, z24⟩ fun hHeld => ?_
  clear hK K
  replace b9d := b9d.trans (hbu3.mono b9d.size)
  refine pure_ (i := 25) (N := some 67) (v := ?_) (a' := ?_) #[tT, tT, tT, tT, tT, tT, tT, tT, tT, tT, tT, tT, tT, tT, tT, tT, tT, tT, tT, tT, tT, tT, tT, tT, tT, tT, fF, fF, fF, fF, fF, fF, fF] rfl rfl (by kernel_rfl) (fun _ _ _ h => h) (Or.inl ⟨by rfl, ?_⟩) ?_ ?_
  rotate_left
  · intro w'
    go_simp
    with_reducible rfl
  rotate_left
  · simp only [Act.put, sA, sZ, sS, i64_w, i32_w]
    rfl
  refine pure_ (i := 26) (N := some 68) (v := ?_) (a' := ?_) #[tT, tT, tT, tT, tT, tT, tT, tT, tT, tT, tT, tT, tT, tT, tT, tT, tT, tT, tT, tT, tT, tT, tT, tT, tT, tT, tT, fF, fF, fF, fF, fF, fF] rfl rfl (by kernel_rfl) (fun _ _ _ h => h) (Or.inl ⟨by rfl, ?_⟩) ?_ ?_
  rotate_left
  · intro w'
    go_simp
    with_reducible rfl
  rotate_left
  · simp only [Act.put, sA, sZ, sS, i64_w, i32_w]
    rfl
  refine pure_ (i := 27) (N := some 69) (v := ?_) (a' := ?_) #[tT, tT, tT, tT, tT, tT, tT, tT, tT, tT, tT, tT, tT, tT, tT, tT, tT, tT, tT, tT, tT, tT, tT, tT, tT, tT, tT, tT, fF, fF, fF, fF, fF] rfl rfl (by kernel_rfl) (fun _ _ _ h => h) (Or.inl ⟨by rfl, ?_⟩) ?_ ?_
  rotate_left
  · intro w'
    go_simp
    with_reducible rfl
  rotate_left
  · simp only [Act.put, sA, sZ, sS, i64_w, i32_w]
    rfl
  refine take_ (i := 28) (N := some 70) (v := ?_) (a' := ?_) #[tT, tT, tT, tT, tT, tT, tT, tT, tT, tT, tT, tT, tT, tT, tT, tT, tT, tT, tT, tT, tT, tT, tT, tT, tT, tT, tT, tT, tT, fF, fF, fF, fF] rfl rfl (by kernel_rfl) (fun _ _ _ h => h) (Or.inl ⟨by rfl, ?_⟩) hHeld ?_ ?_
  rotate_left
  · rintro w' ⟨y0_, y1_, y2_, y3_, y4_, y5_, y6_, y7_, y8_, y9_, y10_, y11_, y12_, y13_, y14_, y15_, y16_, y17_, y18_, y19_, y20_, y21_, y22_, y23_, y24_⟩
    go_simp
    with_reducible rfl
  rotate_left
  · simp only [Act.put, sA, sZ, sS, i64_w, i32_w]
    rfl
  refine take_ (i := 29) (N := some 71) (v := ?_) (a' := ?_) #[tT, tT, tT, tT, tT, tT, tT, tT, tT, tT, tT, tT, tT, tT, tT, tT, tT, tT, tT, tT, tT, tT, tT, tT, tT, tT, tT, tT, tT, tT, fF, fF, fF] rfl rfl (by kernel_rfl) (fun _ _ _ h => h) (Or.inl ⟨by rfl, ?_⟩) hHeld ?_ ?_
  rotate_left
  · rintro w' ⟨y0_, y1_, y2_, y3_, y4_, y5_, y6_, y7_, y8_, y9_, y10_, y11_, y12_, y13_, y14_, y15_, y16_, y17_, y18_, y19_, y20_, y21_, y22_, y23_, y24_⟩
    go_simp
    with_reducible rfl
  rotate_left
  · simp only [Act.put, sA, sZ, sS, i64_w, i32_w]
    rfl
  refine one_ (i := 30) (N := some 72) #[tT, tT, tT, tT, tT, tT, tT, tT, tT, tT, tT, tT, tT, tT, tT, tT, tT, tT, tT, tT, tT, tT, tT, tT, tT, tT, tT, tT, tT, tT, tT, fF, fF] rfl rfl (by kernel_rfl) (by decide) (fun K hK => ?_)
  refine goes_ Tryz.func10 (by kernel_rfl) rfl #[.agg #[.int .i64 x.f0, .int .i64 x.f1, .string x.f2, .slice G3 x.f3.length g3, .slice G4 x.f4.length g4], .agg #[.int .i64 x.f0, .int .i64 x.f1, .string x.f2, .slice A3 x.f3.length c3, .slice A4 x.f4.length c4]] (by rfl) rfl rfl (by simp only [List.map_toArray, List.map_cons, List.map_nil]; rfl) ?_
  refine (assizeref02_Same.calls ks x.f0 x.f1 x.f2 G3 g3 x.f3 G4 g4 x.f4 x.f0 x.f1 x.f2 A3 c3 x.f3 A4 c4 x.f4 true u3 (Kd.C_below HG9.out.2.1 b9d) HG9.out.1 (Kd.C_below HG9.out.2.2.2 b9d) HG9.out.2.2.1 (Kd.C_below HX9.out.2.1 b9d) HX9.out.1 (Kd.C_below HX9.out.2.2.2 b9d) HX9.out.2.2.1 HSX.out).mono ?_
  rintro e u4 ⟨rfl, hbu4⟩
  refine ⟨_, rfl, ?_⟩
  replace z0 := cell_below' hbu4 z0
  replace z1 := cell_below' hbu4 z1
  replace z2 := cell_below' hbu4 z2
  replace z3 := cell_below' hbu4 z3
  replace z4 := cell_below' hbu4 z4
  replace z5 := cell_below' hbu4 z5
  replace z6 := cell_below' hbu4 z6
  replace z7 := cell_below' hbu4 z7
  replace z8 := cell_below' hbu4 z8
  replace z9 := cell_below' hbu4 z9
  replace z10 := cell_below' hbu4 z10
  replace z11 := cell_below' hbu4 z11
  replace z12 := cell_below' hbu4 z12
  replace z13 := cell_below' hbu4 z13
  replace z14 := cell_below' hbu4 z14
  replace z15 := cell_below' hbu4 z15
  replace z16 := cell_below' hbu4 z16
  replace z17 := cell_below' hbu4 z17
  replace z18 := cell_below' hbu4 z18
  replace z19 := cell_below' hbu4 z19
  replace z20 := cell_below' hbu4 z20
  replace z21 := cell_below' hbu4 z21
  replace z22 := cell_below' hbu4 z22
  replace z23 := cell_below' hbu4 z23
  replace z24 := cell_below' hbu4 z24
  refine hK.out _ _ ⟨z0, z1, z2, z3, z4, z5, z6, z7, z8, z9, z10, z11, z12, z13, z14, z15, z16, z17, z18, z19, z20, z21, z22, z23, z24⟩ fun hHeld => ?_
  clear hK K
  replace b9d := b9d.trans (hbu4.mono b9d.size)
  refine pure_ (i := 31) (N := some 73) (v := ?_) (a' := ?_) #[tT, tT, tT, tT, tT, tT, tT, tT, tT, tT, tT, tT, tT, tT, tT, tT, tT, tT, tT, tT, tT, tT, tT, tT, tT, tT, tT, tT, tT, tT, tT, tT, fF] rfl rfl (by kernel_rfl) (fun _ _ _ h => h) (Or.inl ⟨by rfl, ?_⟩) ?_ ?_
  rotate_left
  · intro w'
    go_simp
    with_reducible rfl
  rotate_left
  · simp only [Act.put, sA, sZ, sS, i64_w, i32_w]
    rfl
  refine pure_ (i := 32) (N := some 6) (v := ?_) (a' := ?_) #[tT, tT, tT, tT, tT, tT, tT, tT, tT, tT, tT, tT, tT, tT, tT, tT, tT, tT, tT, tT, tT, tT, tT, tT, tT, tT, tT, tT, tT, tT, tT, tT, tT] rfl rfl (by kernel_rfl) (fun _ _ _ h => h) (Or.inl ⟨by rfl, ?_⟩) ?_ ?_
  rotate_left
  · intro w'
    go_simp
    with_reducible rfl
  rotate_left
  · simp only [Act.put, sA, sZ, sS, i64_w, i32_w]
    rfl
  refine done_ (by kernel_rfl) ?_
  go_wp2
  go_ret
  exact ⟨rfl, HB9.out.trans (b9d.mono HB9.out.size)⟩
end Go.Proofs.YtegppkngdkkdcaaGreatDoor.Tr
end
section
set_option linter.unusedVariables false
set_option linter.unusedSimpArgs false
namespace Go.Proofs.YtegppkngdkkdcaaGreatDoor.Tr
open Go.ChangeShapes Go.WideShapes Go.ChangeAt Go.RowKit
open Go.Proofs.YtegppkngdkkdcaaGreatDoor.Opn Go.Proofs.YtegppkngdkkdcaaGreatDoorW.PrintWords
open Go.Proofs.YtegppkngdkkdcaaGreatDoor.Lx Go.Proofs.YtegppkngdkkdcaaGreatDoor.PS
section
variable {H : Type} {enc : TypeId × Value → H} {W : World} {base : Nat} {sp : Nat → Bool} {held : Bool} {v : Value} {x : DataW H} {ps : List MemPlace}
theorem arg_valA (h : DataW.Trod enc Tryz.prog W base sp held 26 v x ps) (hb : Rows.uptoBulk x ≤ 1048576) :
    ∃ (p : V) (A3 : Option Addr) (c3 : Nat) (A4 : Option Addr) (c4 : Nat), v = vArg p A3 c3 A4 c4 ∧ p.f3.length ≤ c3 ∧ k26.C W A3 p.f3.length p.f3 ∧ p.f4.length ≤ c4 ∧ Kd.string.C W A4 p.f4.length p.f4 ∧ fitsA p ∧ numsR 8 p ∧ (writeD 8 p).length ≤ 10000000000000 := by
  obtain ⟨fuel, h⟩ := h
  obtain ⟨p, hK, hO⟩ := opens_val enc W base sp held fuel fuel _ _ (Nat.le_refl _) h
  obtain ⟨A3, c3, A4, c4, he, l3, g3, l4, g4⟩ := k26_open hK
  have h8 := hO 8
  simp only at h8
  have hw := writeD_bound 8 p h8.1
  refine ⟨p, A3, c3, A4, c4, ?_, l3, g3, l4, g4, fun d => fits_of d p (Nat.le_trans (hO d).2 hb), h8.1, by omega⟩
  cases v with
  | agg cs =>
    unfold vArg
    congr 1
    exact Array.ext' he
  | _ => simp [Value.cells] at he
end
theorem bulk_3 {H : Type} {a b c : DataW H} (h : Rows.uptoSmall H ([a, b, c] ++ []) = true) : Rows.uptoBulk a ≤ 1048576 ∧ Rows.uptoBulk b ≤ 1048576 ∧ Rows.uptoBulk c ≤ 1048576 := by
  simp [Rows.uptoSmall, Rows.uptoBulkAll] at h
  omega
end Go.Proofs.YtegppkngdkkdcaaGreatDoor.Tr
end
section
set_option linter.unusedVariables false
set_option linter.unusedSimpArgs false
namespace Go.Proofs.YtegppkngdkkdcaaGreatDoor.TreePrintsC
open Go.ChangeShapes Go.WideShapes Go.ChangeAt Go.RowKit
open Go.Proofs.YtegppkngdkkdcaaGreatDoor.Opn Go.Proofs.YtegppkngdkkdcaaGreatDoor.Lx Go.Proofs.YtegppkngdkkdcaaGreatDoor.Tr
set_option maxRecDepth 100000 in
theorem contract (H : Type) (enc : TypeId × Value → H) (W : World) (base : Nat) (args : Array Value) (ds gs : List (DataW H)) (before : List MemPlace)
    (hval : ∀ (j : Nat) t v, Tryz.f5.params[j]? = some t → args[j]? = some v → Value.okWide Tryz.prog W .any base t v)
    (hW : DataW.Whole enc Tryz.prog Tryz.f5.params.toList Rows.treePrintsSpec.vars false W args.toList ds gs before) (hL : laidMetH Tryz.prog Rows.treePrintsUptoRow.laid W) (hsh : W.ShapedOpen Tryz.prog) (hk : Rows.uptoSmall H (ds ++ gs) = true) :
    Calls Tryz.prog 5 args W fun e W' => ∃ v, e = .returned v ∧ Rows.treePrintsSpec.post enc Tryz.prog Tryz.f5 false true false false W args v W' := by
  have hW' := hW
  obtain ⟨p, q, hA0, hV, rfl, hfz, hnd⟩ := hW
  have hA : DataW.TrodAll enc Tryz.prog W 0 (fun _ => true) true Tryz.f5.params.toList args.toList ds p := hA0
  rw [Tryz.params5] at hA hval
  obtain ⟨v0, vs0, d0, ds0, p0, q0, hargs, rfl, rfl, h0, r0⟩ := trodAll_cons hA
  obtain ⟨v1, vs1, d1, ds1, p1, q1, rfl, rfl, rfl, h1, r1⟩ := trodAll_cons r0
  obtain ⟨v2, vs2, d2, ds2, p2, q2, rfl, rfl, rfl, h2, r2⟩ := trodAll_cons r1
  obtain ⟨rfl, rfl, rfl⟩ := trodAll_nil r2
  obtain rfl : args = #[v0, v1, v2] := by cases args; simp_all
  obtain ⟨rfl, rfl⟩ := trodVars_none hV
  obtain ⟨b0, b1, b2⟩ := bulk_3 hk
  obtain ⟨x0, A0, c0, B0, e0, rfl, m0, g0, n0, k0, fx0, nx0, hw0⟩ := arg_valA h0 b0
  obtain ⟨x1, A1, c1, B1, e1, rfl, m1, g1, n1, k1, fx1, nx1, hw1⟩ := arg_valA h1 b1
  obtain ⟨s2, rfl, hs2⟩ := arg_text (hval 2 _ v2 rfl rfl) h2
  have LWH : LW W := lw_of rfl hL (by simp [Rows.treePrintsUptoRow]) (by simp [Rows.treePrintsUptoRow]) (by simp [Rows.treePrintsUptoRow]) (by simp [Rows.treePrintsUptoRow])
  refine (TreePrints_at x0 x1 s2 A0 c0 B0 e0 A1 c1 B1 e1 W fx0 fx1 nx0 nx1 m0 m1 n0 n1 g0 k0 g1 k1 hw0 hw1 LWH).mono ?_
  rintro e W' ⟨rfl, hb⟩
  exact ⟨_, rfl, post_true hW' (by kernel_rfl) rfl rfl (by kernel_rfl) hb⟩
def zeroArgs : Array Value := #[.agg #[.int .i64 0, .int .i64 0, .string ⟨#[]⟩, .slice none 0 0, .slice none 0 0], .agg #[.int .i64 0, .int .i64 0, .string ⟨#[]⟩, .slice none 0 0, .slice none 0 0], .string ⟨#[]⟩]
theorem door_met (os : Os) : laidMetH Tryz.prog Rows.treePrintsUptoRow.laid ((World.doorLaid Tryz.prog 4000 os).forCall (fun _ _ => 0) ⟨#[], zeroArgs, []⟩).memory :=
  laidMetH_of_parts3 (fuel := 8) (laidMet_of_run' 8 (by kernel_rfl) (by kernel_rfl)) (by kernel_rfl) (by kernel_rfl)
theorem reads (os : Os) {H : Type} (enc : TypeId × Value → H) : ∃ places, DataW.whole enc Tryz.prog ((World.doorLaid Tryz.prog 4000 os).forCall (fun _ _ => 0) ⟨#[], zeroArgs, []⟩).memory Tryz.f5.params.toList Rows.treePrintsSpec.vars false zeroArgs.toList 8 = some ([.agg [.lit (.int .i64 0), .lit (.int .i64 0), .lit (.string []), .nil, .nil], .agg [.lit (.int .i64 0), .lit (.int .i64 0), .lit (.string []), .nil, .nil], .lit (.string [])], [], places) :=
  ⟨[], by kernel_rfl⟩
set_option maxRecDepth 100000 in
theorem liftedUpto (os : Os) (started : os.Started) (H : Type) (enc : TypeId × Value → H) (F : Stop.Interp) :
    ReturnsInHanded {} Tryz.checked os 5 .any ((Rows.OpenSpec.upto Rows.treePrintsSpec).preRow enc Tryz.prog Tryz.f5 Rows.treePrintsUptoRow.domain false Rows.treePrintsUptoRow.laid) (((Rows.OpenSpec.upto Rows.treePrintsSpec).at F).post enc Tryz.prog Tryz.f5 false true false false) := by
  obtain ⟨places, hx⟩ := reads os enc
  refine returnsInHanded_of_row (C := Tryz.checked) (s := Rows.OpenSpec.upto Rows.treePrintsSpec) own started (by kernel_rfl) Tryz.func5
    (witness_row_at (enc := enc) (C := Tryz.checked) false (World.doorLaid Tryz.prog 4000 os) zeroArgs rfl (by kernel_rfl) (by kernel_rfl) (by kernel_rfl)
      (OpenSpec.preRow_of_cond 8 hx (by kernel_rfl) (fun k hk => by cases hk; kernel_rfl) (by kernel_rfl) (door_met os))) ?_
  intro W base args ds gs before hval hW _ hcond _ hL hsh _
  exact contract H enc W base args ds gs before hval hW hL hsh (hcond _ rfl)
theorem saidUpto : Rows.TreePrintsUptoSaid :=
  OpenClaim.holds_of_cond 5 Tryz.f5 rfl rfl rfl rfl rfl rfl rfl ⟨rfl, rfl, rfl, rfl, rfl⟩ rfl rfl rfl rfl rfl (by kernel_rfl) Tryz.func5 (by kernel_rfl)
    (of_decide_eq_true (by kernel_rfl)) (by unfold Func.isWrapper; first | (rw [if_pos (by decide +kernel)]; kernel_rfl) | (rw [if_neg (by decide +kernel)]; exact ⟨rfl, rfl⟩))
    (fun os started H enc _ F => by rw [OpenClaim.pre_eq_preRow]; exact liftedUpto os started H enc F)
theorem plain (f : FuncId) (fn : Func) (hf : Tryz.pinned.checked.prog.funcNamed "assize/assizelaw02.TreePrints" = some f) (hfn : Tryz.pinned.checked.prog.funcs[f]? = some fn) :
    true = Tryz.pinned.checked.prog.looks [] ∧ ∀ (j : Nat) t, fn.params[j]? = some t → Tryz.pinned.checked.prog.wantsStandIn t = false := by
  obtain rfl : f = 5 := Option.some.inj ((show Tryz.prog.funcNamed "assize/assizelaw02.TreePrints" = some 5 by kernel_rfl).symm.trans hf) |>.symm
  obtain rfl : fn = Tryz.f5 := (Option.some.inj (Tryz.func5.symm.trans hfn)).symm
  refine ⟨by kernel_rfl, fun j t ht => ?_⟩
  have hall : (Tryz.f5.params.toList.all fun t => !Tryz.prog.wantsStandIn t) = true := by kernel_rfl
  have hm : t ∈ Tryz.f5.params.toList := Array.mem_toList_iff.2 (Array.mem_of_getElem? ht)
  have : Tryz.prog.wantsStandIn t = false := by simpa using List.all_eq_true.1 hall t hm
  exact this
theorem cardUpto : Rows.TreePrintsUptoCardSaid :=
  Claim7.holds_tied_plain_at .later [] _ _ _ _ saidUpto (fun _ h => by cases h) (by kernel_rfl) (fun _ h => by cases h) treePrintsUpto_row_tie rfl ⟨rfl, rfl⟩ (by kernel_rfl) rfl plain (by kernel_rfl)
end Go.Proofs.YtegppkngdkkdcaaGreatDoor.TreePrintsC
namespace Go.Proofs.YtegppkngdkkdcaaGreatDoor
theorem treePrints_card : Rows.TreePrintsUptoCardSaid := TreePrintsC.cardUpto
end Go.Proofs.YtegppkngdkkdcaaGreatDoor
end
