/- dot: bit, word, node: the walks. -/
import Derived.Test.YtohlbnbfpcbpdaaDoorDtB
set_option linter.unusedVariables false
set_option linter.unusedSimpArgs false
namespace Go.Proofs.YtohlbnbfpcbpdaaDoor.Dt
open Go.RowKit Go.Proofs.YtohlbnbfpcbpdaaDoorW.PrintWords Go.Proofs.YtohlbnbfpcbpdaaDoorW.PrintLast Go.Proofs.YtohlbnbfpcbpdaaDoorW.PrintMore
open Go.Proofs.YtohlbnbfpcbpdaaDoor.Lx

def nodeD (n : Int) : Bool := decide (0 ≤ n) && decide (n < 64)
theorem node_calls (n : Int) (hn : -9223372036854775808 ≤ n ∧ n ≤ 9223372036854775807) (w : World) : Calls Tryd.prog 18 #[.int .i64 n] w fun e w' => e = .returned (.bool (nodeD n)) ∧ w' = w := by
  unfold nodeD
  by_cases h1 : 0 ≤ n
  · by_cases h2 : n < 64
    · rw [decide_eq_true h1, decide_eq_true h2]
      go_enter Tryd.func18, Tryd.ntmps18
      go_wp2
      go_ret
      exact ⟨rfl, rfl⟩
    · rw [decide_eq_true h1, decide_eq_false h2]
      go_enter Tryd.func18, Tryd.ntmps18
      go_wp2
      go_ret
      exact ⟨rfl, rfl⟩
  · rw [decide_eq_false h1]
    go_enter Tryd.func18, Tryd.ntmps18
    go_wp2
    go_ret
    exact ⟨rfl, rfl⟩
theorem word_calls (b : Nat) (hb : b < 5) (w : World) : Calls Tryd.prog 19 #[.int .i64 (b : Int)] w fun e w' => e = .returned (.string ⟨(kw b).toArray⟩) ∧ w' = w := by
  have h : b = 0 ∨ b = 1 ∨ b = 2 ∨ b = 3 ∨ b = 4 := by omega
  clear hb
  rcases h with rfl | rfl | rfl | rfl | rfl
  all_goals
    go_enter Tryd.func19, Tryd.ntmps19
    go_wp2
    go_ret
    exact ⟨rfl, rfl⟩
def bitI (k : Int) : Int := match bitOf k with
  | some b => (b : Int)
  | none => -1
theorem bitI_pow (j : Nat) (h : j < 5) : bitI ((2 : Int) ^ j) = j := by
  have h : j = 0 ∨ j = 1 ∨ j = 2 ∨ j = 3 ∨ j = 4 := by omega
  rcases h with rfl | rfl | rfl | rfl | rfl <;> rfl
theorem bitI_none (k : Int) (h : ∀ j, j < 5 → k ≠ (2 : Int) ^ j) : bitI k = -1 := by
  have h0 : k ≠ 1 := h 0 (by decide)
  have h1 : k ≠ 2 := h 1 (by decide)
  have h2 : k ≠ 4 := h 2 (by decide)
  have h3 : k ≠ 8 := h 3 (by decide)
  have h4 : k ≠ 16 := h 4 (by decide)
  unfold bitI bitOf
  rw [if_neg h0, if_neg h1, if_neg h2, if_neg h3, if_neg h4]
theorem bit_calls (k : Int) (hk : -9223372036854775808 ≤ k ∧ k ≤ 9223372036854775807) (w : World) : Calls Tryd.prog 17 #[.int .i64 k] w fun e w' => e = .returned (.int .i64 (bitI k)) ∧ w' = w := by
  obtain ⟨r, hr⟩ : ∃ r, r = bitI k := ⟨_, rfl⟩
  rw [← hr]
  have HR := Aside0.mk hr
  clear hr
  go_enter Tryd.func17, Tryd.ntmps17
  go_wp2
  go_loopg [4] 5 (fun kq v4 w2 => ∃ j : Nat, j + kq = 5 ∧ v4 = .int .i64 j ∧ Aside0 (w2 = w) ∧ Aside0 (∀ i, i < j → k ≠ (2 : Int) ^ i))
  case atStart => exact ⟨0, by omega, rfl, Aside0.mk rfl, Aside0.mk (fun i hi => by omega)⟩
  case round =>
    obtain ⟨j, hj, rfl, HW, HN⟩ := hrel
    have hj5 : j = 5 ∨ j = 0 ∨ j = 1 ∨ j = 2 ∨ j = 3 ∨ j = 4 := by omega
    rcases hj5 with rfl | hj5
    · go_wp2
      go_ret
      exact ⟨by rw [HR.out, bitI_none k HN.out]; rfl, HW.out⟩
    · obtain ⟨k1, rfl⟩ : ∃ m, gk = m + 1 := ⟨gk - 1, by omega⟩
      have HJ := Aside0.mk hj
      clear hj
      by_cases q : k = (2 : Int) ^ j
      · have HR2 := Aside0.mk (show r = j by rw [HR.out, q, bitI_pow j (by omega)])
        clear HR
        rcases hj5 with rfl | rfl | rfl | rfl | rfl
        all_goals
          have hq : (k == _) = true := beq_iff_eq.2 q
          simp only [Nat.reducePow, Int.reducePow, Int.pow_zero, Int.pow_one] at hq
          clear q
          go_wp2
          go_ret
          exact ⟨by rw [HR2.out]; rfl, HW.out⟩
      · obtain ⟨j1, hj1⟩ : ∃ j1, j1 = j + 1 := ⟨_, rfl⟩
        have HV := Aside0.mk hj1
        have HJ1 := Aside0.mk (show j1 + k1 = 5 by have := HJ.out; omega)
        have HN2 := Aside0.mk (show ∀ i, i < j1 → k ≠ (2 : Int) ^ i from fun i hi => by
          by_cases e : i = j
          · rw [e]; exact q
          · exact HN.out i (by omega))
        clear hj1
        rcases hj5 with rfl | rfl | rfl | rfl | rfl
        all_goals
          have hq : (k == _) = false := beq_eq_false_iff_ne.2 q
          simp only [Nat.reducePow, Int.reducePow, Int.pow_zero, Int.pow_one] at hq
          clear q
          go_wp2
          go_roundg k1
          case measure => omega
          case rel =>
            exact ⟨j1, HJ1.out, by rw [HV.out]; rfl, HW, HN2⟩
end Go.Proofs.YtohlbnbfpcbpdaaDoor.Dt
