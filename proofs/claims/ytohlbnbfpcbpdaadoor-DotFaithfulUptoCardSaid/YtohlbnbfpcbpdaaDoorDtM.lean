/- dot: DotFaithful: the plain law. -/
import Derived.Test.YtohlbnbfpcbpdaaDoorPSxF
import Derived.Test.YtohlbnbfpcbpdaaDoorDtL
set_option linter.unusedVariables false
set_option linter.unusedSimpArgs false
namespace Go.Proofs.YtohlbnbfpcbpdaaDoor.PS
open Go.RowKit Go.Proofs.YtohlbnbfpcbpdaaDoorW.PrintWords Go.Proofs.YtohlbnbfpcbpdaaDoorW.PrintLast Go.Proofs.YtohlbnbfpcbpdaaDoorW.PrintMore
open Go.Proofs.YtohlbnbfpcbpdaaDoor.Lx Go.Proofs.YtohlbnbfpcbpdaaDoor.Dt

theorem mark_loop (l b : List S34) (hs : ∀ k, l.length < k → assizeref06_SameEdges.f k b l = some true) : ∀ (n k i : Nat) (a : List S34), n = a.length - i → i ≤ a.length → a.length ≤ 262144 → n + l.length + 1 < k → assizelaw23_DotFaithful.l0 k l a b (i : Int) = some true
  | 0, k + 1, i, a, hn, hi, ha, hk => by
    simp only [assizelaw23_DotFaithful.l0]
    rw [if_neg (by omega), hs k (by omega)]
    rfl
  | n + 1, k + 1, i, a, hn, hi, ha, hk => by
    simp only [assizelaw23_DotFaithful.l0]
    rw [if_pos (by omega), if_pos (by omega), Int.toNat_natCast, w64 _ (by omega) (by omega)]
    exact mark_loop l b hs n k (i + 1) _ (by rw [List.length_set]; omega) (by rw [List.length_set]; omega) (by rw [List.length_set]; exact ha) (by omega)
theorem DotFaithful_pure (l0 : List ByteArray) (l1 : List S34) (hn : namesOk l0 = true) (h1 : edsOk l1 = true) (hl1 : l1.length ≤ 1048576) : assizelaw23_DotFaithful.f KK l0 l1 = some true := by
  unfold assizelaw23_DotFaithful.f
  rw [alive_pure, Option.bind_some, if_pos rfl, Print_f KK hn h1, Option.bind_some]
  simp only
  by_cases h : (printR (lists l0) (l1.map toE)).2 = 0
  · rw [if_pos h]
    have hp : printR (lists l0) (l1.map toE) = ((printR (lists l0) (l1.map toE)).1, 0) := by rw [← h]
    have hr := read_of_print hp
    have hsz := print_size h
    have hlen : l1.length ≤ 262144 := by
      rcases printR_cases (lists l0) (l1.map toE) with ⟨q, _⟩ | ⟨_, hl, _⟩
      · exact absurd h q
      · rwa [List.length_map] at hl
    rw [Read_f KK hn (by rw [size_B]; omega), data_B, hr]
    simp only [Option.bind_some]
    rw [map_ofE_toE, if_pos trivial, if_pos trivial, same_pure l1 (by omega) KK (by unfold KK; omega), Option.bind_some]
    have e : KK = 1499999 + 1 := rfl
    rw [e]
    simp only [assizelaw23_DotFaithful.j0]
    rw [if_neg (by decide)]
    exact mark_loop l1 l1 (fun k hk => same_pure l1 (by omega) k hk) l1.length 1499999 0 l1 (by omega) (by omega) hlen (by omega)
  · rw [if_neg h]
    rcases printR_cases (lists l0) (l1.map toE) with ⟨_, q⟩ | ⟨_, _, o, _, he⟩
    · rw [q, toL_B]
      rfl
    · rw [he] at h
      exact absurd rfl h
end Go.Proofs.YtohlbnbfpcbpdaaDoor.PS
