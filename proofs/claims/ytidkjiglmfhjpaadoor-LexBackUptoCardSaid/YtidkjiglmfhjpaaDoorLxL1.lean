/- LexTokens: the plain law. -/
import Derived.Test.YtidkjiglmfhjpaaDoorLxPB
set_option linter.unusedVariables false
set_option linter.unusedSimpArgs false
namespace Go.Proofs.YtidkjiglmfhjpaaDoor.PS
open Go.RowKit Go.Proofs.YtidkjiglmfhjpaaDoorW.PrintWords Go.Proofs.YtidkjiglmfhjpaaDoorW.PrintLast Go.Proofs.YtidkjiglmfhjpaaDoorW.PrintMore
open Go.Proofs.YtidkjiglmfhjpaaDoor.Lx

theorem alive_pure (k : Nat) : assizelaw01_alive.f k = some true := by kernel_rfl
theorem same_loop (l : List S33) (hl : l.length < 4611686018427387904) : ∀ (n k i : Nat), n = l.length - i → i ≤ l.length → n < k → assizelaw01_same.l0 k l l (i : Int) = some true
  | 0, k + 1, i, hn, hi, _ => by
    simp only [assizelaw01_same.l0]
    rw [if_neg (by omega)]
  | n + 1, k + 1, i, hn, hi, hk => by
    simp only [assizelaw01_same.l0]
    rw [if_pos (by omega), if_pos (by omega), if_pos (by omega), if_neg (by simp), w64 _ (by omega) (by omega)]
    exact same_loop l hl n k (i + 1) (by omega) (by omega) (by omega)
theorem same_pure (l : List S33) (hl : l.length < 4611686018427387904) (k : Nat) (hk : l.length < k) : assizelaw01_same.f k l l = some true := by
  unfold assizelaw01_same.f
  rw [if_pos rfl]
  exact same_loop l hl l.length k 0 (by omega) (by omega) hk
theorem toksR_len (l : List UInt8) : ∀ (f i : Nat) (acc ts : List Tk), toksR l f i acc = .inl ts → ts.length ≤ acc.length + f
  | 0, _, _, _, h => by cases h
  | f + 1, i, acc, ts, h => by
    rw [toksR] at h
    split at h
    · cases h
      omega
    · split at h
      · cases h
      · have := toksR_len l f _ _ ts h
        rw [List.length_append] at this
        simp at this
        omega
theorem tokensR_len (l : List UInt8) : (tokensR l).1.length ≤ 65537 := by
  unfold tokensR
  split
  · simp
  · split
    · rename_i ts h
      have := toksR_len l _ _ _ _ h
      simp at this ⊢
      omega
    · simp
theorem LexTokens_pure (a : ByteArray) : assizelaw01_LexTokens.f 300000 a = some true := by
  unfold assizelaw01_LexTokens.f
  rw [alive_pure, Option.bind_some, if_pos rfl, Tokens_pure a 300000 (by decide)]
  have hlen := tokensR_len a.data.toList
  unfold lex_Tokens.f
  rw [Option.bind_some, Option.bind_some, if_pos (by simp), same_pure _ (by rw [List.length_map]; omega) _ (by rw [List.length_map]; omega)]
  rfl
end Go.Proofs.YtidkjiglmfhjpaaDoor.PS
