/- Arguments of the page's laws: texts and lists of texts, with their bulk. -/
import Derived.Test.YtllgcpoljdjjnaaGreatLaw
import Derived.Test.YtllgcpoljdjjnaaGreatPagePrn
import Derived.JoinedCond
set_option linter.unusedVariables false
set_option linter.unusedSimpArgs false
namespace Go.Proofs.YtllgcpoljdjjnaaGreat.Pg
open Go.ChangeShapes Go.WideShapes Go.ChangeAt Go.RowKit
open Go.Proofs.YtllgcpoljdjjnaaGreat.Opn Go.Proofs.YtllgcpoljdjjnaaGreatW.PrintWords

set_option maxRecDepth 100000 in
theorem opens_texts : Opens 23 (Kd.slice 9 Kd.string) (fun xs => (∀ p, p ∈ xs → p.size ≤ maxLen) ∧ xs.length ≤ maxLen) (fun xs => (xs.map fun s => s.size + 1).sum + 1) := opens_slice Tryz.underlying23 (by kernel_rfl) (opens_string Tryz.underlying9)
theorem sum_sizes : ∀ l : List ByteArray, (l.map fun s => s.size + 1).sum = (l.map fun a : ByteArray => a.data.toList.length).sum + l.length
  | [] => rfl
  | a :: l => by
    have ih := sum_sizes l
    simp only [List.map_cons, List.sum_cons, List.length_cons] at ih ⊢
    have : a.size = a.data.toList.length := rfl
    omega
section
variable {H : Type} {enc : TypeId × Value → H} {W : World} {base : Nat} {sp : Nat → Bool} {held : Bool} {v : Value} {x : DataW H} {ps : List MemPlace} {r : Reach} {b0 : Nat}
set_option maxRecDepth 100000 in
theorem arg_text (hval : Value.okWide Tryz.prog W r b0 9 v) (h : DataW.Trod enc Tryz.prog W base sp held 9 v x ps) : ∃ s : ByteArray, v = .string s ∧ s.size + 1 ≤ Rows.uptoBulk x := by
  obtain ⟨s0, rfl⟩ := okWide_string Tryz.underlying9 hval
  obtain ⟨s, he, _, hs⟩ := open_arg (opens_string Tryz.underlying9) h
  have he' : Value.string s0 = .string s := by
    have : [Value.string s0] = [Value.string s] := he
    simpa using this
  cases he'
  exact ⟨_, rfl, hs⟩
set_option maxRecDepth 100000 in
theorem arg_texts (hval : Value.okWide Tryz.prog W r b0 23 v) (h : DataW.Trod enc Tryz.prog W base sp held 23 v x ps) :
    ∃ A c l, v = .slice A (l : List ByteArray).length c ∧ l.length ≤ c ∧ Kd.C Kd.string W A l.length l ∧ ((PS.lists l).map List.length).sum + l.length + 1 ≤ Rows.uptoBulk x := by
  obtain ⟨a, n, c, rfl⟩ := okWide_slice Tryz.underlying23 hval
  obtain ⟨l, ⟨A, c', he, hl, hC⟩, _, hs⟩ := open_arg opens_texts h
  have he' : Value.slice a n c = .slice A l.length c' := by simpa [Value.cells] using he
  cases he'
  have e := sum_sizes l
  refine ⟨_, _, l, rfl, hl, hC, ?_⟩
  have e2 : (PS.lists l).map List.length = l.map fun a : ByteArray => a.data.toList.length := by simp [PS.lists]
  rw [e2]
  omega
end
theorem bulk_1 {H : Type} {a : DataW H} (h : Rows.uptoSmall H ([a] ++ []) = true) : Rows.uptoBulk a ≤ 1048576 := by
  simp [Rows.uptoSmall, Rows.uptoBulkAll] at h
  omega
theorem bulk_2 {H : Type} {a b : DataW H} (h : Rows.uptoSmall H ([a, b] ++ []) = true) : Rows.uptoBulk a + Rows.uptoBulk b ≤ 1048576 := by
  simp [Rows.uptoSmall, Rows.uptoBulkAll] at h
  omega
theorem bulk_3 {H : Type} {a b c : DataW H} (h : Rows.uptoSmall H ([a, b, c] ++ []) = true) : Rows.uptoBulk a + Rows.uptoBulk b + Rows.uptoBulk c ≤ 1048576 := by
  simp [Rows.uptoSmall, Rows.uptoBulkAll] at h
  omega
end Go.Proofs.YtllgcpoljdjjnaaGreat.Pg
