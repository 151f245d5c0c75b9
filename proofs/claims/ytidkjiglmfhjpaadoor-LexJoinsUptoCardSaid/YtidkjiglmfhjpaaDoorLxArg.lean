/- What the rows of lex's laws list, and their arguments. -/
import Derived.Test.YtidkjiglmfhjpaaDoorLaw
import Derived.Test.YtidkjiglmfhjpaaDoorLexPrn
import Derived.JoinedCond
import Derived.LaidLaws
set_option linter.unusedVariables false
set_option linter.unusedSimpArgs false
namespace Go.Proofs.YtidkjiglmfhjpaaDoor.Lx
open Go.ChangeShapes Go.WideShapes Go.ChangeAt Go.RowKit
open Go.Proofs.YtidkjiglmfhjpaaDoor.Opn Go.Proofs.YtidkjiglmfhjpaaDoorW.PrintWords

theorem laid_at {P : Program} {W : World} {name : String} {g : Nat} {t : TypeId} (hg : P.globalNamed name = some g) (hty : (P.globals[g]?).map (·.type) = some t) :
    ∀ {laid : List (String × DataW Unit)} {ps : List MemPlace} {d : DataW Unit}, DataW.LaidVars P W laid ps → (name, d) ∈ laid → ∃ cs fuel p, W.var? P name = some cs ∧ DataW.trod (fun _ => ()) P W 0 (fun _ => true) false fuel t cs.toList = some (d, p)
  | [], _, _, _, h => by cases h
  | (nm, d0) :: r, ps, d, hL, h => by
    obtain ⟨g', t', cs, fuel, p, q, hg', ht', hvar, hdd, hrest, _⟩ := hL
    rcases List.mem_cons.1 h with e0 | h
    · cases e0
      obtain rfl := Option.some.inj (hg.symm.trans hg')
      obtain rfl := Option.some.inj (hty.symm.trans ht')
      exact ⟨cs, fuel, p, hvar, hdd⟩
    · exact laid_at hg hty hrest h
theorem var_cell {P : Program} {W : World} {name : String} {g : Nat} {cs : Array Value} (hg : P.globalNamed name = some g) (h : W.var? P name = some cs) (j : Nat) : W.cell? ⟨g, j, none⟩ = cs[j]? := by
  unfold World.var? at h
  rw [hg, Option.bind_some] at h
  unfold World.cell?
  cases hh : W.heap[g]? with
  | none => rw [hh] at h; cases h
  | some o =>
    rw [hh] at h
    cases o with
    | cells c t f => cases h; rfl
    | _ => cases h
theorem err_laid {W : World} {laid : List (String × DataW Unit)} {ps : List MemPlace} {name : String} {g : Nat} {tn : String} {d : DataW Unit} (hg : Tryd.prog.globalNamed name = some g) (hty : (Tryd.prog.globals[g]?).map (·.type) = some 55)
    (h : DataW.LaidVars Tryd.prog W laid ps) (hm : (name, .iface tn d) ∈ laid) : ∃ ev, W.cell? ⟨g, 0, none⟩ = some ev ∧ (ev = .nilIface ∨ ∃ te pe, ev = .iface te pe) := by
  obtain ⟨cs, fuel, p, hv, ht⟩ := laid_at hg hty h hm
  obtain ⟨_, u, v, hcs, _, _⟩ := iface_of_trod Tryd.underlying55 ht
  refine ⟨.iface u v, ?_, .inr ⟨_, _, rfl⟩⟩
  rw [var_cell hg hv]
  have : cs = #[.iface u v] := by
    apply Array.ext'
    exact hcs
  rw [this]
  rfl
def deB : List Int := [0, 1, 56, 2, 57, 49, 28, 3, 61, 58, 42, 50, 38, 29, 17, 4, 62, 47, 59, 36, 45, 43, 51, 22, 53, 39, 33, 30, 24, 18, 12, 5, 63, 55, 48, 27, 60, 41, 37, 16, 46, 35, 44, 21, 52, 32, 23, 11, 54, 26, 40, 15, 34, 20, 31, 10, 25, 14, 19, 9, 13, 8, 7, 6]
set_option maxRecDepth 100000 in
theorem lw_of {W : World} {laid : List (String × DataW Unit)} (hp : (laid.filter fun x => x.2.handleName?.isSome) = []) (h : laidMetH Tryd.prog laid W)
    (h1 : ("internal/strconv.uint64pow10", Rows.laid_internal_strconv_uint64pow10) ∈ laid) (h2 : ("math/bits.deBruijn64tab", Rows.laid_math_bits_deBruijn64tab) ∈ laid) (h3 : ("strconv.ErrRange", Rows.laid_strconv_ErrRange) ∈ laid) (h4 : ("strconv.ErrSyntax", Rows.laid_strconv_ErrSyntax) ∈ laid) : LW W := by
  unfold laidMetH at h
  rw [hp] at h
  obtain ⟨ps, hL, _⟩ := h
  refine ⟨⟨err_laid (name := "strconv.ErrSyntax") (by kernel_rfl) (by kernel_rfl) hL h4, err_laid (name := "strconv.ErrRange") (by kernel_rfl) (by kernel_rfl) hL h3⟩, ?_, ?_⟩
  · have ht : Lib.TabIs Tryd.prog W "math/bits.deBruijn64tab" .u8 deB := laid_mem (g := 5) (t := 114) (e := 5) (n := 64) (by kernel_rfl) (by kernel_rfl) Tryd.underlying114 Tryd.underlying5 (by kernel_rfl) (by kernel_rfl) hL ⟨_, h2, rfl⟩
    exact (var_cell (name := "math/bits.deBruijn64tab") (by kernel_rfl) ht 15).trans rfl
  · exact laid_mem (g := 0) (t := 92) (e := 80) (n := 20) (by kernel_rfl) (by kernel_rfl) Tryd.underlying92 Tryd.underlying80 (by kernel_rfl) (by kernel_rfl) hL ⟨_, h1, rfl⟩
section
variable {H : Type} {enc : TypeId × Value → H} {W : World} {base : Nat} {sp : Nat → Bool} {held : Bool} {v : Value} {x : DataW H} {ps : List MemPlace} {r : Reach} {b0 : Nat}
set_option maxRecDepth 100000 in
theorem arg_text (hval : Value.okWide Tryd.prog W r b0 9 v) (h : DataW.Trod enc Tryd.prog W base sp held 9 v x ps) : ∃ s : ByteArray, v = .string s ∧ s.size + 1 ≤ Rows.uptoBulk x := by
  obtain ⟨s0, rfl⟩ := okWide_string Tryd.underlying9 hval
  obtain ⟨s, he, _, hs⟩ := open_arg (opens_string Tryd.underlying9) h
  have he' : Value.string s0 = .string s := by
    have : [Value.string s0] = [Value.string s] := he
    simpa using this
  cases he'
  exact ⟨_, rfl, hs⟩
end
theorem bulk_1 {H : Type} {a : DataW H} (h : Rows.uptoSmall H ([a] ++ []) = true) : Rows.uptoBulk a ≤ 1048576 := by
  simp [Rows.uptoSmall, Rows.uptoBulkAll] at h
  omega
theorem bulk_2 {H : Type} {a b : DataW H} (h : Rows.uptoSmall H ([a, b] ++ []) = true) : Rows.uptoBulk a + Rows.uptoBulk b ≤ 1048576 := by
  simp [Rows.uptoSmall, Rows.uptoBulkAll] at h
  omega
end Go.Proofs.YtidkjiglmfhjpaaDoor.Lx
