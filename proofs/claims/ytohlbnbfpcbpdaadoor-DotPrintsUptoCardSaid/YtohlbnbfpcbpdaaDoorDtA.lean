/- What the rows of dot's laws list, and their arguments. -/
import Derived.Test.YtohlbnbfpcbpdaaDoorLaw
import Derived.Test.YtohlbnbfpcbpdaaDoorDotPrn
import Derived.JoinedCond
import Derived.LaidLaws
import Derived.Shelf.Vars
set_option linter.unusedVariables false
set_option linter.unusedSimpArgs false
namespace Go.Proofs.YtohlbnbfpcbpdaaDoor.Dt
open Go.ChangeShapes Go.WideShapes Go.ChangeAt Go.RowKit
open Go.Proofs.YtohlbnbfpcbpdaaDoor.Opn Go.Proofs.YtohlbnbfpcbpdaaDoorW.PrintWords
open Go.Proofs.YtohlbnbfpcbpdaaDoor.Lx Go.Proofs.YtohlbnbfpcbpdaaDoor.PS

theorem laid_at {P : Program} {W : World} {name : String} {g : Nat} {t : TypeId} (hg : P.globalNamed name = some g) (hty : (P.globals[g]?).map (·.type) = some t) :
    ∀ {laid : List (String × DataW Unit)} {ps : List MemPlace} {d : DataW Unit}, DataW.LaidVars P W laid ps → (name, d) ∈ laid → ∃ cs fuel p, W.var? P name = some cs ∧ DataW.trod (fun _ => ()) P W 0 (fun _ => true) false fuel t cs.toList = some (d, p)
  | [], _, _, _, h => by cases h
  | (nm, d0) :: r, ps, d, hL, h => by
    obtain ⟨g', t', cs, fuel, p, q, hg', ht', hvar, hdd, hrest, _⟩ := hL
    rcases List.mem_cons.1 h with e0 | h
    · cases e0
      obtain rfl := Option.some.inj (hg.symm.trans hg')
      obtain rfl := Option.some.inj (hty.symm.trans ht')
      exact ⟨cs, fuel, p, hvar, hdd⟩
    · exact laid_at hg hty hrest h
theorem var_cell {P : Program} {W : World} {name : String} {g : Nat} {cs : Array Value} (hg : P.globalNamed name = some g) (h : W.var? P name = some cs) (j : Nat) : W.cell? ⟨g, j, none⟩ = cs[j]? := by
  unfold World.var? at h
  rw [hg, Option.bind_some] at h
  unfold World.cell?
  cases hh : W.heap[g]? with
  | none => rw [hh] at h; cases h
  | some o =>
    rw [hh] at h
    cases o with
    | cells c t f => cases h; rfl
    | _ => cases h
theorem err_laid {W : World} {laid : List (String × DataW Unit)} {ps : List MemPlace} {name : String} {g : Nat} {tn : String} {d : DataW Unit} (hg : Tryd.prog.globalNamed name = some g) (hty : (Tryd.prog.globals[g]?).map (·.type) = some 44)
    (h : DataW.LaidVars Tryd.prog W laid ps) (hm : (name, .iface tn d) ∈ laid) : ∃ ev, W.cell? ⟨g, 0, none⟩ = some ev ∧ (ev = .nilIface ∨ ∃ te pe, ev = .iface te pe) := by
  obtain ⟨cs, fuel, p, hv, ht⟩ := laid_at hg hty h hm
  obtain ⟨_, u, v, hcs, _, _⟩ := iface_of_trod Tryd.underlying44 ht
  refine ⟨.iface u v, ?_, .inr ⟨_, _, rfl⟩⟩
  rw [var_cell hg hv]
  have : cs = #[.iface u v] := by
    apply Array.ext'
    exact hcs
  rw [this]
  rfl
def deB : List Int := [0, 1, 56, 2, 57, 49, 28, 3, 61, 58, 42, 50, 38, 29, 17, 4, 62, 47, 59, 36, 45, 43, 51, 22, 53, 39, 33, 30, 24, 18, 12, 5, 63, 55, 48, 27, 60, 41, 37, 16, 46, 35, 44, 21, 52, 32, 23, 11, 54, 26, 40, 15, 34, 20, 31, 10, 25, 14, 19, 9, 13, 8, 7, 6]
set_option maxRecDepth 100000 in
theorem lw_of {W : World} {laid : List (String × DataW Unit)} (hp : (laid.filter fun x => x.2.handleName?.isSome) = []) (h : laidMetH Tryd.prog laid W)
    (h1 : ("internal/strconv.uint64pow10", Rows.laid_internal_strconv_uint64pow10) ∈ laid) (h2 : ("math/bits.deBruijn64tab", Rows.laid_math_bits_deBruijn64tab) ∈ laid) (h3 : ("strconv.ErrRange", Rows.laid_strconv_ErrRange) ∈ laid) (h4 : ("strconv.ErrSyntax", Rows.laid_strconv_ErrSyntax) ∈ laid) : LW W := by
  unfold laidMetH at h
  rw [hp] at h
  obtain ⟨ps, hL, _⟩ := h
  refine ⟨⟨err_laid (name := "strconv.ErrSyntax") (by kernel_rfl) (by kernel_rfl) hL h4, err_laid (name := "strconv.ErrRange") (by kernel_rfl) (by kernel_rfl) hL h3⟩, ?_, ?_⟩
  · have ht : Lib.TabIs Tryd.prog W "math/bits.deBruijn64tab" .u8 deB := laid_mem (g := 5) (t := 123) (e := 5) (n := 64) (by kernel_rfl) (by kernel_rfl) Tryd.underlying123 Tryd.underlying5 (by kernel_rfl) (by kernel_rfl) hL ⟨_, h2, rfl⟩
    exact (var_cell (name := "math/bits.deBruijn64tab") (by kernel_rfl) ht 15).trans rfl
  · exact laid_mem (g := 1) (t := 101) (e := 92) (n := 20) (by kernel_rfl) (by kernel_rfl) Tryd.underlying101 Tryd.underlying92 (by kernel_rfl) (by kernel_rfl) hL ⟨_, h1, rfl⟩
theorem ml_of {W : World} (h : W.ShapedOpen Tryd.prog) : ML W := Go.Proofs.cell_of_shapedOpen_int (zero := #[.int .i64 0]) (t := 3) h (of_decide_eq_true (by kernel_rfl)) (by kernel_rfl) rfl (by kernel_rfl) (by kernel_rfl) Tryd.underlying3
set_option maxRecDepth 100000 in
theorem opens_ed : Opens 34 k34 (fun x => (((Lit.int .i64 x.f0).wf = true ∧ (Lit.int .i64 x.f1).wf = true) ∧ ((Lit.int .i64 x.f2).wf = true ∧ (Lit.int .i64 x.f3).wf = true))) (fun _ => 1) := by
  intro H enc w base sp held fuel cs x h
  obtain ⟨xs, n, _, rfl, hl, hlen, hf⟩ := DataW.trod_struct Tryd.underlying34 h
  match xs, hlen with
  | [y0, y1, y2, y3], _ =>
    have g0 := hf 0 _ rfl
    have g1 := hf 1 _ rfl
    have g2 := hf 2 _ rfl
    have g3 := hf 3 _ rfl
    have hl4 : cs.length = 4 := hl
    match cs, hl4 with
    | [c0, c1, c2, c3], _ =>
      obtain ⟨n0, e0, w0, s0⟩ := opens_int (k := .i64) (by kernel_rfl) enc w base sp held n _ _ g0
      obtain ⟨n1, e1, w1, s1⟩ := opens_int (k := .i64) (by kernel_rfl) enc w base sp held n _ _ g1
      obtain ⟨n2, e2, w2, s2⟩ := opens_int (k := .i64) (by kernel_rfl) enc w base sp held n _ _ g2
      obtain ⟨n3, e3, w3, s3⟩ := opens_int (k := .i64) (by kernel_rfl) enc w base sp held n _ _ g3
      have f0 : [c0] = [.int .i64 n0] := e0
      have f1 : [c1] = [.int .i64 n1] := e1
      have f2 : [c2] = [.int .i64 n2] := e2
      have f3 : [c3] = [.int .i64 n3] := e3
      cases f0
      cases f1
      cases f2
      cases f3
      exact ⟨⟨n0, n1, n2, n3⟩, k34_mk w ⟨n0, n1, n2, n3⟩, ⟨⟨w0, w1⟩, ⟨w2, w3⟩⟩, one_le _⟩
theorem sum_ge {α : Type} (f : α → Nat) : ∀ (l : List α) (x : α), x ∈ l → f x ≤ (l.map f).sum
  | y :: l, x, h => by
    rw [List.map_cons, List.sum_cons]
    rcases List.mem_cons.1 h with rfl | h
    · omega
    · have := sum_ge f l x h
      omega
theorem sum_len {α : Type} (f : α → Nat) (hf : ∀ x, 1 ≤ f x) : ∀ l : List α, l.length ≤ (l.map f).sum
  | [] => by simp
  | y :: l => by
    have := sum_len f hf l
    have := hf y
    rw [List.map_cons, List.sum_cons, List.length_cons]
    omega
theorem wf_i64 {n : Int} (h : (Lit.int .i64 n).wf = true) : intB n = true := by
  have := h
  simp only [Lit.wf, Bool.and_eq_true, decide_eq_true_eq] at this
  unfold intB
  rw [decide_eq_true (show -9223372036854775808 ≤ n from this.1), decide_eq_true (show n ≤ 9223372036854775807 from this.2)]
  rfl
section
variable {H : Type} {enc : TypeId × Value → H} {W : World} {base : Nat} {sp : Nat → Bool} {held : Bool} {v : Value} {x : DataW H} {ps : List MemPlace} {r : Reach} {b0 : Nat}
set_option maxRecDepth 100000 in
theorem arg_text (hval : Value.okWide Tryd.prog W r b0 9 v) (h : DataW.Trod enc Tryd.prog W base sp held 9 v x ps) : ∃ s : ByteArray, v = .string s ∧ s.size + 1 ≤ Rows.uptoBulk x := by
  obtain ⟨s0, rfl⟩ := okWide_string Tryd.underlying9 hval
  obtain ⟨s, he, _, hs⟩ := open_arg (opens_string Tryd.underlying9) h
  have he' : Value.string s0 = .string s := by
    have : [Value.string s0] = [Value.string s] := he
    simpa using this
  cases he'
  exact ⟨_, rfl, hs⟩
set_option maxRecDepth 100000 in
theorem arg_names (hval : Value.okWide Tryd.prog W r b0 22 v) (h : DataW.Trod enc Tryd.prog W base sp held 22 v x ps) (hb : Rows.uptoBulk x ≤ 1048576) :
    ∃ A c l, v = .slice A (l : List ByteArray).length c ∧ l.length ≤ c ∧ Kd.C Kd.string W A l.length l ∧ namesOk l = true := by
  obtain ⟨a, n, c, rfl⟩ := okWide_slice Tryd.underlying22 hval
  obtain ⟨l, ⟨A, c', he, hl, hC⟩, hok, hs⟩ := open_arg (opens_slice (d := Kd.string) Tryd.underlying22 (by kernel_rfl) (opens_string Tryd.underlying9)) h
  have he' : Value.slice a n c = .slice A l.length c' := by simpa [Value.cells] using he
  cases he'
  have h1 := sum_len (fun x : ByteArray => x.size + 1) (fun _ => by simp) l
  refine ⟨_, _, l, rfl, hl, hC, ?_⟩
  unfold namesOk
  rw [Bool.and_eq_true, decide_eq_true_eq, List.all_eq_true]
  refine ⟨by omega, fun y hy => ?_⟩
  have h2 := sum_ge (fun x : ByteArray => x.size + 1) l y hy
  rw [decide_eq_true_eq]
  have h3 : y.size + 1 ≤ (l.map fun x : ByteArray => x.size + 1).sum := h2
  omega
set_option maxRecDepth 100000 in
theorem arg_edges (hval : Value.okWide Tryd.prog W r b0 23 v) (h : DataW.Trod enc Tryd.prog W base sp held 23 v x ps) (hb : Rows.uptoBulk x ≤ 1048576) :
    ∃ A c l, v = .slice A (l : List S34).length c ∧ l.length ≤ c ∧ Kd.C k34 W A l.length l ∧ edsOk l = true ∧ l.length ≤ 1048576 := by
  obtain ⟨a, n, c, rfl⟩ := okWide_slice Tryd.underlying23 hval
  obtain ⟨l, ⟨A, c', he, hl, hC⟩, hok, hs⟩ := open_arg (opens_slice (d := k34) Tryd.underlying23 (by kernel_rfl) opens_ed) h
  have he' : Value.slice a n c = .slice A l.length c' := by simpa [Value.cells] using he
  cases he'
  have h1 := sum_len (fun _ : S34 => 1) (fun _ => by simp) l
  refine ⟨_, _, l, rfl, hl, hC, ?_, by omega⟩
  unfold edsOk
  rw [Bool.and_eq_true, decide_eq_true_eq, List.all_eq_true]
  refine ⟨by omega, fun y hy => ?_⟩
  obtain ⟨⟨w0, w1⟩, w2, w3⟩ := hok.1 y hy
  unfold edB
  rw [wf_i64 w0, wf_i64 w1, wf_i64 w2, wf_i64 w3]
  rfl
end
theorem bulk_2 {H : Type} {a b : DataW H} (h : Rows.uptoSmall H ([a, b] ++ []) = true) : Rows.uptoBulk a ≤ 1048576 ∧ Rows.uptoBulk b ≤ 1048576 := by
  simp [Rows.uptoSmall, Rows.uptoBulkAll] at h
  omega
theorem bulk_3 {H : Type} {a b c : DataW H} (h : Rows.uptoSmall H ([a, b, c] ++ []) = true) : Rows.uptoBulk a ≤ 1048576 ∧ Rows.uptoBulk b ≤ 1048576 ∧ Rows.uptoBulk c ≤ 1048576 := by
  simp [Rows.uptoSmall, Rows.uptoBulkAll] at h
  omega
end Go.Proofs.YtohlbnbfpcbpdaaDoor.Dt
