/- A row of tokens as an argument. -/
import Derived.Test.YtidkjiglmfhjpaaDoorLxArg
import Derived.Test.YtidkjiglmfhjpaaDoorLxE
set_option linter.unusedVariables false
set_option linter.unusedSimpArgs false
namespace Go.Proofs.YtidkjiglmfhjpaaDoor.Lx
open Go.ChangeShapes Go.WideShapes Go.ChangeAt Go.RowKit
open Go.Proofs.YtidkjiglmfhjpaaDoor.Opn Go.Proofs.YtidkjiglmfhjpaaDoorW.PrintWords
open Go.Proofs.YtidkjiglmfhjpaaDoor.PS

set_option maxRecDepth 100000 in
theorem opens_tok : Opens 33 k33 (fun x => ((Lit.int .i64 x.f0).wf = true ∧ (Lit.int .i64 x.f2).wf = true)) (fun x => x.f1.size + 1) := by
  intro H enc w base sp held fuel cs x h
  obtain ⟨xs, n, _, rfl, hl, hlen, hf⟩ := DataW.trod_struct Tryd.underlying33 h
  match xs, hlen with
  | [y0, y1, y2, y3], _ =>
    have g0 := hf 0 _ rfl
    have g1 := hf 1 _ rfl
    have g2 := hf 2 _ rfl
    have g3 := hf 3 _ rfl
    have hl4 : cs.length = 4 := hl
    match cs, hl4 with
    | [c0, c1, c2, c3], _ =>
      obtain ⟨n0, e0, w0, s0⟩ := opens_int (k := .i64) (by kernel_rfl) enc w base sp held n _ _ g0
      obtain ⟨n1, e1, w1, s1⟩ := opens_string (by kernel_rfl) enc w base sp held n _ _ g1
      obtain ⟨n2, e2, w2, s2⟩ := opens_int (k := .i64) (by kernel_rfl) enc w base sp held n _ _ g2
      obtain ⟨n3, e3, w3, s3⟩ := opens_int (k := .i64) (by kernel_rfl) enc w base sp held n _ _ g3
      have f0 : [c0] = [.int .i64 n0] := e0
      have f1 : [c1] = [.string n1] := e1
      have f2 : [c2] = [.int .i64 n2] := e2
      have f3 : [c3] = [.int .i64 n3] := e3
      cases f0
      cases f1
      cases f2
      cases f3
      refine ⟨⟨n0, n1, n2, n3⟩, k33_mk w ⟨n0, n1, n2, n3⟩, ⟨w0, w2⟩, ?_⟩
      have hp := bulk_part (d := y1.1) (l := List.map (fun x => x.fst) [y0, y1, y2, y3]) (by simp)
      have s1' : n1.size + 1 ≤ Rows.uptoBulk y1.1 := s1
      simp only [Rows.uptoBulk]
      omega
theorem sum_ge (f : S33 → Nat) : ∀ (l : List S33) (x : S33), x ∈ l → f x ≤ (l.map f).sum
  | y :: l, x, h => by
    rw [List.map_cons, List.sum_cons]
    rcases List.mem_cons.1 h with rfl | h
    · omega
    · have := sum_ge f l x h
      omega
theorem sum_len (f : S33 → Nat) (hf : ∀ x, 1 ≤ f x) : ∀ l : List S33, l.length ≤ (l.map f).sum
  | [] => by simp
  | y :: l => by
    have := sum_len f hf l
    have := hf y
    rw [List.map_cons, List.sum_cons, List.length_cons]
    omega
theorem wf_i64 {n : Int} (h : (Lit.int .i64 n).wf = true) : -9223372036854775808 ≤ n ∧ n ≤ 9223372036854775807 := by
  have := h
  simp only [Lit.wf, Bool.and_eq_true, decide_eq_true_eq] at this
  exact ⟨this.1, this.2⟩
section
variable {H : Type} {enc : TypeId × Value → H} {W : World} {base : Nat} {sp : Nat → Bool} {held : Bool} {v : Value} {x : DataW H} {ps : List MemPlace} {r : Reach} {b0 : Nat}
set_option maxRecDepth 100000 in
theorem arg_toks (hval : Value.okWide Tryd.prog W r b0 23 v) (h : DataW.Trod enc Tryd.prog W base sp held 23 v x ps) (hb : Rows.uptoBulk x ≤ 1048576) :
    ∃ A c l, v = .slice A (l : List S33).length c ∧ l.length ≤ c ∧ Kd.C k33 W A l.length l ∧ ToksOk l := by
  obtain ⟨a, n, c, rfl⟩ := okWide_slice Tryd.underlying23 hval
  obtain ⟨l, ⟨A, c', he, hl, hC⟩, hok, hs⟩ := open_arg (opens_slice (d := k33) Tryd.underlying23 (by kernel_rfl) opens_tok) h
  have he' : Value.slice a n c = .slice A l.length c' := by simpa [Value.cells] using he
  cases he'
  have h1 := sum_len (fun x => x.f1.size + 1) (fun _ => by simp) l
  refine ⟨_, _, l, rfl, hl, hC, by omega, fun y hy => ?_⟩
  have h2 := sum_ge (fun x => x.f1.size + 1) l y hy
  obtain ⟨w0, w2⟩ := hok.1 y hy
  exact ⟨wf_i64 w0, wf_i64 w2, by have h3 : y.f1.size + 1 ≤ (l.map fun x => x.f1.size + 1).sum := h2; omega⟩
end
end Go.Proofs.YtidkjiglmfhjpaaDoor.Lx
