/- TreeAgain: a text that is read has a value whose one text is read as that value, and the arguments stay as they were: for every input of bulk at most 1048576. -/
import Derived.Test.YtegppkngdkkdcaaDoorQA4
import Derived.Test.YtegppkngdkkdcaaDoorRows
import Derived.Test.YtegppkngdkkdcaaDoorCards
import Derived.Test.YtegppkngdkkdcaaDoorTie
set_option linter.unusedVariables false
set_option linter.unusedSimpArgs false
section
set_option linter.unusedVariables false
set_option linter.unusedSimpArgs false
namespace Go.Proofs.YtegppkngdkkdcaaDoor.Opn
open Go.RowKit Go.Proofs.YtegppkngdkkdcaaDoorW.PrintWords Go.Proofs.YtegppkngdkkdcaaDoorW.PrintLast Go.Proofs.YtegppkngdkkdcaaDoorW.PrintMore
def Opens {α : Type} (t : TypeId) (d : Kd α) (ok : α → Prop) (sz : α → Nat) : Prop :=
  ∀ {H : Type} (enc : TypeId × Value → H) (w : World) (base : Nat) (sp : Nat → Bool) (held : Bool) (fuel : Nat) (cs : List Value) (x : DataW H × List MemPlace),
    DataW.trod enc Tryd.prog w base sp held fuel t cs = some x → ∃ p : α, d.K w p cs ∧ ok p ∧ sz p ≤ Rows.uptoBulk x.1
theorem opens_string {t : TypeId} (ht : Tryd.prog.underlying t = some .string) : Opens t Kd.string (fun s => s.size ≤ maxLen) (fun s => s.size + 1) := by
  intro H enc w base sp held fuel cs x h
  obtain ⟨s, rfl, rfl, hs⟩ := DataW.trod_string ht h
  refine ⟨s, rfl, hs, ?_⟩
  show s.size + 1 ≤ s.data.toList.length + 1
  rw [Array.length_toList]
  exact Nat.le_refl _
theorem open_arg {α : Type} {t : TypeId} {d : Kd α} {ok : α → Prop} {sz : α → Nat} (ho : Opens t d ok sz) {H : Type} {enc : TypeId × Value → H} {w : World} {base : Nat} {sp : Nat → Bool} {held : Bool} {v : Value} {x : DataW H} {ps : List MemPlace}
    (h : DataW.Trod enc Tryd.prog w base sp held t v x ps) : ∃ p, d.K w p v.cells.toList ∧ ok p ∧ sz p ≤ Rows.uptoBulk x := by
  obtain ⟨fuel, h⟩ := h
  exact ho enc w base sp held fuel _ _ h
theorem laid_mem {P : Program} {W : World} {name : String} {k : IntKind} {zs : List Int} {g : Nat} {t e : TypeId} {n : Nat}
    (hg : P.globalNamed name = some g) (hty : (P.globals[g]?).map (·.type) = some t) (ht : P.underlying t = some (.array n e)) (he : P.underlying e = some (.int k)) (hce : P.cellsOf e = 1) (hct : P.cellsOf t = n) :
    ∀ {laid : List (String × DataW Unit)} {ps : List MemPlace}, DataW.LaidVars P W laid ps → (∃ d, (name, d) ∈ laid ∧ d = Lib.tabData k zs) → Lib.TabIs P W name k zs
  | [], _, _, ⟨_, h, _⟩ => by cases h
  | (nm, d0) :: r, ps, hL, ⟨d, h, hd⟩ => by
    obtain ⟨g', t', cs, fuel, p, q, hg', ht', hvar, hdd, hrest, _⟩ := hL
    rcases List.mem_cons.1 h with e0 | h
    · cases e0
      subst hd
      obtain rfl := Option.some.inj (hg.symm.trans hg')
      obtain rfl := Option.some.inj (hty.symm.trans ht')
      unfold Lib.TabIs
      rw [hvar, ← Lib.cells_of_tab ht he hce hct hdd]
    · exact laid_mem hg hty ht he hce hct hrest ⟨d, h, hd⟩
end Go.Proofs.YtegppkngdkkdcaaDoor.Opn
end
section
set_option linter.unusedVariables false
set_option linter.unusedSimpArgs false
namespace Go.Proofs.YtegppkngdkkdcaaDoor.Opn
open Go.ChangeShapes Go.WideShapes Go.ChangeAt Go.RowKit
theorem laidOut : laidOutB Tryd.prog = true := by kernel_rfl
theorem own : ownKnob Tryd.prog.godebug = none := by kernel_rfl
def readB (P : Program) (t : TypeId) : Bool := P.readableRec t && decide (t < P.types.size)
theorem trodAll_below {P : Program} (hl : laidOutB P = true) {H : Type} {enc : TypeId × Value → H} {W W' : World} (hb : Below W.heap.size W W') : ∀ {ts : List TypeId} {vs : List Value} {ds : List (DataW H)} {ps : List MemPlace}, ts.all (readB P) = true →
    DataW.TrodAll enc P W 0 (fun _ => true) true ts vs ds ps → DataW.TrodAll enc P W' 0 (fun b => decide (b < W.heap.size)) true ts vs ds ps
  | [], vs, ds, ps, _, h => by
    cases vs with
    | nil => cases ds with
      | nil => exact h
      | cons _ _ => exact h.elim
    | cons _ _ => exact h.elim
  | t :: ts, vs, ds, ps, hr, h => by
    cases vs with
    | nil => exact h.elim
    | cons v vs => cases ds with
      | nil => exact h.elim
      | cons d ds =>
        obtain ⟨p, q, h1, h2, rfl⟩ := h
        simp only [List.all_cons, Bool.and_eq_true] at hr
        obtain ⟨hr1, hr2⟩ := hr
        unfold readB at hr1
        rw [Bool.and_eq_true] at hr1
        have lt : ∀ x ∈ p, x.block < W.heap.size := by obtain ⟨m, hm⟩ := h1; exact DataW.trod_lt m _ _ _ hm
        exact ⟨p, q, Below.trod hl hr1.1 (of_decide_eq_true hr1.2) h1 hb lt, trodAll_below hl hb hr2 h2, rfl⟩
theorem post_true {H : Type} {enc : TypeId × Value → H} {fn : Func} {s : ChangeSpec} {W W' : World} {args : Array Value} {ds gs : List (DataW H)} {before : List MemPlace}
    (hW : DataW.Whole enc Tryd.prog fn.params.toList s.vars false W args.toList ds gs before) (hres : fn.resultTypes = #[4]) (hvars : s.vars = []) (hfn : s.fn H (ds ++ gs) = { results := [.lit (.bool true)], args := ds })
    (hrd : fn.params.toList.all (readB Tryd.prog) = true) (hb : Below W.heap.size W W') : s.post enc Tryd.prog fn false true false false W args (.bool true) W' := by
  have hW' := hW
  obtain ⟨p, q, hA, hV, rfl, hfz, hnd⟩ := hW
  rw [hvars] at hV
  obtain ⟨rfl, rfl⟩ := trodVars_none hV
  refine ⟨ds, [], p ++ [], [], p, [], hW', ?_, ?_, ?_, hb.frame _, fun h => by cases h⟩
  · rw [hres, hfn]
    exact trodAll_mk1 (shut_bool Tryd.underlying4 _)
  · rw [hfn]
    exact trodAll_below laidOut hb hrd hA
  · rw [hvars, hfn]
    exact rfl
end Go.Proofs.YtegppkngdkkdcaaDoor.Opn
end
section
set_option linter.unusedVariables false
set_option linter.unusedSimpArgs false
namespace Go.Proofs.YtegppkngdkkdcaaDoor.Tr
open Go.ChangeShapes Go.WideShapes Go.ChangeAt Go.RowKit
open Go.Proofs.YtegppkngdkkdcaaDoor.Opn Go.Proofs.YtegppkngdkkdcaaDoorW.PrintWords
open Go.Proofs.YtegppkngdkkdcaaDoor.Lx Go.Proofs.YtegppkngdkkdcaaDoor.PS
def szD : Nat → V → Nat
  | 0, x => 1 + x.f2.size + x.f3.length + (x.f4.map fun n => n.size + 1).sum
  | d + 1, x => 1 + x.f2.size + (x.f3.map (szD d)).sum + (x.f4.map fun n => n.size + 1).sum
theorem szD_pos (d : Nat) (x : V) : 1 ≤ szD d x := by
  cases d <;> simp only [szD] <;> omega
theorem sum_len (f : V → Nat) (hf : ∀ x, 1 ≤ f x) : ∀ l : List V, l.length ≤ (l.map f).sum
  | [] => by simp
  | y :: l => by
    have := sum_len f hf l
    have := hf y
    rw [List.map_cons, List.sum_cons, List.length_cons]
    omega
theorem quoteR_len' (t : List UInt8) : (quoteR t).length ≤ 2 + 6 * t.length := by
  have := quote_len t
  unfold quoteR
  simp only [List.length_cons, List.length_append, List.length_nil]
  omega
theorem leafW_len (x : V) (hn : -9223372036854775808 ≤ x.f1 ∧ x.f1 ≤ 9223372036854775807) : (leafW x).length ≤ 30 + 6 * x.f2.size := by
  have hsz : x.f2.data.toList.length = x.f2.size := by rw [Array.length_toList]; rfl
  unfold leafW
  split
  · rw [show wNul.length = 4 from rfl]; omega
  · split
    · cases (x.f1 == 1)
      · rw [fb_false, show wFalse.length = 5 from rfl]; omega
      · rw [fb_true, show wTru.length = 4 from rfl]; omega
    · split
      · have := Lib.itoa_length_le x.f1 hn.1 hn.2
        omega
      · split
        · have := quoteR_len' x.f2.data.toList
          omega
        · simp
theorem elemsW_bound (f : V → List UInt8) (m : Bool) (z : V → Nat) : ∀ (ys : List V) (i : Nat) (ns : List ByteArray), (∀ y ∈ ys, (f y).length + 4 ≤ 40 * z y) → (elemsW f m i ys ns).length ≤ 40 * (ys.map z).sum + 40 * (ns.map fun n => n.size + 1).sum
  | [], _, _, _ => by simp [elemsW]
  | y :: ys, i, ns, h => by
    have h1 := h y (by simp)
    have h2 := elemsW_bound f m z ys (i + 1) ns.tail (fun x hx => h x (by simp [hx]))
    have h3 : (if i = 0 then ([] : List UInt8) else [44]).length ≤ 1 := by split <;> simp
    have h4 : (if m = true then quoteR (ns.headD ByteArray.empty).data.toList ++ [58] else []).length + 40 * (ns.tail.map fun n => n.size + 1).sum ≤ 3 + 40 * (ns.map fun n => n.size + 1).sum := by
      cases ns with
      | nil =>
        cases m with
        | false => simp
        | true => simp [quoteR]
      | cons n ns =>
        cases m with
        | false => simp; omega
        | true =>
          have hq := quoteR_len' n.data.toList
          have hsz : n.data.toList.length = n.size := by rw [Array.length_toList]; rfl
          simp only [List.headD_cons, List.tail_cons, List.map_cons, List.sum_cons, if_pos, List.length_append, List.length_cons, List.length_nil]
          omega
    simp only [elemsW, List.length_append, List.map_cons, List.sum_cons] at h4 ⊢
    omega
theorem writeD_bound : ∀ (d : Nat) (x : V), numsR d x → (writeD d x).length + 4 ≤ 40 * szD d x
  | 0, x, hn => by
    have := leafW_len x hn
    simp only [writeD, szD]
    omega
  | d + 1, x, hn => by
    have h1 := leafW_len x hn.1
    have h2 := fun m => elemsW_bound (writeD d) m (szD d) x.f3 0 x.f4 (fun y hy => writeD_bound d y (hn.2 y hy))
    have h3 := h2 true
    have h4 := h2 false
    simp only [writeD, szD]
    split
    · simp only [List.length_append, List.length_cons, List.length_nil]
      omega
    · split
      · simp only [List.length_append, List.length_cons, List.length_nil]
        omega
      · omega
section
variable {H : Type} {enc : TypeId × Value → H} {W : World} {base : Nat} {sp : Nat → Bool} {held : Bool} {v : Value} {x : DataW H} {ps : List MemPlace}
end
theorem laid_at {P : Program} {W : World} {name : String} {g : Nat} {t : TypeId} (hg : P.globalNamed name = some g) (hty : (P.globals[g]?).map (·.type) = some t) :
    ∀ {laid : List (String × DataW Unit)} {ps : List MemPlace} {d : DataW Unit}, DataW.LaidVars P W laid ps → (name, d) ∈ laid → ∃ cs fuel p, W.var? P name = some cs ∧ DataW.trod (fun _ => ()) P W 0 (fun _ => true) false fuel t cs.toList = some (d, p)
  | [], _, _, _, h => by cases h
  | (nm, d0) :: r, ps, d, hL, h => by
    obtain ⟨g', t', cs, fuel, p, q, hg', ht', hvar, hdd, hrest, _⟩ := hL
    rcases List.mem_cons.1 h with e0 | h
    · cases e0
      obtain rfl := Option.some.inj (hg.symm.trans hg')
      obtain rfl := Option.some.inj (hty.symm.trans ht')
      exact ⟨cs, fuel, p, hvar, hdd⟩
    · exact laid_at hg hty hrest h
theorem var_cell {P : Program} {W : World} {name : String} {g : Nat} {cs : Array Value} (hg : P.globalNamed name = some g) (h : W.var? P name = some cs) (j : Nat) : W.cell? ⟨g, j, none⟩ = cs[j]? := by
  unfold World.var? at h
  rw [hg, Option.bind_some] at h
  unfold World.cell?
  cases hh : W.heap[g]? with
  | none => rw [hh] at h; cases h
  | some o =>
    rw [hh] at h
    cases o with
    | cells c t f => cases h; rfl
    | _ => cases h
theorem err_laid {W : World} {laid : List (String × DataW Unit)} {ps : List MemPlace} {name : String} {g : Nat} {tn : String} {d : DataW Unit} (hg : Tryd.prog.globalNamed name = some g) (hty : (Tryd.prog.globals[g]?).map (·.type) = some 73)
    (h : DataW.LaidVars Tryd.prog W laid ps) (hm : (name, .iface tn d) ∈ laid) : ∃ ev, W.cell? ⟨g, 0, none⟩ = some ev ∧ (ev = .nilIface ∨ ∃ te pe, ev = .iface te pe) := by
  obtain ⟨cs, fuel, p, hv, ht⟩ := laid_at hg hty h hm
  obtain ⟨_, u, v, hcs, _, _⟩ := iface_of_trod Tryd.underlying73 ht
  refine ⟨.iface u v, ?_, .inr ⟨_, _, rfl⟩⟩
  rw [var_cell hg hv]
  have : cs = #[.iface u v] := by
    apply Array.ext'
    exact hcs
  rw [this]
  rfl
def deB : List Int := [0, 1, 56, 2, 57, 49, 28, 3, 61, 58, 42, 50, 38, 29, 17, 4, 62, 47, 59, 36, 45, 43, 51, 22, 53, 39, 33, 30, 24, 18, 12, 5, 63, 55, 48, 27, 60, 41, 37, 16, 46, 35, 44, 21, 52, 32, 23, 11, 54, 26, 40, 15, 34, 20, 31, 10, 25, 14, 19, 9, 13, 8, 7, 6]
set_option maxRecDepth 100000 in
theorem lw_of {W : World} {laid : List (String × DataW Unit)} (hp : (laid.filter fun x => x.2.handleName?.isSome) = []) (h : laidMetH Tryd.prog laid W)
    (h1 : ("internal/strconv.uint64pow10", Rows.laid_internal_strconv_uint64pow10) ∈ laid) (h2 : ("math/bits.deBruijn64tab", Rows.laid_math_bits_deBruijn64tab) ∈ laid) (h3 : ("strconv.ErrRange", Rows.laid_strconv_ErrRange) ∈ laid) (h4 : ("strconv.ErrSyntax", Rows.laid_strconv_ErrSyntax) ∈ laid) : LW W := by
  unfold laidMetH at h
  rw [hp] at h
  obtain ⟨ps, hL, _⟩ := h
  refine ⟨⟨err_laid (name := "strconv.ErrSyntax") (by kernel_rfl) (by kernel_rfl) hL h4, err_laid (name := "strconv.ErrRange") (by kernel_rfl) (by kernel_rfl) hL h3⟩, ?_, ?_⟩
  · have ht : Lib.TabIs Tryd.prog W "math/bits.deBruijn64tab" .u8 deB := laid_mem (g := 5) (t := 132) (e := 5) (n := 64) (by kernel_rfl) (by kernel_rfl) Tryd.underlying132 Tryd.underlying5 (by kernel_rfl) (by kernel_rfl) hL ⟨_, h2, rfl⟩
    exact (var_cell (name := "math/bits.deBruijn64tab") (by kernel_rfl) ht 15).trans rfl
  · exact laid_mem (g := 0) (t := 109) (e := 97) (n := 20) (by kernel_rfl) (by kernel_rfl) Tryd.underlying109 Tryd.underlying97 (by kernel_rfl) (by kernel_rfl) hL ⟨_, h1, rfl⟩
set_option maxRecDepth 100000 in
theorem arg_text {H : Type} {enc : TypeId × Value → H} {W : World} {base : Nat} {sp : Nat → Bool} {held : Bool} {v : Value} {x : DataW H} {ps : List MemPlace} {r : Reach} {b0 : Nat} (hval : Value.okWide Tryd.prog W r b0 9 v) (h : DataW.Trod enc Tryd.prog W base sp held 9 v x ps) : ∃ s : ByteArray, v = .string s ∧ s.size + 1 ≤ Rows.uptoBulk x := by
  obtain ⟨s0, rfl⟩ := okWide_string Tryd.underlying9 hval
  obtain ⟨s, he, _, hs⟩ := open_arg (opens_string Tryd.underlying9) h
  have he' : Value.string s0 = .string s := by
    have : [Value.string s0] = [Value.string s] := he
    simpa using this
  cases he'
  exact ⟨_, rfl, hs⟩
theorem bulk_1 {H : Type} {a : DataW H} (h : Rows.uptoSmall H ([a] ++ []) = true) : Rows.uptoBulk a ≤ 1048576 := by
  simp [Rows.uptoSmall, Rows.uptoBulkAll] at h
  omega
end Go.Proofs.YtegppkngdkkdcaaDoor.Tr
end
section
set_option linter.unusedVariables false
set_option linter.unusedSimpArgs false
namespace Go.Proofs.YtegppkngdkkdcaaDoor.Tr
open Go Go.Proofs.YtegppkngdkkdcaaDoor.Lx Go.Proofs.YtegppkngdkkdcaaDoor.PS
def SzR (M p : Nat) (v : V) (p1 : Nat) : Prop := ∃ k, p1 = p + k ∧ 1 ≤ k ∧ ∀ e, szD e v ≤ k * M
theorem szD_nil (e : Nat) (k n : Int) (t : ByteArray) : szD e ⟨k, n, t, [], []⟩ = 1 + t.size := by cases e <;> simp [szD]
theorem szD_le (e : Nat) (v : V) (X : Nat) (h : ∀ e, (v.f3.map (szD e)).sum ≤ X) : szD e v ≤ 1 + v.f2.size + X + (v.f4.map fun n => n.size + 1).sum := by
  cases e with
  | zero =>
    have := sum_len (szD 0) (szD_pos 0) v.f3
    have := h 0
    simp only [szD]
    omega
  | succ e =>
    have := h e
    simp only [szD]
    omega
theorem arr_sz {ts : List Tk} {len n o M : Nat} (hM : 1 ≤ M) (hrow : ∀ f', f' ≤ n → ∀ p v p1, valP ts len f' o p = some (.ok v p1) → SzR M p v p1) : ∀ (f : Nat), f ≤ n → ∀ (p : Nat) (acc : List V) (X : Nat) (v : V) (p1 : Nat),
    (∀ e, (acc.map (szD e)).sum ≤ X) → arrP ts len f o p acc = some (.ok v p1) → ∃ k, p1 = p + k ∧ v.f2 = ⟨#[]⟩ ∧ v.f4 = [] ∧ ∀ e, (v.f3.map (szD e)).sum ≤ X + k * M
  | 0, _, p, acc, X, v, p1, _, e => by simp [arrP] at e
  | f + 1, hf, p, acc, X, v, p1, ha, e => by
    simp only [arrP] at e
    split at e
    · cases e
      exact ⟨1, rfl, rfl, rfl, fun e => by have := ha e; show (acc.map (szD e)).sum ≤ _; omega⟩
    · cases hv : valP ts len f o p with
      | none => rw [hv] at e; cases e
      | some r1 =>
        rw [hv] at e
        cases r1 with
        | bad c a => cases e
        | ok v2 p2 =>
          obtain ⟨k, rfl, h1, h2⟩ := hrow f (by omega) p v2 p2 hv
          have ha2 : ∀ e, ((acc ++ [v2]).map (szD e)).sum ≤ X + k * M := fun e => by
            have := ha e
            have := h2 e
            rw [List.map_append, List.sum_append]
            simp
            omega
          simp only at e
          split at e
          · cases e
            exact ⟨k + 1, by omega, rfl, rfl, fun e => by have := ha2 e; rw [Nat.add_mul]; show ((acc ++ [v2]).map (szD e)).sum ≤ _; omega⟩
          · split at e
            · cases e
            · split at e
              · cases e
              · obtain ⟨k', h3, h4, h5, h6⟩ := arr_sz hM hrow f (by omega) (p + k + 1) (acc ++ [v2]) (X + k * M) v p1 ha2 e
                exact ⟨k + 1 + k', by omega, h4, h5, fun e => by have := h6 e; rw [Nat.add_mul, Nat.add_mul]; omega⟩
theorem map_sz {ts : List Tk} {len n o M : Nat} (hM : ∀ q, (tokAt ts len q).text.length + 1 ≤ M) (hrow : ∀ f', f' ≤ n → ∀ p v p1, valP ts len f' o p = some (.ok v p1) → SzR M p v p1) : ∀ (f : Nat), f ≤ n → ∀ (p : Nat) (acc : List V) (nm : List ByteArray) (X : Nat) (v : V) (p1 : Nat),
    (∀ e, (acc.map (szD e)).sum + (nm.map fun n => n.size + 1).sum ≤ X) → mapP ts len f o p acc nm = some (.ok v p1) → ∃ k, p1 = p + k ∧ v.f2 = ⟨#[]⟩ ∧ ∀ e, (v.f3.map (szD e)).sum + (v.f4.map fun n => n.size + 1).sum ≤ X + k * M
  | 0, _, p, acc, nm, X, v, p1, _, e => by simp [mapP] at e
  | f + 1, hf, p, acc, nm, X, v, p1, ha, e => by
    simp only [mapP] at e
    split at e
    · cases e
      exact ⟨1, rfl, rfl, fun e => by have := ha e; show (acc.map (szD e)).sum + (nm.map fun n => n.size + 1).sum ≤ _; omega⟩
    · split at e
      · cases e
      · split at e
        · cases e
        · split at e
          · cases e
          · cases hv : valP ts len f o (p + 2) with
            | none => rw [hv] at e; cases e
            | some r1 =>
              rw [hv] at e
              cases r1 with
              | bad c a => cases e
              | ok v2 p2 =>
                obtain ⟨k, rfl, h1, h2⟩ := hrow f (by omega) (p + 2) v2 p2 hv
                have hn := hM p
                have ha2 : ∀ e, ((acc ++ [v2]).map (szD e)).sum + ((nm ++ [toB (tokAt ts len p).text]).map fun n => n.size + 1).sum ≤ X + (k + 1) * M := fun e => by
                  have := ha e
                  have := h2 e
                  have hs : (toB (tokAt ts len p).text).size = (tokAt ts len p).text.length := by simp [toB, ByteArray.size]
                  rw [List.map_append, List.sum_append, List.map_append, List.sum_append, Nat.add_mul]
                  simp only [List.map_cons, List.map_nil, List.sum_cons, List.sum_nil, hs]
                  omega
                simp only at e
                split at e
                · cases e
                  exact ⟨k + 1 + 2, by omega, rfl, fun e => by have := ha2 e; rw [Nat.add_mul (k + 1)]; show ((acc ++ [v2]).map (szD e)).sum + ((nm ++ [toB (tokAt ts len p).text]).map fun n => n.size + 1).sum ≤ _; omega⟩
                · split at e
                  · cases e
                  · split at e
                    · cases e
                    · obtain ⟨k', h3, h4, h6⟩ := map_sz hM hrow f (by omega) (p + 2 + k + 1) (acc ++ [v2]) _ (X + (k + 1) * M) v p1 ha2 e
                      exact ⟨k + 1 + 2 + k', by omega, h4, fun e => by have := h6 e; rw [Nat.add_mul (k + 1 + 2), Nat.add_mul (k + 1)]; omega⟩
theorem val_sz {ts : List Tk} {len M : Nat} (hM : ∀ q, (tokAt ts len q).text.length + 1 ≤ M) : ∀ (n f o p : Nat) (v : V) (p1 : Nat), f ≤ n → valP ts len f o p = some (.ok v p1) → SzR M p v p1
  | n, 0, o, p, v, p1, _, e => by simp [valP] at e
  | 0, f + 1, o, p, v, p1, hn, e => by omega
  | n + 1, f + 1, o, p, v, p1, hn, e => by
    have hp := hM p
    have h1M : 1 ≤ M := by omega
    simp only [valP] at e
    split at e
    · cases e
      exact ⟨1, rfl, Nat.le_refl _, fun e => by rw [szD_nil, Nat.one_mul]; exact h1M⟩
    · split at e
      · cases e
        have hs : (toB (tokAt ts len p).text).size = (tokAt ts len p).text.length := by simp [toB, ByteArray.size]
        exact ⟨1, rfl, Nat.le_refl _, fun e => by rw [szD_nil, hs, Nat.one_mul]; omega⟩
      · split at e
        · cases e
          refine ⟨1, rfl, Nat.le_refl _, fun e => ?_⟩
          unfold wordV nulV
          split
          · rw [szD_nil, Nat.one_mul]; exact h1M
          · split <;> (rw [szD_nil, Nat.one_mul]; exact h1M)
        · split at e
          · split at e
            · cases e
            · obtain ⟨k, h2, h3, h4, h5⟩ := arr_sz h1M (fun f' h p v p1 e => val_sz hM n f' (o + 1) p v p1 h e) f (by omega) (p + 1) [] 0 v p1 (by simp) e
              refine ⟨k + 1, by omega, by omega, fun e => ?_⟩
              have := szD_le e v (0 + k * M) h5
              rw [h3, h4] at this
              rw [Nat.add_mul]
              rw [show (⟨#[]⟩ : ByteArray).size = 0 from rfl] at this
              simp only [List.map_nil, List.sum_nil] at this
              omega
          · split at e
            · split at e
              · cases e
              · obtain ⟨k, h2, h3, h5⟩ := map_sz hM (fun f' h p v p1 e => val_sz hM n f' (o + 1) p v p1 h e) f (by omega) (p + 1) [] [] 0 v p1 (by simp) e
                refine ⟨k + 1, by omega, by omega, fun e => ?_⟩
                rw [Nat.add_mul]
                cases e with
                | zero =>
                  have h6 := h5 0
                  have := sum_len (szD 0) (szD_pos 0) v.f3
                  simp only [szD, h3]
                  rw [show (⟨#[]⟩ : ByteArray).size = 0 from rfl]
                  omega
                | succ e =>
                  have h6 := h5 e
                  simp only [szD, h3]
                  rw [show (⟨#[]⟩ : ByteArray).size = 0 from rfl]
                  omega
            · cases e
theorem parse_size (s : List UInt8) (v : V) (a : Nat) (h : parseR s = (v, 0, a)) : (writeD 8 v).length ≤ 10000000000000 := by
  have hc := parse_cases s v 0 a h
  have hok : Ok 8 v := by
    rcases hc with ⟨_, _, h⟩ | ⟨h, _⟩
    · exact h
    · exact absurd rfl h
  have hw := writeD_bound 8 v hok.n
  unfold parseR at h
  split at h
  · rename_i ts p ht
    have T := tsOk_of ht
    obtain ⟨h1, h2, h3⟩ := tokensR_ok ht
    have hll : ts.length ≤ s.length := by
      have hh := ht
      unfold tokensR at hh
      rw [if_neg (by omega)] at hh
      cases hx : toksR s (s.length + 1) 0 [] with
      | inl y =>
        rw [hx] at hh
        have := toksR_len' s _ _ _ _ hx
        simp only [Prod.mk.injEq] at hh
        rw [← hh.1]
        simpa using this
      | inr y => rw [hx] at hh; simp at hh
    have hM : ∀ q, (tokAt ts s.length q).text.length + 1 ≤ 3 * (s.length + 1) + 1 := by
      intro q
      unfold tokAt
      rw [List.getD_eq_getElem?_getD]
      rcases Nat.lt_or_ge q ts.length with hq | hq
      · rw [List.getElem?_eq_getElem hq]
        have := (h1 ts[q] (List.getElem_mem _)).1.2.2.2.2
        simpa using this
      · rw [List.getElem?_eq_none hq]
        simp
    obtain ⟨r, hr⟩ := (fuel_all ts s.length (2 * ts.length + 2)).1 0 0 (by omega)
    have hb := val_ok T _ _ 0 0 r (Nat.le_refl _) (by omega) hr
    rw [hr] at h
    cases r with
    | bad c' a' =>
      simp only [Prod.mk.injEq] at h
      exact absurd h.2.1 hb.1
    | ok v' p' =>
      simp only at h
      have hv : v' = v := by
        split at h
        · cases h; rfl
        · cases h
      subst hv
      obtain ⟨k, hk, _, hs⟩ := val_sz hM _ _ 0 0 v' p' (Nat.le_refl _) hr
      have h8 := hs 8
      have hp := hb.2.2
      have h9 : k * (3 * (s.length + 1) + 1) ≤ 65536 * 196612 := Nat.mul_le_mul (by omega) (by omega)
      omega
  · rename_i ts c' a' hne ht
    cases h
    exact absurd rfl hne
end Go.Proofs.YtegppkngdkkdcaaDoor.Tr
namespace Go.Proofs.YtegppkngdkkdcaaDoor.PS
open Go.RowKit Go.Proofs.YtegppkngdkkdcaaDoorW.PrintWords Go.Proofs.YtegppkngdkkdcaaDoorW.PrintLast Go.Proofs.YtegppkngdkkdcaaDoorW.PrintMore
open Go.Proofs.YtegppkngdkkdcaaDoor.Lx Go.Proofs.YtegppkngdkkdcaaDoor.Tr
theorem Print_f (k : Nat) (x : V) (hok : okB 8 x = true) (hl : (writeD 8 x).length ≤ 10000000000000) : tree_Print.f k x.f0 x.f1 x.f2 x.f3 x.f4 = some (Tr.toB (printR x).1, ((printR x).2 : Int)) := by
  unfold tree_Print.f
  rw [show (⟨x.f0, x.f1, x.f2, x.f3, x.f4⟩ : V) = x by cases x; rfl, hok, decide_eq_true hl]
  rfl
theorem Parse_f (k : Nat) (a : ByteArray) : tree_Parse.f k a = some ((parseR a.data.toList).1.f0, (parseR a.data.toList).1.f1, (parseR a.data.toList).1.f2, (parseR a.data.toList).1.f3, (parseR a.data.toList).1.f4, ((parseR a.data.toList).2.1 : Int), ((parseR a.data.toList).2.2 : Int)) := rfl
theorem TreeAgain_pure (a0 : ByteArray) (ha : a0.size ≤ 1048576) : ∃ k, assizelaw02_TreeAgain.f k a0 = some true := by
  have hsz : a0.data.toList.length = a0.size := by rw [Array.length_toList]; rfl
  obtain ⟨v, c, a, hp⟩ : ∃ v c a, parseR a0.data.toList = (v, c, a) := ⟨_, _, _, rfl⟩
  rcases parse_cases _ v c a hp with ⟨rfl, rfl, hok⟩ | ⟨hc, rfl, hle⟩
  · have hB := okB_mk 8 v hok.n hok.f
    have hl := parse_size _ v 0 hp
    have e1 : printR v = (writeD 8 v, 0) := by unfold printR; rw [hok.s]; rfl
    obtain ⟨k0, hk0⟩ := same_refl 8 v hok.s hok.f
    have hsame := hk0 k0 (Nat.le_refl _)
    unfold SameQ at hsame
    refine ⟨k0, ?_⟩
    unfold assizelaw02_TreeAgain.f
    rw [alive_pure, Option.bind_some, if_pos rfl, Parse_f, Option.bind_some, hp]
    simp only
    rw [if_pos (show ((0 : Nat) : Int) = 0 from rfl), Print_f k0 v hB hl, Option.bind_some, e1]
    simp only
    rw [if_pos (show ((0 : Nat) : Int) = 0 from rfl), Parse_f, Option.bind_some, size_B, data_B]
    simp only
    by_cases hlen : (writeD 8 v).length ≤ 65536
    · rw [if_neg (by omega), parse_print v hok.s hok.n hlen]
      simp only
      rw [Print_f k0 v hB hl, Option.bind_some, e1]
      simp only
      rw [if_pos (show ((0 : Nat) : Int) = 0 from rfl), if_pos (show ((0 : Nat) : Int) = 0 from rfl), if_pos trivial, hsame, Option.bind_some]
    · rw [if_pos (by omega)]
  · refine ⟨0, ?_⟩
    unfold assizelaw02_TreeAgain.f
    rw [alive_pure, Option.bind_some, if_pos rfl, Parse_f, Option.bind_some, hp]
    simp only
    rw [if_neg (show ¬ ((c : Nat) : Int) = 0 by omega), if_pos (by omega), if_pos (by omega), if_pos (by rfl)]
    rfl
end Go.Proofs.YtegppkngdkkdcaaDoor.PS
end
section
set_option linter.unusedVariables false
set_option linter.unusedSimpArgs false
namespace Go.Proofs.YtegppkngdkkdcaaDoor.TreeAgainC
open Go.ChangeShapes Go.WideShapes Go.ChangeAt Go.RowKit
open Go.Proofs.YtegppkngdkkdcaaDoor.Opn Go.Proofs.YtegppkngdkkdcaaDoor.Lx Go.Proofs.YtegppkngdkkdcaaDoor.Tr
set_option maxRecDepth 100000 in
theorem contract (H : Type) (enc : TypeId × Value → H) (W : World) (base : Nat) (args : Array Value) (ds gs : List (DataW H)) (before : List MemPlace)
    (hval : ∀ (j : Nat) t v, Tryd.f3.params[j]? = some t → args[j]? = some v → Value.okWide Tryd.prog W .any base t v)
    (hW : DataW.Whole enc Tryd.prog Tryd.f3.params.toList Rows.treeAgainSpec.vars false W args.toList ds gs before) (hL : laidMetH Tryd.prog Rows.treeAgainUptoRow.laid W) (hsh : W.ShapedOpen Tryd.prog) (hk : Rows.uptoSmall H (ds ++ gs) = true) :
    Calls Tryd.prog 3 args W fun e W' => ∃ v, e = .returned v ∧ Rows.treeAgainSpec.post enc Tryd.prog Tryd.f3 false true false false W args v W' := by
  have hW' := hW
  obtain ⟨p, q, hA0, hV, rfl, hfz, hnd⟩ := hW
  have hA : DataW.TrodAll enc Tryd.prog W 0 (fun _ => true) true Tryd.f3.params.toList args.toList ds p := hA0
  rw [Tryd.params3] at hA hval
  obtain ⟨v0, vs0, d0, ds0, p0, q0, hargs, rfl, rfl, h0, r0⟩ := trodAll_cons hA
  obtain ⟨rfl, rfl, rfl⟩ := trodAll_nil r0
  obtain rfl : args = #[v0] := by cases args; simp_all
  obtain ⟨rfl, rfl⟩ := trodVars_none hV
  have b0 := bulk_1 hk
  obtain ⟨s0, rfl, hs0⟩ := arg_text (hval 0 _ v0 rfl rfl) h0
  obtain ⟨k, pure⟩ := PS.TreeAgain_pure s0 (by omega)
  have LWH : LW W := lw_of rfl hL (by simp [Rows.treeAgainUptoRow]) (by simp [Rows.treeAgainUptoRow]) (by simp [Rows.treeAgainUptoRow]) (by simp [Rows.treeAgainUptoRow])
  refine (PS.assizelaw02_TreeAgain.calls k s0 true W pure LWH).mono ?_
  rintro e W' ⟨rfl, hb⟩
  exact ⟨_, rfl, post_true hW' (by kernel_rfl) rfl rfl (by kernel_rfl) hb⟩
def zeroArgs : Array Value := #[.string ⟨#[]⟩]
theorem door_met (os : Os) : laidMetH Tryd.prog Rows.treeAgainUptoRow.laid ((World.doorLaid Tryd.prog 4000 os).forCall (fun _ _ => 0) ⟨#[], zeroArgs, []⟩).memory :=
  laidMetH_of_parts3 (fuel := 8) (laidMet_of_run' 8 (by kernel_rfl) (by kernel_rfl)) (by kernel_rfl) (by kernel_rfl)
theorem reads (os : Os) {H : Type} (enc : TypeId × Value → H) : ∃ places, DataW.whole enc Tryd.prog ((World.doorLaid Tryd.prog 4000 os).forCall (fun _ _ => 0) ⟨#[], zeroArgs, []⟩).memory Tryd.f3.params.toList Rows.treeAgainSpec.vars false zeroArgs.toList 8 = some ([.lit (.string [])], [], places) :=
  ⟨[], by kernel_rfl⟩
set_option maxRecDepth 100000 in
theorem liftedUpto (os : Os) (started : os.Started) (H : Type) (enc : TypeId × Value → H) (F : Stop.Interp) :
    ReturnsInHanded {} Tryd.checked os 3 .any ((Rows.OpenSpec.upto Rows.treeAgainSpec).preRow enc Tryd.prog Tryd.f3 Rows.treeAgainUptoRow.domain false Rows.treeAgainUptoRow.laid) (((Rows.OpenSpec.upto Rows.treeAgainSpec).at F).post enc Tryd.prog Tryd.f3 false true false false) := by
  obtain ⟨places, hx⟩ := reads os enc
  refine returnsInHanded_of_row (C := Tryd.checked) (s := Rows.OpenSpec.upto Rows.treeAgainSpec) own started (by kernel_rfl) Tryd.func3
    (witness_row_at (enc := enc) (C := Tryd.checked) false (World.doorLaid Tryd.prog 4000 os) zeroArgs rfl (by kernel_rfl) (by kernel_rfl) (by kernel_rfl)
      (OpenSpec.preRow_of_cond 8 hx (by kernel_rfl) (fun k hk => by cases hk; kernel_rfl) (by kernel_rfl) (door_met os))) ?_
  intro W base args ds gs before hval hW _ hcond _ hL hsh _
  exact contract H enc W base args ds gs before hval hW hL hsh (hcond _ rfl)
theorem saidUpto : Rows.TreeAgainUptoSaid :=
  OpenClaim.holds_of_cond 3 Tryd.f3 rfl rfl rfl rfl rfl rfl rfl ⟨rfl, rfl, rfl, rfl, rfl⟩ rfl rfl rfl rfl rfl (by kernel_rfl) Tryd.func3 (by kernel_rfl)
    (of_decide_eq_true (by kernel_rfl)) (by unfold Func.isWrapper; first | (rw [if_pos (by decide +kernel)]; kernel_rfl) | (rw [if_neg (by decide +kernel)]; exact ⟨rfl, rfl⟩))
    (fun os started H enc _ F => by rw [OpenClaim.pre_eq_preRow]; exact liftedUpto os started H enc F)
theorem plain (f : FuncId) (fn : Func) (hf : Tryd.pinned.checked.prog.funcNamed "assize/assizelaw02.TreeAgain" = some f) (hfn : Tryd.pinned.checked.prog.funcs[f]? = some fn) :
    true = Tryd.pinned.checked.prog.looks [] ∧ ∀ (j : Nat) t, fn.params[j]? = some t → Tryd.pinned.checked.prog.wantsStandIn t = false := by
  obtain rfl : f = 3 := Option.some.inj ((show Tryd.prog.funcNamed "assize/assizelaw02.TreeAgain" = some 3 by kernel_rfl).symm.trans hf) |>.symm
  obtain rfl : fn = Tryd.f3 := (Option.some.inj (Tryd.func3.symm.trans hfn)).symm
  refine ⟨by kernel_rfl, fun j t ht => ?_⟩
  have hall : (Tryd.f3.params.toList.all fun t => !Tryd.prog.wantsStandIn t) = true := by kernel_rfl
  have hm : t ∈ Tryd.f3.params.toList := Array.mem_toList_iff.2 (Array.mem_of_getElem? ht)
  have : Tryd.prog.wantsStandIn t = false := by simpa using List.all_eq_true.1 hall t hm
  exact this
theorem cardUpto : Rows.TreeAgainUptoCardSaid :=
  Claim7.holds_tied_plain_at .later [] _ _ _ _ saidUpto (fun _ h => by cases h) (by kernel_rfl) (fun _ h => by cases h) treeAgainUpto_row_tie rfl ⟨rfl, rfl⟩ (by kernel_rfl) rfl plain (by kernel_rfl)
end Go.Proofs.YtegppkngdkkdcaaDoor.TreeAgainC
namespace Go.Proofs.YtegppkngdkkdcaaDoor
theorem treeAgain_card : Rows.TreeAgainUptoCardSaid := TreeAgainC.cardUpto
end Go.Proofs.YtegppkngdkkdcaaDoor
end
