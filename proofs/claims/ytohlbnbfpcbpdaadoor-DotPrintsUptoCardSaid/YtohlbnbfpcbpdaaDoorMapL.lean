/- Maps with plain keys, told as lists of pairs: what a lookup, a store, a length do. Of no program. -/
import Derived.WalkKit
import Derived.MapKept
import Derived.WideLaws
import Derived.Deep.Draws
set_option linter.unusedVariables false
set_option linter.unusedSimpArgs false
set_option linter.unusedSectionVars false
namespace Go.Proofs.YtohlbnbfpcbpdaaDoor.MapL
open Go.MapKept Go.RowKit

/-- Keys that can be told apart at once. -/
structure Keyed {κ : Type} [DecidableEq κ] (d : TypeDesc) (enc : κ → Value) : Prop where
  key : ∀ k, IsKey d (enc k)
  same : ∀ a b, Instr.sameNow d (enc a) (enc b) = some (decide (a = b))
  bits : ∀ a, Instr.sameBits 10000 (enc a) (enc a) = true

theorem keyed_string : Keyed .string Value.string :=
  ⟨fun k => by simp [IsKey], fun a b => by
    simp only [Instr.sameNow]
    congr 1
    rw [Bool.eq_iff_iff, decide_eq_true_eq]
    exact (MapKept.bytes_beq a b), fun a => by simp [Instr.sameBits, MapKept.bytes_beq]⟩
theorem keyed_int (q : IntKind) : Keyed (.int q) (Value.int q) :=
  ⟨fun k => by simp [IsKey], fun a b => by simp [Instr.sameNow]; rfl, fun a => by simp [Instr.sameBits]⟩

section
variable {κ : Type} [DecidableEq κ] {d : TypeDesc} {enc : κ → Value}

def look (k : κ) : List (κ × Value) → Option Value
  | [] => none
  | p :: r => if k = p.1 then some p.2 else look k r
def put (k : κ) (v : Value) : List (κ × Value) → List (κ × Value)
  | [] => [(k, v)]
  | p :: r => if k = p.1 then (k, v) :: r else p :: put k v r

theorem look_put (k : κ) (v : Value) : ∀ l : List (κ × Value), look k (put k v l) = some v
  | [] => by simp [put, look]
  | p :: r => by
    unfold put
    split
    · simp [look]
    · rename_i h; simp [look, h, look_put k v r]
theorem look_put_ne {k k' : κ} (h : k' ≠ k) (v : Value) : ∀ l : List (κ × Value), look k' (put k v l) = look k' l
  | [] => by simp [put, look, h]
  | p :: r => by
    unfold put
    split
    · rename_i hk; subst hk; simp [look, h]
    · simp [look, look_put_ne h v r]

/-- Block b is a map that holds the pairs of l. -/
def Is (enc : κ → Value) (w : World) (b : Nat) (l : List (κ × Value)) : Prop :=
  ∃ es clock, w.heap[b]? = some (.map es clock) ∧ es.toList.map (fun e => (e.key, e.val)) = l.map (fun p => (enc p.1, p.2))

theorem Is.lt {w : World} {b : Nat} {l : List (κ × Value)} (h : Is enc w b l) : b < w.heap.size := by
  obtain ⟨es, clock, hb, _⟩ := h
  exact (Array.getElem?_eq_some_iff.1 hb).1
theorem Is.same {w w' : World} {b : Nat} {l : List (κ × Value)} (h : Is enc w b l) (hs : w'.heap[b]? = w.heap[b]?) : Is enc w' b l := by
  obtain ⟨es, clock, hb, h⟩ := h
  exact ⟨es, clock, hs.trans hb, h⟩
theorem Is.drewN {w : World} {b : Nat} {l : List (κ × Value)} (h : Is enc w b l) (n : Nat) : Is enc (w.drewN n) b l := h.same rfl
theorem Is.alloc {w : World} {b : Nat} {l : List (κ × Value)} (h : Is enc w b l) (o : Obj) : Is enc (w.alloc o) b l :=
  h.same (by have := h.lt; show (w.heap.push o)[b]? = _; rw [Array.getElem?_push]; simp; omega)
theorem Is.made (enc : κ → Value) (w : World) : Is enc (w.alloc (.map #[] 0)) w.heap.size [] :=
  ⟨#[], 0, by show (w.heap.push _)[_]? = _; simp, by simp⟩

theorem findNow_look (K : Keyed d enc) (k : κ) : ∀ (es : List MapEntry) (l : List (κ × Value)) (i : Nat), es.map (fun e => (e.key, e.val)) = l.map (fun p => (enc p.1, p.2)) →
    (Instr.findNow d (enc k) es i = some none ∧ look k l = none ∧ (∀ v n, (es ++ [({ key := enc k, val := v, born := n } : MapEntry)]).map (fun e => (e.key, e.val)) = (put k v l).map (fun p => (enc p.1, p.2)))) ∨
    ∃ j v, Instr.findNow d (enc k) es i = some (some (i + j, v)) ∧ look k l = some v ∧ (∃ e, es[j]? = some e ∧ e.key = enc k) ∧
      ∀ v', (es.modify j fun e => { e with key := enc k, val := v' }).map (fun e => (e.key, e.val)) = (put k v' l).map (fun p => (enc p.1, p.2))
  | [], [], i, _ => .inl ⟨rfl, rfl, fun v n => rfl⟩
  | [], _ :: _, _, h => by simp at h
  | _ :: _, [], _, h => by simp at h
  | e :: es, p :: l, i, h => by
    simp only [List.map_cons, List.cons.injEq, Prod.mk.injEq] at h
    obtain ⟨⟨hk, hv⟩, ht⟩ := h
    by_cases hp : k = p.1
    · refine .inr ⟨0, e.val, by simp [Instr.findNow, hk, K.same, hp], by simp [look, hp, hv], ⟨e, rfl, by rw [hk, hp]⟩, fun v' => ?_⟩
      simp [put, hp, ht]
    · have hs : Instr.sameNow d (enc k) e.key = some false := by rw [hk, K.same]; simp [hp]
      rcases findNow_look K k es l (i + 1) ht with ⟨h1, h2, h3⟩ | ⟨j, v, h1, h2, ⟨e', h3, h4⟩, h5⟩
      · refine .inl ⟨by simp [Instr.findNow, hs, h1], by simp [look, hp, h2], fun v n => ?_⟩
        simp only [put, if_neg hp, List.cons_append, List.map_cons, List.cons.injEq]
        exact ⟨by rw [hk, hv], h3 v n⟩
      · refine .inr ⟨j + 1, v, by simp [Instr.findNow, hs, h1]; omega, by simp [look, hp, h2], ⟨e', by simpa using h3, h4⟩, fun v' => ?_⟩
        simp only [put, if_neg hp, List.modify_succ_cons, List.map_cons, List.cons.injEq]
        exact ⟨by rw [hk, hv], h5 v'⟩

theorem run_lookup {P : Program} {w : World} {b : Nat} {l : List (κ × Value)} {t kt et : TypeId} {z : Value} (h : Is enc w b l) (K : Keyed d enc) (ht : P.underlying t = some (.map kt et)) (hd : P.underlying kt = some d)
    (hz : (zeroValue et).run P w = .ok z w) (k : κ) : (Instr.lookup t (.map (some b)) (enc k) false).run P w = .ok ((look k l).getD z) w := by
  obtain ⟨es, clock, hb, hl⟩ := h
  rcases findNow_look K k es.toList l 0 hl with ⟨h1, h2, _⟩ | ⟨j, v, h1, h2, _⟩
  · simp [Instr.lookup, run_underlying ht, MapKept.run_getObj_map hb, MapKept.run_checkKey hd (K.key k), MapKept.run_findKey hd h1, hz, h2, Result.andThen]
  · simp [Instr.lookup, run_underlying ht, MapKept.run_getObj_map hb, MapKept.run_checkKey hd (K.key k), MapKept.run_findKey hd h1, h2, Result.andThen]

theorem run_lookup_ok {P : Program} {w : World} {b : Nat} {l : List (κ × Value)} {t kt et : TypeId} {z : Value} (h : Is enc w b l) (K : Keyed d enc) (ht : P.underlying t = some (.map kt et)) (hd : P.underlying kt = some d)
    (hz : (zeroValue et).run P w = .ok z w) (k : κ) : (Instr.lookup t (.map (some b)) (enc k) true).run P w = .ok (.tuple #[(look k l).getD z, .bool (look k l).isSome]) w := by
  obtain ⟨es, clock, hb, hl⟩ := h
  rcases findNow_look K k es.toList l 0 hl with ⟨h1, h2, _⟩ | ⟨j, v, h1, h2, _⟩
  · simp [Instr.lookup, run_underlying ht, MapKept.run_getObj_map hb, MapKept.run_checkKey hd (K.key k), MapKept.run_findKey hd h1, hz, h2, Result.andThen]
  · simp [Instr.lookup, run_underlying ht, MapKept.run_getObj_map hb, MapKept.run_checkKey hd (K.key k), MapKept.run_findKey hd h1, h2, Result.andThen]

/-- A store: the map's block alone is another one. -/
theorem run_update {P : Program} {w : World} {b : Nat} {l : List (κ × Value)} {t kt et : TypeId} (h : Is enc w b l) (K : Keyed d enc) (ht : P.underlying t = some (.map kt et)) (hd : P.underlying kt = some d)
    (k : κ) (v : Value) : ∃ w', (Instr.mapUpdate t (.map (some b)) (enc k) v).run P w = .ok () w' ∧ Is enc w' b (put k v l) ∧ w.grownBy w' (some b) := by
  obtain ⟨es, clock, hb, hl⟩ := h
  have hlt : b < w.heap.size := (Array.getElem?_eq_some_iff.1 hb).1
  have hg : ∀ o, w.grownBy { w with heap := w.heap.setIfInBounds b o } (some b) := fun o => ⟨rfl, rfl, rfl, by simp, fun i _ hi => by
    have : b ≠ i := fun e => hi (by rw [e])
    simp [this]⟩
  rcases findNow_look K k es.toList l 0 hl with ⟨h1, h2, h3⟩ | ⟨j, v0, h1, h2, ⟨e, h3, h4⟩, h5⟩
  · refine ⟨{ w with heap := w.heap.setIfInBounds b (.map (es.push { key := enc k, val := v, born := clock }) (clock + 1)) }, ?_, ⟨es.push { key := enc k, val := v, born := clock }, clock + 1, by simp [hlt], ?_⟩, hg _⟩
    · simp [Instr.mapUpdate, run_underlying ht, MapKept.run_getObj_map hb, MapKept.run_checkKey hd (K.key k), MapKept.run_findKey hd h1, MapKept.run_setObj_map _ hb, Result.andThen]
    · have := h3 v clock
      simpa using this
  · refine ⟨{ w with heap := w.heap.setIfInBounds b (.map (es.modify j fun e => { e with key := enc k, val := v }) clock) }, ?_, ⟨es.modify j fun e => { e with key := enc k, val := v }, clock, by simp [hlt], ?_⟩, hg _⟩
    · have h3' : es[j]? = some e := by simpa using h3
      simp [Instr.mapUpdate, run_underlying ht, MapKept.run_getObj_map hb, MapKept.run_checkKey hd (K.key k), MapKept.run_findKey hd h1, MapKept.run_setObj_map _ hb, Result.andThen, h3', h4, Instr.keyThatStays, K.bits]
    · have := h5 v
      simpa using this

theorem length_put_le (k : κ) (v : Value) : ∀ l : List (κ × Value), l.length ≤ (put k v l).length ∧ (put k v l).length ≤ l.length + 1
  | [] => by simp [put]
  | p :: r => by
    unfold put
    split
    · simp
    · have := length_put_le k v r; simp; omega
theorem length_put (k : κ) (v : Value) : ∀ l : List (κ × Value), (put k v l).length = if look k l = none then l.length + 1 else l.length
  | [] => by simp [put, look]
  | p :: r => by
    unfold put look
    split
    · simp
    · rename_i h
      simp only [List.length_cons, length_put k v r]
      split <;> rfl

theorem run_len {P : Program} {w : World} {b : Nat} {l : List (κ × Value)} {t kt et : TypeId} (h : Is enc w b l) (ht : P.underlying t = some (.map kt et)) (ty : TypeId) : (Builtin.len_ #[t] ty #[.map (some b)]).run P w = .ok (.int .i64 l.length) w := by
  obtain ⟨es, clock, hb, hl⟩ := h
  have e : es.size = l.length := by
    have := congrArg List.length hl
    simpa using this
  simp [Builtin.len_, run_underlying ht, MapKept.run_getObj_map hb, goInt, Result.andThen, e]

variable {P : Program} {ops : Array Oper} {rest : List Oper} {o : Oper} {a : Act} {Q : Exit → Act → World → Prop}
theorem wp_update (w : World) (hg : o.guard = none) (m x v : Operand) (t : TypeId) (hop : o.op = Op.mapUpdate t m x v) (kt et : TypeId) (K : Keyed d enc) (ht : P.underlying t = some (.map kt et)) (hd : P.underlying kt = some d)
    (b : Nat) (l : List (κ × Value)) (hm : a.eval m = .map (some b)) (h : Is enc w b l) (k : κ) (val : Value) (hx : a.eval x = enc k) (hv : a.eval v = val)
    (hK : ∀ w', Is enc w' b (put k val l) → w.grownBy w' (some b) → wpList P ops Q rest (a.put o.dst undef) w') : wpList P ops Q (o :: rest) a w := by
  refine wpList_plain hg fun K' hK' => ?_
  obtain ⟨w', hrun, r1, r2⟩ := run_update h K ht hd k val
  unfold Oper.wp
  simp [execOp, hop, hm, hx, hv, hrun, Result.andThen]
  exact hK' _ _ (hK w' r1 r2)
theorem wp_len (w : World) (hg : o.guard = none) (m : Operand) (t : TypeId) (hop : o.op = Op.call { callee := Callee.builtin Builtin.len, args := #[m], argTypes := #[t] }) (kt et : TypeId) (ht : P.underlying t = some (.map kt et))
    (b : Nat) (l : List (κ × Value)) (hm : a.eval m = .map (some b)) (h : Is enc w b l) (hK : wpList P ops Q rest (a.put o.dst (.int .i64 l.length)) w) : wpList P ops Q (o :: rest) a w := by
  refine wpList_plain hg fun K' hK' => ?_
  unfold Oper.wp
  simp [execOp, hop, resolve, invoke, builtin, hm, run_len h ht o.type, Result.andThen]
  exact hK' _ _ hK
theorem wp_lookup_ok (w : World) (hg : o.guard = none) (m x : Operand) (t : TypeId) (hop : o.op = Op.lookup t m x true) (kt et : TypeId) (K : Keyed d enc) (ht : P.underlying t = some (.map kt et)) (hd : P.underlying kt = some d) (z : Value)
    (hz : (zeroValue et).run P w = .ok z w) (b : Nat) (l : List (κ × Value)) (hm : a.eval m = .map (some b)) (h : Is enc w b l) (k : κ) (hx : a.eval x = enc k)
    (hK : wpList P ops Q rest (a.put o.dst (.tuple #[(look k l).getD z, .bool (look k l).isSome])) w) : wpList P ops Q (o :: rest) a w := by
  refine wpList_plain hg fun K' hK' => ?_
  unfold Oper.wp
  simp [execOp, hop, hm, hx, run_lookup_ok h K ht hd hz k, Result.andThen]
  exact hK' _ _ hK
theorem wp_lookup (w : World) (hg : o.guard = none) (m x : Operand) (t : TypeId) (hop : o.op = Op.lookup t m x false) (kt et : TypeId) (K : Keyed d enc) (ht : P.underlying t = some (.map kt et)) (hd : P.underlying kt = some d) (z : Value)
    (hz : (zeroValue et).run P w = .ok z w) (b : Nat) (l : List (κ × Value)) (hm : a.eval m = .map (some b)) (h : Is enc w b l) (k : κ) (hx : a.eval x = enc k)
    (hK : wpList P ops Q rest (a.put o.dst ((look k l).getD z)) w) : wpList P ops Q (o :: rest) a w := by
  refine wpList_plain hg fun K' hK' => ?_
  unfold Oper.wp
  simp [execOp, hop, hm, hx, run_lookup h K ht hd hz k, Result.andThen]
  exact hK' _ _ hK
end
end Go.Proofs.YtohlbnbfpcbpdaaDoor.MapL
