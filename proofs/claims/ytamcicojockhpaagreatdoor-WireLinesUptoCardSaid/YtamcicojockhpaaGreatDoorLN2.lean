/- What WireLines stands on, part 2. -/
import Derived.Test.YtamcicojockhpaaGreatDoorLN1
set_option linter.unusedVariables false
set_option linter.unusedSimpArgs false
section
set_option linter.unusedVariables false
set_option linter.unusedSimpArgs false
namespace Go.Proofs.YtamcicojockhpaaGreatDoor.Tr
open Go Go.Proofs.YtamcicojockhpaaGreatDoor.Lx Go.Proofs.YtamcicojockhpaaGreatDoor.PS
abbrev V := S51
def toB (l : List UInt8) : ByteArray := ⟨l.toArray⟩
def tokAt (ts : List Tk) (len p : Nat) : Tk := ts.getD p ⟨0, [], 0, len⟩
def wNul : List UInt8 := [110, 117, 108, 108]
def wTru : List UInt8 := [116, 114, 117, 101]
def nulV : V := ⟨1, 0, ⟨#[]⟩, [], []⟩
def wordV (t : List UInt8) : V := if t = wNul then nulV else if t = wTru then ⟨2, 1, ⟨#[]⟩, [], []⟩ else ⟨2, 0, ⟨#[]⟩, [], []⟩
inductive PRes where
 | ok (v : V) (p : Nat)
 | bad (c a : Nat)
def hasN (t : List UInt8) (nm : List ByteArray) : Bool := nm.any fun x => x.data.toList == t
mutual
/-- The value that begins at a token, with so many open. -/
def valP (ts : List Tk) (len : Nat) : Nat → Nat → Nat → Option PRes
 | 0, _, _ => none
 | f + 1, o, p =>
  if (tokAt ts len p).kind = 8 then some (.ok ⟨3, (tokAt ts len p).num, ⟨#[]⟩, [], []⟩ (p + 1))
  else if (tokAt ts len p).kind = 7 then some (.ok ⟨4, 0, toB (tokAt ts len p).text, [], []⟩ (p + 1))
  else if (tokAt ts len p).kind = 9 then some (.ok (wordV (tokAt ts len p).text) (p + 1))
  else if (tokAt ts len p).kind = 3 then (if o = 8 then some (.bad 21 (tokAt ts len p).pos) else arrP ts len f (o + 1) (p + 1) [])
  else if (tokAt ts len p).kind = 1 then (if o = 8 then some (.bad 21 (tokAt ts len p).pos) else mapP ts len f (o + 1) (p + 1) [] [])
  else some (.bad 20 (tokAt ts len p).pos)
/-- An array from behind its first token, or behind a comma, on. -/
def arrP (ts : List Tk) (len : Nat) : Nat → Nat → Nat → List V → Option PRes
 | 0, _, _, _ => none
 | f + 1, o, p, acc =>
  if (tokAt ts len p).kind = 4 then some (.ok ⟨5, 0, ⟨#[]⟩, acc, []⟩ (p + 1)) else
  match valP ts len f o p with
  | none => none
  | some (.bad c a) => some (.bad c a)
  | some (.ok v p1) =>
   if (tokAt ts len p1).kind = 4 then some (.ok ⟨5, 0, ⟨#[]⟩, acc ++ [v], []⟩ (p1 + 1))
   else if (tokAt ts len p1).kind ≠ 6 then some (.bad 20 (tokAt ts len p1).pos)
   else if (tokAt ts len (p1 + 1)).kind = 4 then some (.bad 20 (tokAt ts len (p1 + 1)).pos)
   else arrP ts len f o (p1 + 1) (acc ++ [v])
/-- A map from behind its first token, or behind a comma, on. -/
def mapP (ts : List Tk) (len : Nat) : Nat → Nat → Nat → List V → List ByteArray → Option PRes
 | 0, _, _, _, _ => none
 | f + 1, o, p, acc, nm =>
  if (tokAt ts len p).kind = 2 then some (.ok ⟨6, 0, ⟨#[]⟩, acc, nm⟩ (p + 1))
  else if (tokAt ts len p).kind ≠ 7 then some (.bad 20 (tokAt ts len p).pos)
  else if hasN (tokAt ts len p).text nm = true then some (.bad 3 (tokAt ts len p).pos)
  else if (tokAt ts len (p + 1)).kind ≠ 5 then some (.bad 20 (tokAt ts len (p + 1)).pos) else
  match valP ts len f o (p + 2) with
  | none => none
  | some (.bad c a) => some (.bad c a)
  | some (.ok v p1) =>
   if (tokAt ts len p1).kind = 2 then some (.ok ⟨6, 0, ⟨#[]⟩, acc ++ [v], nm ++ [toB (tokAt ts len p).text]⟩ (p1 + 1))
   else if (tokAt ts len p1).kind ≠ 6 then some (.bad 20 (tokAt ts len p1).pos)
   else if (tokAt ts len (p1 + 1)).kind = 2 then some (.bad 20 (tokAt ts len (p1 + 1)).pos)
   else mapP ts len f o (p1 + 1) (acc ++ [v]) (nm ++ [toB (tokAt ts len p).text])
end
def zV : V := ⟨0, 0, ⟨#[]⟩, [], []⟩
def parseR (s : List UInt8) : V × Nat × Nat := match tokensR s with
 | (ts, 0, _) => (match valP ts s.length (2 * ts.length + 2) 0 0 with
  | none => (zV, 0, 0)
  | some (.bad c a) => (zV, c, a)
  | some (.ok v p) => if (tokAt ts s.length p).kind = 0 then (v, 0, 0) else (zV, 20, (tokAt ts s.length p).pos))
 | (_, c, a) => (zV, c, a)
end Go.Proofs.YtamcicojockhpaaGreatDoor.Tr
end
section
set_option linter.unusedVariables false
set_option linter.unusedSimpArgs false
namespace Go.Proofs.YtamcicojockhpaaGreatDoor.Tr
open Go.RowKit Go.Proofs.YtamcicojockhpaaGreatDoorW.PrintWords Go.Proofs.YtamcicojockhpaaGreatDoorW.PrintLast Go.Proofs.YtamcicojockhpaaGreatDoorW.PrintMore
open Go.Proofs.YtamcicojockhpaaGreatDoor.Lx Go.Proofs.YtamcicojockhpaaGreatDoor.PS
theorem fld0 (a b c d : Value) (W : World) : (Instr.field 92 (.agg #[a, b, c, d]) 0).run Tryz.prog W = .ok a W := by kernel_rfl
theorem fld1 (a b c d : Value) (W : World) : (Instr.field 92 (.agg #[a, b, c, d]) 1).run Tryz.prog W = .ok b W := by kernel_rfl
theorem fld2 (a b c d : Value) (W : World) : (Instr.field 92 (.agg #[a, b, c, d]) 2).run Tryz.prog W = .ok c W := by kernel_rfl
theorem fld3 (a b c d : Value) (W : World) : (Instr.field 92 (.agg #[a, b, c, d]) 3).run Tryz.prog W = .ok d W := by kernel_rfl
attribute [local go_sem high] fld0 fld1 fld2 fld3
theorem blk_set4 {w : World} {b : Nat} {t : TypeId} {a0 a1 a2 a3 : Value} (h : w.heap[b]? = some (.cells #[a0, a1, a2, a3] t (0, 0))) (v0 v1 v2 v3 : Value) :
 ((((w.setCell ⟨b, 0, none⟩ v0).setCell ⟨b, 1, none⟩ v1).setCell ⟨b, 2, none⟩ v2).setCell ⟨b, 3, none⟩ v3).heap[b]? = some (.cells #[v0, v1, v2, v3] t (0, 0)) :=
 blk_put (blk_put (blk_put (blk_put h 0 v0 rfl) 1 v1 rfl) 2 v2 rfl) 3 v3 rfl
theorem far1 {w : World} {g b j : Nat} {x : Obj} (h : w.heap[g]? = some x) (hne : g ≠ b) (v : Value) : (w.setCell ⟨b, j, none⟩ v).heap[g]? = some x := (Below.heap_setCell w ⟨b, j, none⟩ v g hne).trans h
theorem far4 {w : World} {g b : Nat} {x : Obj} (h : w.heap[g]? = some x) (hne : g ≠ b) (v0 v1 v2 v3 : Value) :
 ((((w.setCell ⟨b, 0, none⟩ v0).setCell ⟨b, 1, none⟩ v1).setCell ⟨b, 2, none⟩ v2).setCell ⟨b, 3, none⟩ v3).heap[g]? = some x := far1 (far1 (far1 (far1 h hne _) hne _) hne _) hne _
theorem keep4 {r b : Nat} {w w1 : World} (h : KeepR r w w1) (hr : r < w.heap.size) (hb : w.heap.size ≤ b) (v0 v1 v2 v3 : Value) : KeepR r w ((((w1.setCell ⟨b, 0, none⟩ v0).setCell ⟨b, 1, none⟩ v1).setCell ⟨b, 2, none⟩ v2).setCell ⟨b, 3, none⟩ v3) :=
 (((h.setHi hr b 0 v0 hb).setHi hr b 1 v1 hb).setHi hr b 2 v2 hb).setHi hr b 3 v3 hb
theorem cellA {w : World} {a : Addr} {v : Value} (h : w.cell? a = some v) (o : Obj) : (w.alloc o).cell? a = some v := (((Below.refl w.heap.size w).alloc (Nat.le_refl _) o).cell (World.block_lt_of_cell? w _ h)).trans h
theorem blkA {w : World} {b : Nat} {x : Obj} (h : w.heap[b]? = some x) (o : Obj) : (w.alloc o).heap[b]? = some x := blk_alloc h o
def RowG (ts : List Tk) (len : Nat) (G : Obj) : Prop := ∃ cur, G = .cells cur 92 (0, 0) ∧ ∀ i, i ≤ ts.length → cur[4 * i]? = some (.int .i64 (tokAt ts len i).kind) ∧ cur[4 * i + 1]? = some (.string ⟨(tokAt ts len i).text.toArray⟩) ∧
 cur[4 * i + 2]? = some (.int .i64 (tokAt ts len i).num) ∧ cur[4 * i + 3]? = some (.int .i64 (tokAt ts len i).pos)
structure Pz (ts : List Tk) (len : Nat) (G : Obj) (g b p o : Nat) (w : World) : Prop where
 blk : ∃ c, w.heap[b]? = some (.cells #[.slice (some ⟨g, 4 * p, none⟩) (ts.length + 1 - p) c, .int .i64 o] 94 (0, 0)) ∧ ts.length + 1 - p ≤ c
 row : w.heap[g]? = some G
 le : p ≤ ts.length
 ne : g ≠ b
theorem Pz.cells {ts : List Tk} {len : Nat} {G : Obj} {g b p o : Nat} {w : World} (h : Pz ts len G g b p o w) (hG : RowG ts len G) : w.cell? ⟨g, 4 * p, none⟩ = some (.int .i64 (tokAt ts len p).kind) ∧ w.cell? ⟨g, 4 * p + 1, none⟩ = some (.string ⟨(tokAt ts len p).text.toArray⟩) ∧
 w.cell? ⟨g, 4 * p + 2, none⟩ = some (.int .i64 (tokAt ts len p).num) ∧ w.cell? ⟨g, 4 * p + 3, none⟩ = some (.int .i64 (tokAt ts len p).pos) := by
 obtain ⟨cur, rfl, hc⟩ := hG
 obtain ⟨h0, h1, h2, h3⟩ := hc p h.le
 have hr := h.row
 exact ⟨(blk_cell hr _).trans h0, (blk_cell hr _).trans h1, (blk_cell hr _).trans h2, (blk_cell hr _).trans h3⟩
theorem Pz.keep {ts : List Tk} {len : Nat} {G : Obj} {g b p o : Nat} {w w' : World} (h : Pz ts len G g b p o w) (hb : Below w.heap.size w w') : Pz ts len G g b p o w' := by
 obtain ⟨⟨c, h1, h2⟩, h3, h4, h5⟩ := h
 exact ⟨⟨c, blk_below h1 hb, h2⟩, blk_below h3 hb, h4, h5⟩
set_option maxRecDepth 100000 in
theorem peek_calls (ts : List Tk) (len : Nat) (G : Obj) (hG : RowG ts len G) (g b p o : Nat) (w : World) (h : Pz ts len G g b p o w) :
 Calls Tryz.prog 82 #[.pointer (some ⟨b, 0, none⟩)] w fun e w' => e = .returned (tkV (tokAt ts len p)) ∧ Below w.heap.size w w' := by
 obtain ⟨t0, t1, t2, t3⟩ := h.cells hG
 obtain ⟨⟨c, hb, hc⟩, hrow, hle, hne⟩ := h
 have c0 : w.cell? ⟨b, 0, none⟩ = some (.slice (some ⟨g, 4 * p, none⟩) (ts.length + 1 - p) c) := blk_cell hb 0
 have hgl := blk_lt hrow
 have hbl := blk_lt hb
 have hn1 : g ≠ w.heap.size := by omega
 have hn2 : b ≠ w.heap.size := by omega
 have hpos : 0 < ts.length + 1 - p := by omega
 unfold tkV
 generalize tokAt ts len p = t at *
 clear hb hrow
 go_enter Tryz.func82, Tryz.ntmps82
 go_wp2
 exact bodyPost_ret (by simp [results, Tryz.results82, go_sem]) rfl ⟨rfl, (Below.refl _ _).alloc (Nat.le_refl _) _⟩
def wrongV (c a : Nat) : Value := .iface 88 (.agg #[.int .i64 c, .int .i64 a])
set_option maxRecDepth 100000 in
theorem refuse_calls (ts : List Tk) (len : Nat) (G : Obj) (hG : RowG ts len G) (g b p o : Nat) (code : Nat) (w : World) (h : Pz ts len G g b p o w) :
 Calls Tryz.prog 89 #[.pointer (some ⟨b, 0, none⟩), .int .i64 code] w fun e w' => e = .panicked [{ v := wrongV code (tokAt ts len p).pos, recovered := false }] ∧ Below w.heap.size w w' := by
 have H := Aside0.mk (peek_calls ts len G hG g b p o w h)
 unfold tkV at H
 clear h
 go_enter Tryz.func89, Tryz.ntmps89
 go_wp2_with fail
 refine H.out.mono ?_
 rintro e w1 ⟨rfl, hb⟩
 have HB := Aside0.mk hb
 clear hb
 go_wp2
 exact ⟨rfl, rfl, HB.out⟩
set_option maxRecDepth 100000 in
theorem res_next (tmps : Array Value) (w : World) (b : Nat) (v0 v1 v2 v3 : Value) (h4 : tmps.getD 4 undef = .pointer (some ⟨b, 0, none⟩)) (hb : w.heap[b]? = some (.cells #[v0, v1, v2, v3] 92 (0, 0))) :
 (results Tryz.f54 tmps).run Tryz.prog w = .ok (.agg #[v0, v1, v2, v3]) w := by
 have c0 := blk_cell hb 0
 have c1 := blk_cell hb 1
 have c2 := blk_cell hb 2
 have c3 := blk_cell hb 3
 rw [Array.getD_eq_getD_getElem?] at h4
 simp [results, Tryz.results54, h4, c0, c1, c2, c3, go_sem]
set_option maxRecDepth 100000 in
theorem next_ok (ts : List Tk) (len : Nat) (G : Obj) (hG : RowG ts len G) (g b p o : Nat) (w : World) (h : Pz ts len G g b p o w) (hp : p < ts.length) (hl : ts.length ≤ 1000000) :
 Calls Tryz.prog 54 #[.pointer (some ⟨b, 0, none⟩), .int .i64 (tokAt ts len p).kind] w fun e w' => e = .returned (tkV (tokAt ts len p)) ∧ Pz ts len G g b (p + 1) o w' ∧ KeepR b w w' := by
 have HG := Aside0.mk hG
 have H := Aside0.mk h
 clear h hG
 go_enter Tryz.func54, Tryz.ntmps54
 go_wp2_with fail
 have hb0 : Below w.heap.size w (w.alloc (.cells #[.int .i64 0, .string ⟨#[]⟩, .int .i64 0, .int .i64 0] 92)) := (Below.refl _ _).alloc (Nat.le_refl _) _
 refine (peek_calls ts len G HG.out g b p o _ (H.out.keep hb0)).mono ?_
 rintro e w1 ⟨rfl, hb1⟩
 have HB1 := Aside0.mk (hb0.trans (hb1.mono (by simp)))
 have hx1 := blk_below (blk_new w (.cells #[.int .i64 0, .string ⟨#[]⟩, .int .i64 0, .int .i64 0] 92)) hb1
 have HX1 := Aside0.mk hx1
 have hsz1 : w.heap.size < w1.heap.size := blk_lt hx1
 obtain ⟨⟨c, hbk, hc⟩, hrow, hle, hne⟩ := H.out.keep HB1.out
 have HBK := Aside0.mk hbk
 have HROW := Aside0.mk hrow
 have c0 : w1.cell? ⟨b, 0, none⟩ = some (.slice (some ⟨g, 4 * p, none⟩) (ts.length + 1 - p) c) := blk_cell hbk 0
 have fb := fun j => blk_frozen hbk j
 have hbl : b < w.heap.size := by
  obtain ⟨⟨c, hbk, _⟩, _⟩ := H.out
  exact blk_lt hbk
 have d0 : w1.cell? ⟨w.heap.size, 0, none⟩ = some (.int .i64 0) := blk_cell hx1 0
 have d1 : w1.cell? ⟨w.heap.size, 1, none⟩ = some (.string ⟨#[]⟩) := blk_cell hx1 1
 have d2 : w1.cell? ⟨w.heap.size, 2, none⟩ = some (.int .i64 0) := blk_cell hx1 2
 have d3 : w1.cell? ⟨w.heap.size, 3, none⟩ = some (.int .i64 0) := blk_cell hx1 3
 have c0' := cellA c0
 have fb' : ∀ o j, (w1.alloc o).frozen? ⟨b, j, none⟩ = false := fun o j => blk_frozen (blkA hbk o) j
 have d0' := cellA d0
 have d1' := cellA d1
 have d2' := cellA d2
 have d3' := cellA d3
 have fd' : ∀ o j, (w1.alloc o).frozen? ⟨w.heap.size, j, none⟩ = false := fun o j => blk_frozen (blkA hx1 o) j
 have hn5 : 1 ≤ ts.length + 1 - p := by omega
 have hn6 : 1 < c := by omega
 have fd := fun j => blk_frozen hx1 j
 have hn1 : b ≠ w.heap.size := by omega
 have hn2 : b ≠ w1.heap.size := by omega
 have hn3 : w.heap.size ≠ w1.heap.size := by omega
 have hn2' : w1.heap.size ≠ b := by omega
 have hn1' : w.heap.size ≠ b := by omega
 have hn3' : w1.heap.size ≠ w.heap.size := by omega
 clear hb0 hb1 hx1 hbk hrow
 unfold tkV
 generalize ht : tokAt ts len p = t at *
 have HT := Aside0.mk ht
 clear ht
 go_wp2
 have hp1 : ts.length + 1 - p - 1 = ts.length + 1 - (p + 1) := by omega
 have hp2 : 4 * p + 4 = 4 * (p + 1) := by omega
 have hgl : g < w1.heap.size := blk_lt HROW.out
 have hgs : g ≠ w.heap.size := by
  have := blk_lt H.out.row
  omega
 refine bodyPost_ret (v := .agg #[.int .i64 t.kind, .string ⟨t.text.toArray⟩, .int .i64 t.num, .int .i64 t.pos]) (res_next _ _ w.heap.size _ _ _ _ rfl (blk_set4 (far1 (blkA HX1.out _) hn1' _) _ _ _ _)) rfl ⟨by rw [HT.out]; rfl, ⟨⟨c - 1, ?_, by omega⟩, far4 (far1 (blkA HROW.out _) hne _) hgs _ _ _ _, by omega, hne⟩, ?_⟩
 · rw [← hp1, ← hp2]
   exact far4 (blk_put (blkA HBK.out _) 0 _ rfl) hn1 _ _ _ _
 · exact keep4 ((KeepR.of_below (HB1.out.alloc (by omega) _) hbl).set 0 _) hbl (Nat.le_refl _) _ _ _ _
set_option maxRecDepth 100000 in
theorem next_bad (ts : List Tk) (len : Nat) (G : Obj) (hG : RowG ts len G) (g b p o k : Nat) (w : World) (h : Pz ts len G g b p o w) (hk : (tokAt ts len p).kind ≠ k) :
 Calls Tryz.prog 54 #[.pointer (some ⟨b, 0, none⟩), .int .i64 k] w fun e w' => e = .panicked [{ v := wrongV 20 (tokAt ts len p).pos, recovered := false }] ∧ Below w.heap.size w w' := by
 have HG := Aside0.mk hG
 have H := Aside0.mk h
 clear h hG
 have hq : (((tokAt ts len p).kind : Int) == (k : Int)) = false := by simp; omega
 clear hk
 go_enter Tryz.func54, Tryz.ntmps54
 go_wp2_with fail
 have hb0 : Below w.heap.size w (w.alloc (.cells #[.int .i64 0, .string ⟨#[]⟩, .int .i64 0, .int .i64 0] 92)) := (Below.refl _ _).alloc (Nat.le_refl _) _
 refine (peek_calls ts len G HG.out g b p o _ (H.out.keep hb0)).mono ?_
 rintro e w1 ⟨rfl, hb1⟩
 have HB1 := Aside0.mk (hb0.trans (hb1.mono (by simp)))
 have hsz1 : w.heap.size ≤ w1.heap.size := HB1.out.size
 clear hb0 hb1
 have HB2 := Aside0.mk (HB1.out.alloc hsz1 (.cells #[.int .i64 (tokAt ts len p).kind, .string ⟨(tokAt ts len p).text.toArray⟩, .int .i64 (tokAt ts len p).num, .int .i64 (tokAt ts len p).pos] 92))
 unfold tkV
 generalize ht : tokAt ts len p = t at *
 have HT := Aside0.mk ht
 clear ht
 go_wp2_with fail
 refine (refuse_calls ts len G HG.out g b p o 20 _ (H.out.keep HB2.out)).mono ?_
 rintro e w2 ⟨rfl, hb2⟩
 exact ⟨rfl, rfl, HB2.out.trans (hb2.mono (by simp; omega))⟩
def leafV (v : V) : Value := .agg #[.int .i64 v.f0, .int .i64 v.f1, .string v.f2, .slice none 0 0, .slice none 0 0]
theorem blk_set5 {w : World} {b : Nat} {t : TypeId} {a0 a1 a2 a3 a4 : Value} (h : w.heap[b]? = some (.cells #[a0, a1, a2, a3, a4] t (0, 0))) (v0 v1 v2 v3 v4 : Value) :
 (((((w.setCell ⟨b, 0, none⟩ v0).setCell ⟨b, 1, none⟩ v1).setCell ⟨b, 2, none⟩ v2).setCell ⟨b, 3, none⟩ v3).setCell ⟨b, 4, none⟩ v4).heap[b]? = some (.cells #[v0, v1, v2, v3, v4] t (0, 0)) :=
 blk_put (blk_put (blk_put (blk_put (blk_put h 0 v0 rfl) 1 v1 rfl) 2 v2 rfl) 3 v3 rfl) 4 v4 rfl
theorem far5 {w : World} {g b : Nat} {x : Obj} (h : w.heap[g]? = some x) (hne : g ≠ b) (v0 v1 v2 v3 v4 : Value) :
 (((((w.setCell ⟨b, 0, none⟩ v0).setCell ⟨b, 1, none⟩ v1).setCell ⟨b, 2, none⟩ v2).setCell ⟨b, 3, none⟩ v3).setCell ⟨b, 4, none⟩ v4).heap[g]? = some x := far1 (far1 (far1 (far1 (far1 h hne _) hne _) hne _) hne _) hne _
theorem below5 {B b : Nat} {w w' : World} (h : Below B w w') (hb : B ≤ b) (v0 v1 v2 v3 v4 : Value) : Below B w (((((w'.setCell ⟨b, 0, none⟩ v0).setCell ⟨b, 1, none⟩ v1).setCell ⟨b, 2, none⟩ v2).setCell ⟨b, 3, none⟩ v3).setCell ⟨b, 4, none⟩ v4) :=
 ((((h.setCell (p := ⟨b, 0, none⟩) hb _).setCell (p := ⟨b, 1, none⟩) hb _).setCell (p := ⟨b, 2, none⟩) hb _).setCell (p := ⟨b, 3, none⟩) hb _).setCell (p := ⟨b, 4, none⟩) hb _
theorem keep5 {r b : Nat} {w w1 : World} (h : KeepR r w w1) (hr : r < w.heap.size) (hb : w.heap.size ≤ b) (v0 v1 v2 v3 v4 : Value) : KeepR r w (((((w1.setCell ⟨b, 0, none⟩ v0).setCell ⟨b, 1, none⟩ v1).setCell ⟨b, 2, none⟩ v2).setCell ⟨b, 3, none⟩ v3).setCell ⟨b, 4, none⟩ v4) :=
 ((((h.setHi hr b 0 v0 hb).setHi hr b 1 v1 hb).setHi hr b 2 v2 hb).setHi hr b 3 v3 hb).setHi hr b 4 v4 hb
theorem res_word (tmps : Array Value) (w : World) (b : Nat) (v0 v1 v2 v3 v4 : Value) (h4 : tmps.getD 2 undef = .pointer (some ⟨b, 0, none⟩)) (hb : w.heap[b]? = some (.cells #[v0, v1, v2, v3, v4] 51 (0, 0))) :
 (results Tryz.f83 tmps).run Tryz.prog w = .ok (.agg #[v0, v1, v2, v3, v4]) w := by
 have c0 := blk_cell hb 0
 have c1 := blk_cell hb 1
 have c2 := blk_cell hb 2
 have c3 := blk_cell hb 3
 have c4 := blk_cell hb 4
 rw [Array.getD_eq_getD_getElem?] at h4
 simp [results, Tryz.results83, h4, c0, c1, c2, c3, c4, go_sem]
set_option maxRecDepth 100000 in
theorem word_calls (t : List UInt8) (w : World) : Calls Tryz.prog 83 #[.string ⟨t.toArray⟩] w fun e w' => e = .returned (leafV (wordV t)) ∧ Below w.heap.size w w' := by
 unfold wordV leafV
 by_cases e1 : t = wNul
 · subst e1
   rw [if_pos rfl]
   unfold wNul
   go_enter Tryz.func83, Tryz.ntmps83
   go_wp2
   exact bodyPost_ret (res_word _ _ w.heap.size _ _ _ _ _ rfl (blk_new _ _)) rfl ⟨rfl, (Below.refl _ _).alloc (Nat.le_refl _) _⟩
 · have b1 : (t == [110, 117, 108, 108]) = false := beq_eq_false_iff_ne.2 e1
   rw [if_neg e1]
   clear e1
   by_cases e2 : t = wTru
   · subst e2
     rw [if_pos rfl]
     unfold wTru at *
     go_enter Tryz.func83, Tryz.ntmps83
     go_wp2
     exact bodyPost_ret (res_word _ _ w.heap.size _ _ _ _ _ rfl (blk_new _ _)) rfl ⟨rfl, (Below.refl _ _).alloc (Nat.le_refl _) _⟩
   · have b2 : (t == [116, 114, 117, 101]) = false := beq_eq_false_iff_ne.2 e2
     rw [if_neg e2]
     clear e2
     go_enter Tryz.func83, Tryz.ntmps83
     go_wp2
     exact bodyPost_ret (res_word _ _ w.heap.size _ _ _ _ _ rfl (blk_new _ _)) rfl ⟨rfl, (Below.refl _ _).alloc (Nat.le_refl _) _⟩
end Go.Proofs.YtamcicojockhpaaGreatDoor.Tr
end
section
set_option linter.unusedVariables false
set_option linter.unusedSimpArgs false
namespace Go.Proofs.YtamcicojockhpaaGreatDoor.Wi
open Go.RowKit Go.Proofs.YtamcicojockhpaaGreatDoorW.PrintWords Go.Proofs.YtamcicojockhpaaGreatDoorW.PrintLast Go.Proofs.YtamcicojockhpaaGreatDoorW.PrintMore
open Go.Proofs.YtamcicojockhpaaGreatDoor.Lx Go.Proofs.YtamcicojockhpaaGreatDoor.PS
open Go.Proofs.YtamcicojockhpaaGreatDoor.Tr (cellA)
def cArg (x : Cl) (A4 : Option Addr) (c4 : Nat) : Value := .agg #[.int .i64 x.f0, .string x.f1, .int .i64 x.f2, .bool x.f3, .slice A4 x.f4.length c4]
def TellC (xs : List Cl) (pr : Cl → Bool) (fid : FuncId) (caps : Array Value) (w : World) : Prop :=
 ∀ x ∈ xs, ∀ (A4 : Option Addr) (c4 : Nat) (w1 : World), Below w.heap.size w w1 → x.f4.length ≤ c4 → (Kd.int .i64).C w1 A4 x.f4.length x.f4 →
  Calls Tryz.prog fid (#[cArg x A4 c4] ++ caps) w1 fun e w' => e = .returned (.bool (pr x)) ∧ Below w1.heap.size w1 w'
set_option maxRecDepth 100000 in
set_option maxHeartbeats 1000000 in
theorem IndexFunc_calls (xs : List Cl) (pr : Cl → Bool) (fid : FuncId) (caps : Array Value) (A : Option Addr) (cc : Nat) (w : World) (hl : xs.length ≤ 1000000000000) (hen : ∀ (args : Array Value) (w : World), (callFunc fid args).run Tryz.prog w = .ok (.enter fid args) w)
 (hC : k43.C w A xs.length xs) (hT : TellC xs pr fid caps w) :
 Calls Tryz.prog 69 #[.slice A xs.length cc, .func (.func fid) #[] caps] w fun e w' => ∃ r : Int, e = .returned (.int .i64 r) ∧ (r ≥ 0 ↔ xs.any pr = true) ∧ Below w.heap.size w w' := by
 obtain ⟨bb, hbb⟩ : ∃ bb, bb = xs.any pr := ⟨_, rfl⟩
 rw [← hbb]
 have HBB := Aside0.mk hbb
 have HC := Aside0.mk hC
 have HT := Aside0.mk hT
 have HE := Aside0.mk hen
 clear hC hT hen hbb
 go_enter Tryz.func69, Tryz.ntmps69
 go_wp2
 go_loopg [5, 8] xs.length (fun kq v5 v8 w' => ∃ (k : Nat), k + kq = xs.length ∧ v8 = .int .i64 k ∧ Aside0 (∀ y ∈ xs.take k, pr y = false) ∧ Aside0 (Below w.heap.size w w'))
 case atStart => exact ⟨0, by simp, rfl, Aside0.mk (by simp), Aside0.mk (Below.refl _ _)⟩
 case round =>
  obtain ⟨k, hk, rfl, HI, HB⟩ := hrel
  cases gk with
  | zero =>
   have hge : ¬ ((k : Int) < (xs.length : Int)) := by omega
   have he : xs.any pr = false := by
    have h := HI.out
    rw [List.take_of_length_le (by omega)] at h
    rw [List.any_eq_false]
    exact fun y hy => by rw [h y hy]; exact Bool.false_ne_true
   have he2 := HBB.out
   rw [he] at he2
   subst he2
   clear he
   go_wp2
   go_ret
   exact ⟨-1, rfl, by simp, HB.out⟩
  | succ k1 =>
   have hlt : (k : Int) < (xs.length : Int) := by omega
   have hlt' : k < xs.length := by omega
   obtain ⟨ad, A4, c4, e, x0, x1, x2, x3, x4, l4, g4⟩ := at_T43 (Kd.C_below HC.out HB.out) k (by omega) hlt
   cases e
   have hrd : rd_T43 xs k = xs[k] := by simp [rd_T43, List.getD, List.getElem?_eq_getElem hlt']
   rw [hrd] at x0 x1 x2 x3 x4 l4 g4
   rw [Int.toNat_natCast] at x0 x1 x2 x3 x4
   have HCL := Aside0.mk (HT.out xs[k] (List.getElem_mem _) A4 c4 _ HB.out l4 g4)
   have HK := Aside0.mk hk
   have hpk := Aside0.mk (show xs.take (k + 1) = xs.take k ++ [xs[k]] from List.take_succ_eq_append_getElem hlt')
   have hmem := Aside0.mk (show xs[k] ∈ xs from List.getElem_mem _)
   clear hk hrd g4
   generalize xs[k] = x at *
   unfold cArg at HCL
   have he := HE.out
   go_wp2_with fail
   refine HCL.out.mono ?_
   clear he
   rintro e w3 ⟨rfl, hb3⟩
   have HB3 := Aside0.mk (HB.out.trans (hb3.mono HB.out.size))
   clear hb3
   cases hpx : pr x with
   | true =>
    have hb : bb = true := by
     rw [HBB.out, List.any_eq_true]
     exact ⟨x, hmem.out, hpx⟩
    subst hb
    go_wp2
    go_ret
    exact ⟨k, rfl, by simp, HB3.out⟩
   | false =>
    have HI2 := Aside0.mk (show ∀ y ∈ xs.take (k + 1), pr y = false by
     intro y hy
     rw [hpk.out, List.mem_append] at hy
     rcases hy with hy | hy
     · exact HI.out y hy
     · rw [List.mem_singleton.1 hy]
       exact hpx)
    clear hpx
    go_wp2
    go_roundg k1
    case measure => omega
    case rel => exact ⟨k + 1, by have := HK.out; omega, by go_num, HI2, HB3⟩
theorem ContainsFunc_calls (xs : List Cl) (pr : Cl → Bool) (fid : FuncId) (caps : Array Value) (A : Option Addr) (cc : Nat) (w : World) (hl : xs.length ≤ 1000000000000) (hen : ∀ (args : Array Value) (w : World), (callFunc fid args).run Tryz.prog w = .ok (.enter fid args) w)
 (hC : k43.C w A xs.length xs) (hT : TellC xs pr fid caps w) :
 Calls Tryz.prog 39 #[.slice A xs.length cc, .func (.func fid) #[] caps] w fun e w' => e = .returned (.bool (xs.any pr)) ∧ Below w.heap.size w w' := by
 obtain ⟨bb, hbb⟩ : ∃ bb, bb = xs.any pr := ⟨_, rfl⟩
 rw [← hbb]
 have H := Aside0.mk (IndexFunc_calls xs pr fid caps A cc w hl hen hC hT)
 rw [← hbb] at H
 clear hC hT hen hbb
 go_enter Tryz.func39, Tryz.ntmps39
 go_wp2_with fail
 refine H.out.mono ?_
 rintro e w' ⟨r, rfl, hr, hb⟩
 have HB := Aside0.mk hb
 have HR := Aside0.mk (show bb = decide (r ≥ 0) by cases bb <;> simp_all)
 clear hb hr
 go_wp2
 all_goals go_ret
 all_goals exact ⟨by rw [HR.out]; rfl, HB.out⟩
theorem check1_enters (args : Array Value) (w : World) : (callFunc 40 args).run Tryz.prog w = .ok (.enter 40 args) w := enters_ Tryz.func40 (by kernel_rfl) (by kernel_rfl) args w
set_option maxRecDepth 100000 in
set_option maxHeartbeats 1000000 in
theorem check1_calls (c : Cl) (A4 : Option Addr) (c4 : Nat) (b : Nat) (ev : Int) (w : World) (hl : c.f4.length ≤ 1000000000000) (l4 : c.f4.length ≤ c4) (g4 : (Kd.int .i64).C w A4 c.f4.length c.f4) (hb : w.cell? ⟨b, 1, none⟩ = some (.int .i64 ev)) :
 Calls Tryz.prog 40 #[cArg c A4 c4, .pointer (some ⟨b, 0, none⟩)] w fun e w' => e = .returned (.bool (!(soundC c ev))) ∧ Below w.heap.size w w' := by
 have hba := (Below.refl w.heap.size w).alloc (Nat.le_refl _) (.cells #[.int .i64 c.f0, .string c.f1, .int .i64 c.f2, .bool c.f3, .slice A4 c.f4.length c4] 43 (0, 0))
 have H := Aside0.mk (wire_sound.calls (2 * c.f4.length + 8) c.f0 c.f1 c.f2 c.f3 A4 c4 c.f4 ev (soundC c ev) _ (Kd.C_below g4 hba) l4 (sound_pure c ev hl _ (Nat.le_refl _)))
 have HB := Aside0.mk hba
 have cb := cellA hb
 have hlt := World.block_lt_of_cell? w _ hb
 have hne : b ≠ w.heap.size := Nat.ne_of_lt hlt
 unfold cArg
 clear hba g4 hb
 generalize soundC c ev = r at *
 go_enter Tryz.func40, Tryz.ntmps40
 go_wp2_with fail
 refine H.out.mono ?_
 rintro e w' ⟨rfl, hb'⟩
 have HB2 := Aside0.mk (HB.out.trans (hb'.mono HB.out.size))
 clear hb'
 go_wp2
 go_ret
 exact ⟨rfl, HB2.out⟩
def badE (e : Ev) : Bool := decide (e.f1 < 0) || (decide (e.f1 > 3) || (decide (e.f2.length > 16) || e.f2.any (fun c => !(soundC c e.f1))))
def checkR (l : List Ev) : Int := if l.length > 256 ∨ l.any badE = true then 1 else 0
def fitsE (e : Ev) : Prop := e.f2.length ≤ 1000000000000 ∧ ∀ c ∈ e.f2, c.f4.length ≤ 1000000000000
set_option maxRecDepth 100000 in
set_option maxHeartbeats 2000000 in
theorem Check_calls (l : List Ev) (A : Option Addr) (cc : Nat) (w : World) (hl : l.length ≤ 1000000000000) (hf : ∀ e ∈ l, fitsE e) (hC : k39.C w A l.length l) :
 Calls Tryz.prog 16 #[.slice A l.length cc] w fun e w' => e = .returned (.int .i64 (checkR l)) ∧ Below w.heap.size w w' := by
 have HC := Aside0.mk hC
 have HF := Aside0.mk hf
 have HR := Aside0.mk (show checkR l = if l.length > 256 ∨ l.any badE = true then 1 else 0 from rfl)
 generalize checkR l = res at *
 clear hC hf
 by_cases h256 : l.length > 256
 · have hgt : ((l.length : Int) > 256) := by omega
   have HE := Aside0.mk (show res = 1 by rw [HR.out, if_pos (.inl h256)])
   go_enter Tryz.func16, Tryz.ntmps16
   go_wp2
   go_ret
   exact ⟨by rw [HE.out]; rfl, Below.refl _ _⟩
 · have hgt : ¬ ((l.length : Int) > 256) := by omega
   have H256 := Aside0.mk h256
   clear h256
   go_enter Tryz.func16, Tryz.ntmps16
   go_wp2
   go_loopg [4, 10] l.length (fun kq v4 v10 w2 => ∃ k : Nat, k + kq = l.length ∧ v10 = .int .i64 k ∧ Aside0 (∀ e ∈ l.take k, badE e = false) ∧ Aside0 (Below w.heap.size w w2))
   case atStart => exact ⟨0, by omega, rfl, Aside0.mk (by simp), Aside0.mk (Below.refl _ _)⟩
   case round =>
    obtain ⟨k, hk, rfl, HI, HB⟩ := hrel
    cases gk with
    | zero =>
     have hge : ¬ ((k : Nat) : Int) < (l.length : Int) := by omega
     have HE := Aside0.mk (show res = 0 by
      rw [HR.out, if_neg]
      rintro (h | h)
      · exact H256.out h
      · rw [List.any_eq_true] at h
        obtain ⟨e, he, hb⟩ := h
        have h2 := HI.out
        rw [List.take_of_length_le (by omega)] at h2
        rw [h2 e he] at hb
        cases hb)
     go_wp2
     go_ret
     exact ⟨by rw [HE.out]; rfl, HB.out⟩
    | succ k1 =>
     have hlt : ((k : Nat) : Int) < (l.length : Int) := by omega
     have hlt' : k < l.length := by omega
     obtain ⟨ad, A2, c2, e', x0, x1, x2, l2, g2⟩ := at_T39 (Kd.C_below HC.out HB.out) k (by omega) hlt
     cases e'
     have hrd : rd_T39 l k = l[k] := by simp [rd_T39, List.getD, List.getElem?_eq_getElem hlt']
     rw [hrd] at x0 x1 x2 l2 g2
     rw [Int.toNat_natCast] at x0 x1 x2
     have hpk := Aside0.mk (show l.take (k + 1) = l.take k ++ [l[k]] from List.take_succ_eq_append_getElem hlt')
     have HBAD := Aside0.mk (show badE l[k] = true → res = 1 from fun h => by rw [HR.out, if_pos (.inr (List.any_eq_true.2 ⟨l[k], List.getElem_mem _, h⟩))])
     have HFE := Aside0.mk (HF.out l[k] (List.getElem_mem _))
     have HG := Aside0.mk (And.intro l2 g2)
     have HK := Aside0.mk hk
     clear hrd l2 g2 hk
     generalize l[k] = e at *
     have HBA := Aside0.mk ((Below.refl wr.heap.size wr).alloc (Nat.le_refl _) (.cells #[.int .i64 e.f0, .int .i64 e.f1, .slice A2 e.f2.length c2] 39 (0, 0)))
     have NV := Aside0.mk (blk_new wr (.cells #[.int .i64 e.f0, .int .i64 e.f1, .slice A2 e.f2.length c2] 39 (0, 0)))
     by_cases q1 : e.f1 < 0
     · have Q1 := Aside0.mk q1
       have HQ := Aside0.mk (HBAD.out (by unfold badE; simp [Q1.out]))
       go_wp2
       go_ret
       exact ⟨by rw [HQ.out]; rfl, HB.out.trans (HBA.out.mono HB.out.size)⟩
     · by_cases q2 : e.f1 > 3
       · have Q2 := Aside0.mk q2
         have HQ := Aside0.mk (HBAD.out (by unfold badE; simp [Q2.out]))
         go_wp2
         go_ret
         exact ⟨by rw [HQ.out]; rfl, HB.out.trans (HBA.out.mono HB.out.size)⟩
       · by_cases q3 : e.f2.length > 16
         · have q3' : (e.f2.length : Int) > 16 := by omega
           have Q3 := Aside0.mk q3
           have HQ := Aside0.mk (HBAD.out (by unfold badE; simp [Q3.out]))
           go_wp2
           go_ret
           exact ⟨by rw [HQ.out]; rfl, HB.out.trans (HBA.out.mono HB.out.size)⟩
         · have q3' : ¬ (e.f2.length : Int) > 16 := by omega
           have hmf : ∀ (fn : Fn) (first cap : Array Value) (w : World), (Instr.makeFunc fn first cap).run Tryz.prog w = .ok (.func fn first cap) w := fun _ _ _ _ => rfl
           have HN := Aside0.mk (And.intro q1 (And.intro q2 q3))
           go_wp2_with fail
           refine (ContainsFunc_calls e.f2 (fun c => !(soundC c e.f1)) 40 #[.pointer (some ⟨wr.heap.size, 0, none⟩)] A2 c2 _ HFE.out.1 check1_enters (Kd.C_below HG.out.2 HBA.out) ?_).mono ?_
           · intro c hc B4 e4 w1 hb1 m4 k4
             exact check1_calls c B4 e4 wr.heap.size e.f1 w1 (HFE.out.2 c hc) m4 k4 (blk_cell ((hb1.block _ (blk_lt NV.out)).trans NV.out) 1)
           · rintro e5 w5 ⟨rfl, hb5⟩
             have HB5 := Aside0.mk (HB.out.trans ((HBA.out.trans (hb5.mono HBA.out.size)).mono HB.out.size))
             clear hb5
             cases hany : e.f2.any (fun c => !(soundC c e.f1)) with
             | true =>
              have HQ := Aside0.mk (HBAD.out (by unfold badE; rw [hany]; simp))
              clear hany
              go_wp2
              go_ret
              exact ⟨by rw [HQ.out]; rfl, HB5.out⟩
             | false =>
              have HI2 := Aside0.mk (show ∀ y ∈ l.take (k + 1), badE y = false by
               intro y hy
               rw [hpk.out, List.mem_append] at hy
               rcases hy with hy | hy
               · exact HI.out y hy
               · rw [List.mem_singleton.1 hy]
                 unfold badE
                 rw [hany, decide_eq_false (show ¬ e.f1 < 0 by have := HN.out.1; omega), decide_eq_false (show ¬ e.f1 > 3 by have := HN.out.2.1; omega), decide_eq_false (show ¬ e.f2.length > 16 by have := HN.out.2.2; omega)]
                 rfl)
              clear hany
              go_wp2
              go_roundg k1
              case measure => omega
              case rel => exact ⟨k + 1, by have := HK.out; omega, by go_num, HI2, HB5⟩
end Go.Proofs.YtamcicojockhpaaGreatDoor.Wi
end
section
set_option linter.unusedVariables false
set_option linter.unusedSimpArgs false
namespace Go.Proofs.YtamcicojockhpaaGreatDoor.Tr
open Go.RowKit Go.Proofs.YtamcicojockhpaaGreatDoorW.PrintWords Go.Proofs.YtamcicojockhpaaGreatDoorW.PrintLast Go.Proofs.YtamcicojockhpaaGreatDoorW.PrintMore
open Go.Proofs.YtamcicojockhpaaGreatDoor.Lx Go.Proofs.YtamcicojockhpaaGreatDoor.PS
def vArg (x : V) (A3 : Option Addr) (c3 : Nat) (A4 : Option Addr) (c4 : Nat) : Value := .agg #[.int .i64 x.f0, .int .i64 x.f1, .string x.f2, .slice A3 x.f3.length c3, .slice A4 x.f4.length c4]
def TellC (xs : List V) (pr : V → Bool) (fid : FuncId) (caps : Array Value) (w : World) : Prop :=
 ∀ x ∈ xs, ∀ (A3 : Option Addr) (c3 : Nat) (A4 : Option Addr) (c4 : Nat) (w1 : World), Below w.heap.size w w1 → x.f3.length ≤ c3 → k51.C w1 A3 x.f3.length x.f3 → x.f4.length ≤ c4 → Kd.string.C w1 A4 x.f4.length x.f4 →
  Calls Tryz.prog fid (#[vArg x A3 c3 A4 c4] ++ caps) w1 fun e w' => e = .returned (.bool (pr x)) ∧ Below w1.heap.size w1 w'
theorem infoVal' : (Tryz.prog.info? 51).map (fun i => (i.zero, i.size, i.bytes)) = some (some (.agg #[.int .i64 0, .int .i64 0, .string ⟨#[]⟩, .slice none 0 0, .slice none 0 0]), 5, 80) := by kernel_rfl
set_option maxRecDepth 100000 in
set_option maxHeartbeats 1000000 in
theorem IndexFunc_calls (xs : List V) (pr : V → Bool) (fid : FuncId) (caps : Array Value) (A : Option Addr) (cc : Nat) (w : World) (hl : xs.length ≤ 1000000000000) (hen : ∀ (args : Array Value) (w : World), (callFunc fid args).run Tryz.prog w = .ok (.enter fid args) w)
 (hC : k51.C w A xs.length xs) (hT : TellC xs pr fid caps w) :
 Calls Tryz.prog 129 #[.slice A xs.length cc, .func (.func fid) #[] caps] w fun e w' => ∃ r : Int, e = .returned (.int .i64 r) ∧ (r ≥ 0 ↔ xs.any pr = true) ∧ Below w.heap.size w w' := by
 obtain ⟨bb, hbb⟩ : ∃ bb, bb = xs.any pr := ⟨_, rfl⟩
 rw [← hbb]
 have HBB := Aside0.mk hbb
 have HC := Aside0.mk hC
 have HT := Aside0.mk hT
 have HE := Aside0.mk hen
 clear hC hT hen hbb
 go_enter Tryz.func129, Tryz.ntmps129
 go_wp2
 go_loopg [5, 8] xs.length (fun kq v5 v8 w' => ∃ (k : Nat), k + kq = xs.length ∧ v8 = .int .i64 k ∧ Aside0 (∀ y ∈ xs.take k, pr y = false) ∧ Aside0 (Below w.heap.size w w'))
 case atStart => exact ⟨0, by simp, rfl, Aside0.mk (by simp), Aside0.mk (Below.refl _ _)⟩
 case round =>
  obtain ⟨k, hk, rfl, HI, HB⟩ := hrel
  cases gk with
  | zero =>
   have hge : ¬ ((k : Int) < (xs.length : Int)) := by omega
   have he : xs.any pr = false := by
    have h := HI.out
    rw [List.take_of_length_le (by omega)] at h
    rw [List.any_eq_false]
    exact fun y hy => by rw [h y hy]; exact Bool.false_ne_true
   have he2 := HBB.out
   rw [he] at he2
   subst he2
   clear he
   go_wp2
   go_ret
   exact ⟨-1, rfl, by simp, HB.out⟩
  | succ k1 =>
   have hlt : (k : Int) < (xs.length : Int) := by omega
   have hlt' : k < xs.length := by omega
   obtain ⟨ad, A3, c3, A4, c4, e, x0, x1, x2, x3, x4, l3, g3, l4, g4⟩ := at_T51 (Kd.C_below HC.out HB.out) k (by omega) hlt
   cases e
   have hrd : rd_T51 xs k = xs[k] := by simp [rd_T51, List.getD, List.getElem?_eq_getElem hlt']
   rw [hrd] at x0 x1 x2 x3 x4 l3 g3 l4 g4
   rw [Int.toNat_natCast] at x0 x1 x2 x3 x4
   have HCL := Aside0.mk (HT.out xs[k] (List.getElem_mem _) A3 c3 A4 c4 _ HB.out l3 g3 l4 g4)
   have HK := Aside0.mk hk
   have hpk := Aside0.mk (show xs.take (k + 1) = xs.take k ++ [xs[k]] from List.take_succ_eq_append_getElem hlt')
   have hmem := Aside0.mk (show xs[k] ∈ xs from List.getElem_mem _)
   clear hk hrd g3 g4
   generalize xs[k] = x at *
   unfold vArg at HCL
   have he := HE.out
   go_wp2_with fail
   refine HCL.out.mono ?_
   clear he
   rintro e w3 ⟨rfl, hb3⟩
   have HB3 := Aside0.mk (HB.out.trans (hb3.mono HB.out.size))
   clear hb3
   cases hpx : pr x with
   | true =>
    have hb : bb = true := by
     rw [HBB.out, List.any_eq_true]
     exact ⟨x, hmem.out, hpx⟩
    subst hb
    go_wp2
    go_ret
    exact ⟨k, rfl, by simp, HB3.out⟩
   | false =>
    have HI2 := Aside0.mk (show ∀ y ∈ xs.take (k + 1), pr y = false by
     intro y hy
     rw [hpk.out, List.mem_append] at hy
     rcases hy with hy | hy
     · exact HI.out y hy
     · rw [List.mem_singleton.1 hy]
       exact hpx)
    clear hpx
    go_wp2
    go_roundg k1
    case measure => omega
    case rel => exact ⟨k + 1, by have := HK.out; omega, by go_num, HI2, HB3⟩
theorem ContainsFunc_calls (xs : List V) (pr : V → Bool) (fid : FuncId) (caps : Array Value) (A : Option Addr) (cc : Nat) (w : World) (hl : xs.length ≤ 1000000000000) (hen : ∀ (args : Array Value) (w : World), (callFunc fid args).run Tryz.prog w = .ok (.enter fid args) w)
 (hC : k51.C w A xs.length xs) (hT : TellC xs pr fid caps w) :
 Calls Tryz.prog 98 #[.slice A xs.length cc, .func (.func fid) #[] caps] w fun e w' => e = .returned (.bool (xs.any pr)) ∧ Below w.heap.size w w' := by
 obtain ⟨bb, hbb⟩ : ∃ bb, bb = xs.any pr := ⟨_, rfl⟩
 rw [← hbb]
 have H := Aside0.mk (IndexFunc_calls xs pr fid caps A cc w hl hen hC hT)
 rw [← hbb] at H
 clear hC hT hen hbb
 go_enter Tryz.func98, Tryz.ntmps98
 go_wp2_with fail
 refine H.out.mono ?_
 rintro e w' ⟨r, rfl, hr, hb⟩
 have HB := Aside0.mk hb
 have HR := Aside0.mk (show bb = decide (r ≥ 0) by cases bb <;> simp_all)
 clear hb hr
 go_wp2
 all_goals go_ret
 all_goals exact ⟨by rw [HR.out]; rfl, HB.out⟩
end Go.Proofs.YtamcicojockhpaaGreatDoor.Tr
end
section
set_option linter.unusedVariables false
set_option linter.unusedSimpArgs false
set_option linter.unusedSectionVars false
namespace Go.Proofs.YtamcicojockhpaaGreatDoor.MapL
open Go.MapKept Go.RowKit
structure Keyed {κ : Type} [DecidableEq κ] (d : TypeDesc) (enc : κ → Value) : Prop where
 key : ∀ k, IsKey d (enc k)
 same : ∀ a b, Instr.sameNow d (enc a) (enc b) = some (decide (a = b))
 bits : ∀ a, Instr.sameBits 10000 (enc a) (enc a) = true
theorem keyed_string : Keyed .string Value.string :=
 ⟨fun k => by simp [IsKey], fun a b => by
  simp only [Instr.sameNow]
  congr 1
  rw [Bool.eq_iff_iff, decide_eq_true_eq]
  exact (MapKept.bytes_beq a b), fun a => by simp [Instr.sameBits, MapKept.bytes_beq]⟩
section
variable {κ : Type} [DecidableEq κ] {d : TypeDesc} {enc : κ → Value}
def look (k : κ) : List (κ × Value) → Option Value
 | [] => none
 | p :: r => if k = p.1 then some p.2 else look k r
def put (k : κ) (v : Value) : List (κ × Value) → List (κ × Value)
 | [] => [(k, v)]
 | p :: r => if k = p.1 then (k, v) :: r else p :: put k v r
theorem look_put (k : κ) (v : Value) : ∀ l : List (κ × Value), look k (put k v l) = some v
 | [] => by simp [put, look]
 | p :: r => by
  unfold put
  split
  · simp [look]
  · rename_i h; simp [look, h, look_put k v r]
theorem look_put_ne {k k' : κ} (h : k' ≠ k) (v : Value) : ∀ l : List (κ × Value), look k' (put k v l) = look k' l
 | [] => by simp [put, look, h]
 | p :: r => by
  unfold put
  split
  · rename_i hk; subst hk; simp [look, h]
  · simp [look, look_put_ne h v r]
def Is (enc : κ → Value) (w : World) (b : Nat) (l : List (κ × Value)) : Prop :=
 ∃ es clock, w.heap[b]? = some (.map es clock) ∧ es.toList.map (fun e => (e.key, e.val)) = l.map (fun p => (enc p.1, p.2))
theorem Is.lt {w : World} {b : Nat} {l : List (κ × Value)} (h : Is enc w b l) : b < w.heap.size := by
 obtain ⟨es, clock, hb, _⟩ := h
 exact (Array.getElem?_eq_some_iff.1 hb).1
theorem Is.same {w w' : World} {b : Nat} {l : List (κ × Value)} (h : Is enc w b l) (hs : w'.heap[b]? = w.heap[b]?) : Is enc w' b l := by
 obtain ⟨es, clock, hb, h⟩ := h
 exact ⟨es, clock, hs.trans hb, h⟩
theorem Is.drewN {w : World} {b : Nat} {l : List (κ × Value)} (h : Is enc w b l) (n : Nat) : Is enc (w.drewN n) b l := h.same rfl
theorem Is.alloc {w : World} {b : Nat} {l : List (κ × Value)} (h : Is enc w b l) (o : Obj) : Is enc (w.alloc o) b l :=
 h.same (by have := h.lt; show (w.heap.push o)[b]? = _; rw [Array.getElem?_push]; simp; omega)
theorem Is.made (enc : κ → Value) (w : World) : Is enc (w.alloc (.map #[] 0)) w.heap.size [] :=
 ⟨#[], 0, by show (w.heap.push _)[_]? = _; simp, by simp⟩
theorem findNow_look (K : Keyed d enc) (k : κ) : ∀ (es : List MapEntry) (l : List (κ × Value)) (i : Nat), es.map (fun e => (e.key, e.val)) = l.map (fun p => (enc p.1, p.2)) →
 (Instr.findNow d (enc k) es i = some none ∧ look k l = none ∧ (∀ v n, (es ++ [({ key := enc k, val := v, born := n } : MapEntry)]).map (fun e => (e.key, e.val)) = (put k v l).map (fun p => (enc p.1, p.2)))) ∨
 ∃ j v, Instr.findNow d (enc k) es i = some (some (i + j, v)) ∧ look k l = some v ∧ (∃ e, es[j]? = some e ∧ e.key = enc k) ∧
  ∀ v', (es.modify j fun e => { e with key := enc k, val := v' }).map (fun e => (e.key, e.val)) = (put k v' l).map (fun p => (enc p.1, p.2))
 | [], [], i, _ => .inl ⟨rfl, rfl, fun v n => rfl⟩
 | [], _ :: _, _, h => by simp at h
 | _ :: _, [], _, h => by simp at h
 | e :: es, p :: l, i, h => by
  simp only [List.map_cons, List.cons.injEq, Prod.mk.injEq] at h
  obtain ⟨⟨hk, hv⟩, ht⟩ := h
  by_cases hp : k = p.1
  · refine .inr ⟨0, e.val, by simp [Instr.findNow, hk, K.same, hp], by simp [look, hp, hv], ⟨e, rfl, by rw [hk, hp]⟩, fun v' => ?_⟩
    simp [put, hp, ht]
  · have hs : Instr.sameNow d (enc k) e.key = some false := by rw [hk, K.same]; simp [hp]
    rcases findNow_look K k es l (i + 1) ht with ⟨h1, h2, h3⟩ | ⟨j, v, h1, h2, ⟨e', h3, h4⟩, h5⟩
    · refine .inl ⟨by simp [Instr.findNow, hs, h1], by simp [look, hp, h2], fun v n => ?_⟩
      simp only [put, if_neg hp, List.cons_append, List.map_cons, List.cons.injEq]
      exact ⟨by rw [hk, hv], h3 v n⟩
    · refine .inr ⟨j + 1, v, by simp [Instr.findNow, hs, h1]; omega, by simp [look, hp, h2], ⟨e', by simpa using h3, h4⟩, fun v' => ?_⟩
      simp only [put, if_neg hp, List.modify_succ_cons, List.map_cons, List.cons.injEq]
      exact ⟨by rw [hk, hv], h5 v'⟩
theorem run_update {P : Program} {w : World} {b : Nat} {l : List (κ × Value)} {t kt et : TypeId} (h : Is enc w b l) (K : Keyed d enc) (ht : P.underlying t = some (.map kt et)) (hd : P.underlying kt = some d)
 (k : κ) (v : Value) : ∃ w', (Instr.mapUpdate t (.map (some b)) (enc k) v).run P w = .ok () w' ∧ Is enc w' b (put k v l) ∧ w.grownBy w' (some b) := by
 obtain ⟨es, clock, hb, hl⟩ := h
 have hlt : b < w.heap.size := (Array.getElem?_eq_some_iff.1 hb).1
 have hg : ∀ o, w.grownBy { w with heap := w.heap.setIfInBounds b o } (some b) := fun o => ⟨rfl, rfl, rfl, by simp, fun i _ hi => by
  have : b ≠ i := fun e => hi (by rw [e])
  simp [this]⟩
 rcases findNow_look K k es.toList l 0 hl with ⟨h1, h2, h3⟩ | ⟨j, v0, h1, h2, ⟨e, h3, h4⟩, h5⟩
 · refine ⟨{ w with heap := w.heap.setIfInBounds b (.map (es.push { key := enc k, val := v, born := clock }) (clock + 1)) }, ?_, ⟨es.push { key := enc k, val := v, born := clock }, clock + 1, by simp [hlt], ?_⟩, hg _⟩
   · simp [Instr.mapUpdate, run_underlying ht, MapKept.run_getObj_map hb, MapKept.run_checkKey hd (K.key k), MapKept.run_findKey hd h1, MapKept.run_setObj_map _ hb, Result.andThen]
   · have := h3 v clock
     simpa using this
 · refine ⟨{ w with heap := w.heap.setIfInBounds b (.map (es.modify j fun e => { e with key := enc k, val := v }) clock) }, ?_, ⟨es.modify j fun e => { e with key := enc k, val := v }, clock, by simp [hlt], ?_⟩, hg _⟩
   · have h3' : es[j]? = some e := by simpa using h3
     simp [Instr.mapUpdate, run_underlying ht, MapKept.run_getObj_map hb, MapKept.run_checkKey hd (K.key k), MapKept.run_findKey hd h1, MapKept.run_setObj_map _ hb, Result.andThen, h3', h4, Instr.keyThatStays, K.bits]
   · have := h5 v
     simpa using this
theorem length_put (k : κ) (v : Value) : ∀ l : List (κ × Value), (put k v l).length = if look k l = none then l.length + 1 else l.length
 | [] => by simp [put, look]
 | p :: r => by
  unfold put look
  split
  · simp
  · rename_i h
    simp only [List.length_cons, length_put k v r]
    split <;> rfl
theorem run_len {P : Program} {w : World} {b : Nat} {l : List (κ × Value)} {t kt et : TypeId} (h : Is enc w b l) (ht : P.underlying t = some (.map kt et)) (ty : TypeId) : (Builtin.len_ #[t] ty #[.map (some b)]).run P w = .ok (.int .i64 l.length) w := by
 obtain ⟨es, clock, hb, hl⟩ := h
 have e : es.size = l.length := by
  have := congrArg List.length hl
  simpa using this
 simp [Builtin.len_, run_underlying ht, MapKept.run_getObj_map hb, goInt, Result.andThen, e]
variable {P : Program} {ops : Array Oper} {rest : List Oper} {o : Oper} {a : Act} {Q : Exit → Act → World → Prop}
theorem wp_update (w : World) (hg : o.guard = none) (m x v : Operand) (t : TypeId) (hop : o.op = Op.mapUpdate t m x v) (kt et : TypeId) (K : Keyed d enc) (ht : P.underlying t = some (.map kt et)) (hd : P.underlying kt = some d)
 (b : Nat) (l : List (κ × Value)) (hm : a.eval m = .map (some b)) (h : Is enc w b l) (k : κ) (val : Value) (hx : a.eval x = enc k) (hv : a.eval v = val)
 (hK : ∀ w', Is enc w' b (put k val l) → w.grownBy w' (some b) → wpList P ops Q rest (a.put o.dst undef) w') : wpList P ops Q (o :: rest) a w := by
 refine wpList_plain hg fun K' hK' => ?_
 obtain ⟨w', hrun, r1, r2⟩ := run_update h K ht hd k val
 unfold Oper.wp
 simp [execOp, hop, hm, hx, hv, hrun, Result.andThen]
 exact hK' _ _ (hK w' r1 r2)
theorem wp_len (w : World) (hg : o.guard = none) (m : Operand) (t : TypeId) (hop : o.op = Op.call { callee := Callee.builtin Builtin.len, args := #[m], argTypes := #[t] }) (kt et : TypeId) (ht : P.underlying t = some (.map kt et))
 (b : Nat) (l : List (κ × Value)) (hm : a.eval m = .map (some b)) (h : Is enc w b l) (hK : wpList P ops Q rest (a.put o.dst (.int .i64 l.length)) w) : wpList P ops Q (o :: rest) a w := by
 refine wpList_plain hg fun K' hK' => ?_
 unfold Oper.wp
 simp [execOp, hop, resolve, invoke, builtin, hm, run_len h ht o.type, Result.andThen]
 exact hK' _ _ hK
end
end Go.Proofs.YtamcicojockhpaaGreatDoor.MapL
end
section
set_option linter.unusedVariables false
set_option linter.unusedSimpArgs false
namespace Go.Proofs.YtamcicojockhpaaGreatDoor.Tr
open Go.RowKit Go.Proofs.YtamcicojockhpaaGreatDoorW.PrintWords Go.Proofs.YtamcicojockhpaaGreatDoorW.PrintLast Go.Proofs.YtamcicojockhpaaGreatDoorW.PrintMore
open Go.Proofs.YtamcicojockhpaaGreatDoor.Lx Go.Proofs.YtamcicojockhpaaGreatDoor.PS
def bareR (k n : Int) (t : List UInt8) (n3 n4 : Nat) : Bool :=
 if k = 1 then n == 0 && t.isEmpty && decide (n3 + n4 = 0)
 else if k = 2 then (n == 0 || n == 1) && t.isEmpty && decide (n3 + n4 = 0)
 else if k = 3 then t.isEmpty && decide (n3 + n4 = 0)
 else if k = 4 then n == 0 && decide (n3 + n4 = 0)
 else if k = 5 then n == 0 && t.isEmpty && decide (n4 = 0)
 else if k = 6 then n == 0 && t.isEmpty && decide (n4 = n3)
 else false
set_option maxRecDepth 100000 in
set_option maxHeartbeats 1000000 in
theorem bare_calls (k n : Int) (t : List UInt8) (A3 : Option Addr) (n3 c3 : Nat) (A4 : Option Addr) (n4 c4 : Nat) (w : World) (h3 : n3 ≤ 1000000000000) (h4 : n4 ≤ 1000000000000) :
 Calls Tryz.prog 97 #[.agg #[.int .i64 k, .int .i64 n, .string ⟨t.toArray⟩, .slice A3 n3 c3, .slice A4 n4 c4]] w fun e w' => e = .returned (.bool (bareR k n t n3 n4)) ∧ Below w.heap.size w w' := by
 obtain ⟨r, hr⟩ : ∃ r, r = bareR k n t n3 n4 := ⟨_, rfl⟩
 rw [← hr]
 have HR := Aside0.mk hr
 clear hr
 by_cases k1 : k = 1
 · subst k1
   by_cases hn : n = 0
   · subst hn
     cases t with
     | nil =>
      by_cases hz : n3 + n4 = 0
      · obtain ⟨rfl, rfl⟩ : n3 = 0 ∧ n4 = 0 := by omega
        clear hz
        go_enter Tryz.func97, Tryz.ntmps97
        go_wp2
        all_goals go_ret
        all_goals exact ⟨by rw [HR.out]; simp [bareR, *] <;> omega, ((Below.refl _ _).alloc (Nat.le_refl _) _).alloc (by simp) _⟩
      · have hzb : (((n3 : Int) + (n4 : Int)) == 0) = false := by simp; omega
        go_enter Tryz.func97, Tryz.ntmps97
        go_wp2
        all_goals go_ret
        all_goals exact ⟨by rw [HR.out]; simp [bareR, *] <;> omega, ((Below.refl _ _).alloc (Nat.le_refl _) _).alloc (by simp) _⟩
     | cons a t =>
      have hta : ((a :: t) == []) = false := rfl
      go_enter Tryz.func97, Tryz.ntmps97
      go_wp2
      all_goals go_ret
      all_goals exact ⟨by rw [HR.out]; simp [bareR, *] <;> omega, ((Below.refl _ _).alloc (Nat.le_refl _) _).alloc (by simp) _⟩
   · have hnb : (n == 0) = false := by simpa using hn
     go_enter Tryz.func97, Tryz.ntmps97
     go_wp2
     all_goals go_ret
     all_goals exact ⟨by rw [HR.out]; simp [bareR, *] <;> omega, ((Below.refl _ _).alloc (Nat.le_refl _) _).alloc (by simp) _⟩
 · by_cases k2 : k = 2
   · subst k2
     by_cases hn : n = 0
     · subst hn
       cases t with
       | nil =>
        by_cases hz : n3 + n4 = 0
        · obtain ⟨rfl, rfl⟩ : n3 = 0 ∧ n4 = 0 := by omega
          clear hz
          go_enter Tryz.func97, Tryz.ntmps97
          go_wp2
          all_goals go_ret
          all_goals exact ⟨by rw [HR.out]; simp [bareR, *] <;> omega, ((Below.refl _ _).alloc (Nat.le_refl _) _).alloc (by simp) _⟩
        · have hzb : (((n3 : Int) + (n4 : Int)) == 0) = false := by simp; omega
          go_enter Tryz.func97, Tryz.ntmps97
          go_wp2
          all_goals go_ret
          all_goals exact ⟨by rw [HR.out]; simp [bareR, *] <;> omega, ((Below.refl _ _).alloc (Nat.le_refl _) _).alloc (by simp) _⟩
       | cons a t =>
        have hta : ((a :: t) == []) = false := rfl
        go_enter Tryz.func97, Tryz.ntmps97
        go_wp2
        all_goals go_ret
        all_goals exact ⟨by rw [HR.out]; simp [bareR, *] <;> omega, ((Below.refl _ _).alloc (Nat.le_refl _) _).alloc (by simp) _⟩
     · have hnb : (n == 0) = false := by simpa using hn
       by_cases hn1 : n = 1
       · subst hn1
         cases t with
         | nil =>
          by_cases hz : n3 + n4 = 0
          · obtain ⟨rfl, rfl⟩ : n3 = 0 ∧ n4 = 0 := by omega
            clear hz
            go_enter Tryz.func97, Tryz.ntmps97
            go_wp2
            all_goals go_ret
            all_goals exact ⟨by rw [HR.out]; simp [bareR, *] <;> omega, ((Below.refl _ _).alloc (Nat.le_refl _) _).alloc (by simp) _⟩
          · have hzb : (((n3 : Int) + (n4 : Int)) == 0) = false := by simp; omega
            go_enter Tryz.func97, Tryz.ntmps97
            go_wp2
            all_goals go_ret
            all_goals exact ⟨by rw [HR.out]; simp [bareR, *] <;> omega, ((Below.refl _ _).alloc (Nat.le_refl _) _).alloc (by simp) _⟩
         | cons a t =>
          have hta : ((a :: t) == []) = false := rfl
          go_enter Tryz.func97, Tryz.ntmps97
          go_wp2
          all_goals go_ret
          all_goals exact ⟨by rw [HR.out]; simp [bareR, *] <;> omega, ((Below.refl _ _).alloc (Nat.le_refl _) _).alloc (by simp) _⟩
       · have hnb1 : (n == 1) = false := by simpa using hn1
         have hnb2 : (n != 1) = true := by simpa using hn1
         have hnb3 : (n != 0) = true := by simpa using hn
         have hnb4 : decide (n = 1) = false := by simpa using hn1
         have hnb5 : decide (n = 0) = false := by simpa using hn
         go_enter Tryz.func97, Tryz.ntmps97
         go_wp2
         all_goals go_ret
         all_goals exact ⟨by rw [HR.out]; simp [bareR, *] <;> omega, ((Below.refl _ _).alloc (Nat.le_refl _) _).alloc (by simp) _⟩
   · by_cases k3 : k = 3
     · subst k3
       cases t with
       | nil =>
        by_cases hz : n3 + n4 = 0
        · obtain ⟨rfl, rfl⟩ : n3 = 0 ∧ n4 = 0 := by omega
          clear hz
          go_enter Tryz.func97, Tryz.ntmps97
          go_wp2
          all_goals go_ret
          all_goals exact ⟨by rw [HR.out]; simp [bareR, *] <;> omega, ((Below.refl _ _).alloc (Nat.le_refl _) _).alloc (by simp) _⟩
        · have hzb : (((n3 : Int) + (n4 : Int)) == 0) = false := by simp; omega
          go_enter Tryz.func97, Tryz.ntmps97
          go_wp2
          all_goals go_ret
          all_goals exact ⟨by rw [HR.out]; simp [bareR, *] <;> omega, ((Below.refl _ _).alloc (Nat.le_refl _) _).alloc (by simp) _⟩
       | cons a t =>
        have hta : ((a :: t) == []) = false := rfl
        go_enter Tryz.func97, Tryz.ntmps97
        go_wp2
        all_goals go_ret
        all_goals exact ⟨by rw [HR.out]; simp [bareR, *] <;> omega, ((Below.refl _ _).alloc (Nat.le_refl _) _).alloc (by simp) _⟩
     · by_cases k4 : k = 4
       · subst k4
         by_cases hn : n = 0
         · subst hn
           by_cases hz : n3 + n4 = 0
           · obtain ⟨rfl, rfl⟩ : n3 = 0 ∧ n4 = 0 := by omega
             clear hz
             go_enter Tryz.func97, Tryz.ntmps97
             go_wp2
             all_goals go_ret
             all_goals exact ⟨by rw [HR.out]; simp [bareR, *] <;> omega, ((Below.refl _ _).alloc (Nat.le_refl _) _).alloc (by simp) _⟩
           · have hzb : (((n3 : Int) + (n4 : Int)) == 0) = false := by simp; omega
             go_enter Tryz.func97, Tryz.ntmps97
             go_wp2
             all_goals go_ret
             all_goals exact ⟨by rw [HR.out]; simp [bareR, *] <;> omega, ((Below.refl _ _).alloc (Nat.le_refl _) _).alloc (by simp) _⟩
         · have hnb : (n == 0) = false := by simpa using hn
           go_enter Tryz.func97, Tryz.ntmps97
           go_wp2
           all_goals go_ret
           all_goals exact ⟨by rw [HR.out]; simp [bareR, *] <;> omega, ((Below.refl _ _).alloc (Nat.le_refl _) _).alloc (by simp) _⟩
       · by_cases k5 : k = 5
         · subst k5
           by_cases hn : n = 0
           · subst hn
             cases t with
             | nil =>
              by_cases hz : n4 = 0
              · subst hz
                go_enter Tryz.func97, Tryz.ntmps97
                go_wp2
                all_goals go_ret
                all_goals exact ⟨by rw [HR.out]; simp [bareR, *] <;> omega, ((Below.refl _ _).alloc (Nat.le_refl _) _).alloc (by simp) _⟩
              · have hzb : ((n4 : Int) == 0) = false := by simp; omega
                go_enter Tryz.func97, Tryz.ntmps97
                go_wp2
                all_goals go_ret
                all_goals exact ⟨by rw [HR.out]; simp [bareR, *] <;> omega, ((Below.refl _ _).alloc (Nat.le_refl _) _).alloc (by simp) _⟩
             | cons a t =>
              have hta : ((a :: t) == []) = false := rfl
              go_enter Tryz.func97, Tryz.ntmps97
              go_wp2
              all_goals go_ret
              all_goals exact ⟨by rw [HR.out]; simp [bareR, *] <;> omega, ((Below.refl _ _).alloc (Nat.le_refl _) _).alloc (by simp) _⟩
           · have hnb : (n == 0) = false := by simpa using hn
             go_enter Tryz.func97, Tryz.ntmps97
             go_wp2
             all_goals go_ret
             all_goals exact ⟨by rw [HR.out]; simp [bareR, *] <;> omega, ((Below.refl _ _).alloc (Nat.le_refl _) _).alloc (by simp) _⟩
         · by_cases k6 : k = 6
           · subst k6
             by_cases hn : n = 0
             · subst hn
               cases t with
               | nil =>
                by_cases hz : n4 = n3
                · subst hz
                  go_enter Tryz.func97, Tryz.ntmps97
                  go_wp2
                  all_goals go_ret
                  all_goals exact ⟨by rw [HR.out]; simp [bareR, *] <;> omega, ((Below.refl _ _).alloc (Nat.le_refl _) _).alloc (by simp) _⟩
                · have hzb : ((n4 : Int) == (n3 : Int)) = false := by simp; omega
                  go_enter Tryz.func97, Tryz.ntmps97
                  go_wp2
                  all_goals go_ret
                  all_goals exact ⟨by rw [HR.out]; simp [bareR, *] <;> omega, ((Below.refl _ _).alloc (Nat.le_refl _) _).alloc (by simp) _⟩
               | cons a t =>
                have hta : ((a :: t) == []) = false := rfl
                go_enter Tryz.func97, Tryz.ntmps97
                go_wp2
                all_goals go_ret
                all_goals exact ⟨by rw [HR.out]; simp [bareR, *] <;> omega, ((Below.refl _ _).alloc (Nat.le_refl _) _).alloc (by simp) _⟩
             · have hnb : (n == 0) = false := by simpa using hn
               go_enter Tryz.func97, Tryz.ntmps97
               go_wp2
               all_goals go_ret
               all_goals exact ⟨by rw [HR.out]; simp [bareR, *] <;> omega, ((Below.refl _ _).alloc (Nat.le_refl _) _).alloc (by simp) _⟩
           · have kb1 : (k == 1) = false := by simpa using k1
             have kb2 : (k == 2) = false := by simpa using k2
             have kb3 : (k == 3) = false := by simpa using k3
             have kb4 : (k == 4) = false := by simpa using k4
             have kb5 : (k == 5) = false := by simpa using k5
             have kb6 : (k == 6) = false := by simpa using k6
             go_enter Tryz.func97, Tryz.ntmps97
             go_wp2
             all_goals go_ret
             all_goals exact ⟨by rw [HR.out]; simp [bareR, *] <;> omega, ((Below.refl _ _).alloc (Nat.le_refl _) _).alloc (by simp) _⟩
end Go.Proofs.YtamcicojockhpaaGreatDoor.Tr
end
section
set_option linter.unusedVariables false
set_option linter.unusedSimpArgs false
namespace Go.Proofs.YtamcicojockhpaaGreatDoor.Tr
open Go.RowKit Go.Proofs.YtamcicojockhpaaGreatDoorW.PrintWords Go.Proofs.YtamcicojockhpaaGreatDoorW.PrintLast Go.Proofs.YtamcicojockhpaaGreatDoorW.PrintMore
open Go.Proofs.YtamcicojockhpaaGreatDoor.Lx Go.Proofs.YtamcicojockhpaaGreatDoor.PS
def setTo (l : List ByteArray) : Nat → List (ByteArray × Value)
 | 0 => []
 | k + 1 => MapL.put (l.getD k ByteArray.empty) (.agg #[]) (setTo l k)
theorem take_snoc (l : List (ByteArray)) (k : Nat) (h : k < l.length) : l.take (k + 1) = l.take k ++ [l.getD k ByteArray.empty] := by
 rw [List.take_succ_eq_append_getElem h, List.getD_eq_getElem?_getD, List.getElem?_eq_getElem h]
 rfl
theorem look_put_if (k k' : ByteArray) (v : Value) (l : List (ByteArray × Value)) : MapL.look k' (MapL.put k v l) = if k' = k then some v else MapL.look k' l := by
 by_cases h : k' = k
 · rw [if_pos h, h, MapL.look_put]
 · rw [if_neg h, MapL.look_put_ne h]
open Classical in
theorem setTo_has (l : List (ByteArray)) : ∀ k, k ≤ l.length → ∀ n, (MapL.look n (setTo l k)).isSome = decide (n ∈ l.take k)
 | 0, _, n => by simp [setTo, MapL.look]
 | k + 1, h, n => by
  rw [setTo, look_put_if, take_snoc l k (by omega), apply_ite Option.isSome, setTo_has l k (by omega)]
  by_cases hn : n = l.getD k ByteArray.empty
  · rw [if_pos hn]
    simp [hn]
  · rw [if_neg hn]
    have : (n ∈ l.take k ++ [l.getD k ByteArray.empty]) ↔ n ∈ l.take k := by rw [List.mem_append, List.mem_singleton]; exact or_iff_left hn
    rw [decide_eq_decide.2 this]
open Classical in
theorem setTo_len (l : List (ByteArray)) : ∀ k, k ≤ l.length → (setTo l k).length ≤ k ∧ ((setTo l k).length = k ↔ (l.take k).Nodup)
 | 0, _ => by simp [setTo]
 | k + 1, h => by
  obtain ⟨h1, h2⟩ := setTo_len l k (by omega)
  have hs := setTo_has l k (by omega) (l.getD k ByteArray.empty)
  rw [setTo, MapL.length_put, take_snoc l k (by omega), List.nodup_append]
  by_cases hn : l.getD k ByteArray.empty ∈ l.take k
  · have : MapL.look (l.getD k ByteArray.empty) (setTo l k) ≠ none := by
     rw [decide_eq_true hn] at hs
     intro e
     rw [e] at hs
     cases hs
    rw [if_neg this]
    refine ⟨by omega, ⟨fun e => by omega, fun e => absurd rfl (e.2.2 _ hn (l.getD k ByteArray.empty) (by simp))⟩⟩
  · have : MapL.look (l.getD k ByteArray.empty) (setTo l k) = none := by
     rw [decide_eq_false hn] at hs
     simpa using hs
    rw [if_pos this]
    refine ⟨by omega, ⟨fun e => ⟨h2.1 (by omega), by simp, fun a ha b hb => by
     have : b = l.getD k ByteArray.empty := by simpa using hb
     rintro rfl
     exact hn (this ▸ ha)⟩, fun e => by rw [h2.2 e.1]⟩⟩
def bareV (x : V) : Bool := bareR x.f0 x.f1 x.f2.data.toList x.f3.length x.f4.length
def soundR : Nat → V → Bool
 | 0, x => !(x.f0 == 5 || x.f0 == 6) && bareV x && decide x.f4.Nodup
 | d + 1, x => bareV x && decide x.f4.Nodup && x.f3.all (soundR d)
def fitsR : Nat → V → Prop
 | 0, x => x.f3.length ≤ 1000000000000 ∧ x.f4.length ≤ 1000000000000
 | d + 1, x => x.f3.length ≤ 1000000000000 ∧ x.f4.length ≤ 1000000000000 ∧ ∀ y ∈ x.f3, fitsR d y
theorem fitsR_len {d : Nat} {x : V} (h : fitsR d x) : x.f3.length ≤ 1000000000000 ∧ x.f4.length ≤ 1000000000000 := by
 cases d with
 | zero => exact h
 | succ d => exact ⟨h.1, h.2.1⟩
def SoundC (d : Nat) : Prop := ∀ (x : V) (A3 : Option Addr) (c3 : Nat) (A4 : Option Addr) (c4 : Nat) (w : World), fitsR d x → x.f3.length ≤ c3 → k51.C w A3 x.f3.length x.f3 → x.f4.length ≤ c4 → Kd.string.C w A4 x.f4.length x.f4 →
 Calls Tryz.prog 63 #[vArg x A3 c3 A4 c4, .int .i64 d] w fun e w' => e = .returned (.bool (soundR d x)) ∧ Below w.heap.size w w'
set_option maxRecDepth 100000 in
set_option maxHeartbeats 1000000 in
theorem sound1_calls (d : Nat) (hd : d ≤ 8) (IH : SoundC d) (x : V) (A3 : Option Addr) (c3 : Nat) (A4 : Option Addr) (c4 : Nat) (b : Nat) (w : World) (hf : fitsR d x) (l3 : x.f3.length ≤ c3) (g3 : k51.C w A3 x.f3.length x.f3) (l4 : x.f4.length ≤ c4) (g4 : Kd.string.C w A4 x.f4.length x.f4)
 (hb : w.cell? ⟨b, 0, none⟩ = some (.int .i64 (d + 1 : Nat))) :
 Calls Tryz.prog 99 #[vArg x A3 c3 A4 c4, .pointer (some ⟨b, 0, none⟩)] w fun e w' => e = .returned (.bool (!(soundR d x))) ∧ Below w.heap.size w w' := by
 have hba := (Below.refl w.heap.size w).alloc (Nat.le_refl _) (.cells #[.int .i64 x.f0, .int .i64 x.f1, .string x.f2, .slice A3 x.f3.length c3, .slice A4 x.f4.length c4] 51 (0, 0))
 have H := Aside0.mk (IH x A3 c3 A4 c4 _ hf l3 (Kd.C_below g3 hba) l4 (Kd.C_below g4 hba))
 have HB := Aside0.mk hba
 have hc : ((d + 1 : Nat) : Int) = (d : Int) + 1 := by omega
 rw [hc] at hb
 have cb := cellA hb
 have hs1 : (d : Int) + 1 - 1 = d := by omega
 have hlt := World.block_lt_of_cell? w _ hb
 have hne : b ≠ w.heap.size := Nat.ne_of_lt hlt
 unfold vArg at *
 clear hba IH g3 g4 hb
 generalize soundR d x = r at *
 go_enter Tryz.func99, Tryz.ntmps99
 go_wp2_with fail
 refine H.out.mono ?_
 rintro e w' ⟨rfl, hb'⟩
 have HB2 := Aside0.mk (HB.out.trans (hb'.mono HB.out.size))
 clear hb'
 go_wp2
 go_ret
 exact ⟨rfl, HB2.out⟩
theorem bareR_rows {k n : Int} {t : List UInt8} {n3 n4 : Nat} (h : bareR k n t n3 n4 = true) (h5 : k ≠ 5) (h6 : k ≠ 6) : n3 = 0 := by
 unfold bareR at h
 simp only [if_neg h5, if_neg h6] at h
 repeat' split at h
 all_goals simp at h
 all_goals omega
theorem sound1_enters (args : Array Value) (w : World) : (callFunc 99 args).run Tryz.prog w = .ok (.enter 99 args) w := enters_ Tryz.func99 (by kernel_rfl) (by kernel_rfl) args w
set_option maxRecDepth 100000 in
set_option maxHeartbeats 1000000 in
theorem sound_succ (d : Nat) (hd : d ≤ 7) (IH : SoundC d) : SoundC (d + 1) := by
 intro x A3 c3 A4 c4 w hf l3 g3 l4 g4
 have hc : ((d + 1 : Nat) : Int) = (d : Int) + 1 := by omega
 rw [hc]
 obtain ⟨h3, h4⟩ := fitsR_len hf
 have HF := Aside0.mk hf
 have HG := Aside0.mk (And.intro g3 g4)
 have HIH := Aside0.mk IH
 have s1 : (w.alloc (.cells #[.int .i64 x.f0, .int .i64 x.f1, .string x.f2, .slice A3 x.f3.length c3, .slice A4 x.f4.length c4] 51 (0, 0))).heap.size = w.heap.size + 1 := by simp
 have nv := blkA (blk_new w (.cells #[.int .i64 x.f0, .int .i64 x.f1, .string x.f2, .slice A3 x.f3.length c3, .slice A4 x.f4.length c4] 51 (0, 0))) (.cells #[.int .i64 ((d : Int) + 1)] 3 (0, 0))
 have nd := blk_new (w.alloc (.cells #[.int .i64 x.f0, .int .i64 x.f1, .string x.f2, .slice A3 x.f3.length c3, .slice A4 x.f4.length c4] 51 (0, 0))) (.cells #[.int .i64 ((d : Int) + 1)] 3 (0, 0))
 rw [s1] at nd
 have hs2 : ((w.alloc (.cells #[.int .i64 x.f0, .int .i64 x.f1, .string x.f2, .slice A3 x.f3.length c3, .slice A4 x.f4.length c4] 51 (0, 0))).alloc (.cells #[.int .i64 ((d : Int) + 1)] 3 (0, 0))).heap.size = w.heap.size + 2 := by simp
 have hB2 : Below w.heap.size w ((w.alloc (.cells #[.int .i64 x.f0, .int .i64 x.f1, .string x.f2, .slice A3 x.f3.length c3, .slice A4 x.f4.length c4] 51 (0, 0))).alloc (.cells #[.int .i64 ((d : Int) + 1)] 3 (0, 0))) := ((Below.refl _ _).alloc (Nat.le_refl _) _).alloc (by simp) _
 have hz : (((d : Int) + 1) == 0) = false := by simp; omega
 obtain ⟨r, hr⟩ : ∃ r, r = soundR (d + 1) x := ⟨_, rfl⟩
 rw [← hr]
 have HR := Aside0.mk hr
 unfold vArg
 have hx2 : x.f2 = ⟨x.f2.data.toList.toArray⟩ := by cases x.f2; rfl
 have HBA := Aside0.mk (fun w1 => bare_calls x.f0 x.f1 x.f2.data.toList A3 x.f3.length c3 A4 x.f4.length c4 w1 h3 h4)
 rw [← hx2] at HBA
 clear hx2 hf g3 g4 IH hr hc
 go_enter Tryz.func63, Tryz.ntmps63
 go_wp2_with fail
 generalize (w.alloc (.cells #[.int .i64 x.f0, .int .i64 x.f1, .string x.f2, .slice A3 x.f3.length c3, .slice A4 x.f4.length c4] 51 (0, 0))).alloc (.cells #[.int .i64 ((d : Int) + 1)] 3 (0, 0)) = W2 at *
 refine (HBA.out W2).mono ?_
 rintro e w3 ⟨rfl, hb3⟩
 have HV3 := Aside0.mk (blk_below nv hb3)
 have HD3 := Aside0.mk (blk_below nd hb3)
 have HB3 := Aside0.mk (hB2.trans (hb3.mono hB2.size))
 have hs3 := hb3.size
 have x3 : w3.cell? ⟨w.heap.size, 3, none⟩ = some (.slice A3 x.f3.length c3) := blk_cell HV3.out 3
 have x4 : w3.cell? ⟨w.heap.size, 4, none⟩ = some (.slice A4 x.f4.length c4) := blk_cell HV3.out 4
 clear nv nd hB2 hb3
 cases hbv : bareR x.f0 x.f1 x.f2.data.toList x.f3.length x.f4.length with
 | false =>
  have HQ := Aside0.mk (show r = false by rw [HR.out]; simp [soundR, bareV, hbv])
  clear hbv
  go_wp2
  go_ret
  exact ⟨by rw [HQ.out]; rfl, HB3.out⟩
 | true =>
  have HQ := Aside0.mk hbv
  clear hbv
  have hmm := @run_makeMap Tryz.prog
  have x3' := cellA x3
  have x4' := cellA x4
  have HG3 := Aside0.mk (Kd.C_below HG.out.2 HB3.out)
  have HG3' := Aside0.mk (Kd.C_below HG.out.1 HB3.out)
  have hb4 := (Below.refl w3.heap.size w3).alloc (Nat.le_refl _) (.map #[] 0)
  have HIS := Aside0.mk (MapL.Is.made Value.string w3)
  have HB4 := Aside0.mk hb4
  clear hb4
  go_wp2_with fail
  clear hmm
  go_loopg [7, 29] x.f4.length (fun kq v7 v29 w2 => ∃ k : Nat, k + kq = x.f4.length ∧ v29 = .int .i64 k ∧ Aside0 (MapL.Is Value.string w2 w3.heap.size (setTo x.f4 k)) ∧ Aside0 (Below w3.heap.size w3 w2))
  case atStart => exact ⟨0, by omega, rfl, HIS, HB4⟩
  case round =>
   obtain ⟨k, hk, rfl, HI, HBR⟩ := hrel
   clear HIS HB4 x3' x4'
   have y3 : wr.cell? ⟨w.heap.size, 3, none⟩ = some (.slice A3 x.f3.length c3) := blk_cell (blk_below HV3.out HBR.out) 3
   have y4 : wr.cell? ⟨w.heap.size, 4, none⟩ = some (.slice A4 x.f4.length c4) := blk_cell (blk_below HV3.out HBR.out) 4
   cases gk with
   | zero =>
    have hge : ¬ ((k : Nat) : Int) < (x.f4.length : Int) := by omega
    obtain rfl : k = x.f4.length := by omega
    have HSL := Aside0.mk (setTo_len x.f4 x.f4.length (Nat.le_refl _)).2
    by_cases q : (setTo x.f4 x.f4.length).length = x.f4.length
    · have hb : (((setTo x.f4 x.f4.length).length : Int) != (x.f4.length : Int)) = false := by simp [q]
      have HQ2 := Aside0.mk q
      clear q
      have hmf : ∀ (fn : Fn) (first cap : Array Value) (w : World), (Instr.makeFunc fn first cap).run Tryz.prog w = .ok (.func fn first cap) w := fun _ _ _ _ => rfl
      go_wp2_with (refine MapL.wp_len _ rfl (.tmp 37) _ rfl _ _ Tryz.underlying139 w3.heap.size _ rfl HI.out ?_)
      refine (ContainsFunc_calls x.f3 (fun y => !(soundR d y)) 99 #[.pointer (some ⟨w.heap.size + 1, 0, none⟩)] A3 c3 wr h3 sound1_enters (Kd.C_below HG3'.out HBR.out) ?_).mono ?_
      · intro y hy B3 e3 B4 e4 w1 hb1 m3 k3 m4 k4
        exact sound1_calls d (by omega) HIH.out y B3 e3 B4 e4 (w.heap.size + 1) w1 (HF.out.2.2 y hy) m3 k3 m4 k4 (by rw [show ((d + 1 : Nat) : Int) = (d : Int) + 1 by omega]; exact blk_cell (blk_below (blk_below HD3.out HBR.out) hb1) 0)
      · rintro e w5 ⟨rfl, hb5⟩
        have HB5 := Aside0.mk ((HB3.out.trans (HBR.out.mono HB3.out.size)).trans (hb5.mono (Nat.le_trans HB3.out.size HBR.out.size)))
        clear hb5
        have hnd : decide x.f4.Nodup = true := by
         rw [decide_eq_true_iff]
         have := HSL.out.1 HQ2.out
         rwa [List.take_length] at this
        have HE := Aside0.mk (show r = !(x.f3.any fun y => !(soundR d y)) by
         rw [HR.out]
         simp only [soundR, bareV, HQ.out, hnd, Bool.true_and]
         rw [List.all_eq_not_any_not])
        clear hnd
        generalize (x.f3.any fun y => !(soundR d y)) = q2 at *
        go_wp2
        go_ret
        exact ⟨by rw [HE.out]; rfl, HB5.out⟩
    · have hb : (((setTo x.f4 x.f4.length).length : Int) != (x.f4.length : Int)) = true := by simp; omega
      have HQ2 := Aside0.mk q
      clear q
      go_wp2_with (refine MapL.wp_len _ rfl (.tmp 37) _ rfl _ _ Tryz.underlying139 w3.heap.size _ rfl HI.out ?_)
      go_ret
      refine ⟨?_, HB3.out.trans (HBR.out.mono HB3.out.size)⟩
      have hnd : decide x.f4.Nodup = false := by
       rw [decide_eq_false_iff_not]
       intro e
       exact HQ2.out (HSL.out.2 (by rw [List.take_length]; exact e))
      rw [HR.out]
      simp [soundR, hnd]
   | succ k1 =>
    have hlt : k < x.f4.length := by omega
    have hltz : ((k : Nat) : Int) < (x.f4.length : Int) := by omega
    obtain ⟨ad, cs, e, _, hK, hc0⟩ := Kd.C_get (Kd.C_below HG3.out HBR.out) ByteArray.empty (k : Int) (by omega) hltz
    cases e
    have hK' : cs = [.string (x.f4.getD k ByteArray.empty)] := by simpa [Kd.string, Kd.scalar] using hK
    subst hK'
    have r0 : wr.cell? (ad.add k) = some (.string (x.f4.getD k ByteArray.empty)) := by
     have := hc0 0 _ rfl
     simpa [Kd.string, Kd.scalar] using this
    have HI2 := HI
    clear hK hc0
    generalize hnm : x.f4.getD k ByteArray.empty = nme at *
    have HNM := Aside0.mk hnm
    clear hnm
    go_wp2_with (refine MapL.wp_update _ rfl (.tmp 33) (.tmp 34) (.tmp 35) _ rfl _ _ MapL.keyed_string Tryz.underlying139 Tryz.underlying9 w3.heap.size _ rfl HI2.out nme (.agg #[]) (by rfl) (by rfl) ?_; intro w4 hm4 hg4; replace hm4 := Aside0.mk hm4; replace hg4 := Aside0.mk hg4)
    go_roundg k1
    case measure => omega
    case rel => exact ⟨k + 1, by omega, by go_num, Aside0.mk (by rw [setTo, HNM.out]; exact hm4.out), Aside0.mk (HBR.out.grown hg4.out HBR.out.size (fun b e => by cases e; exact Nat.le_refl _))⟩
set_option maxRecDepth 100000 in
set_option maxHeartbeats 1000000 in
theorem sound_zero : SoundC 0 := by
 intro x A3 c3 A4 c4 w hf l3 g3 l4 g4
 rw [show ((0 : Nat) : Int) = 0 from rfl]
 obtain ⟨h3, h4⟩ := fitsR_len hf
 have HF := Aside0.mk hf
 have HG := Aside0.mk (And.intro g3 g4)
 have s1 : (w.alloc (.cells #[.int .i64 x.f0, .int .i64 x.f1, .string x.f2, .slice A3 x.f3.length c3, .slice A4 x.f4.length c4] 51 (0, 0))).heap.size = w.heap.size + 1 := by simp
 have nv := blkA (blk_new w (.cells #[.int .i64 x.f0, .int .i64 x.f1, .string x.f2, .slice A3 x.f3.length c3, .slice A4 x.f4.length c4] 51 (0, 0))) (.cells #[.int .i64 0] 3 (0, 0))
 have nd := blk_new (w.alloc (.cells #[.int .i64 x.f0, .int .i64 x.f1, .string x.f2, .slice A3 x.f3.length c3, .slice A4 x.f4.length c4] 51 (0, 0))) (.cells #[.int .i64 0] 3 (0, 0))
 rw [s1] at nd
 have hs2 : ((w.alloc (.cells #[.int .i64 x.f0, .int .i64 x.f1, .string x.f2, .slice A3 x.f3.length c3, .slice A4 x.f4.length c4] 51 (0, 0))).alloc (.cells #[.int .i64 0] 3 (0, 0))).heap.size = w.heap.size + 2 := by simp
 have hB2 : Below w.heap.size w ((w.alloc (.cells #[.int .i64 x.f0, .int .i64 x.f1, .string x.f2, .slice A3 x.f3.length c3, .slice A4 x.f4.length c4] 51 (0, 0))).alloc (.cells #[.int .i64 0] 3 (0, 0))) := ((Below.refl _ _).alloc (Nat.le_refl _) _).alloc (by simp) _
 obtain ⟨r, hr⟩ : ∃ r, r = soundR 0 x := ⟨_, rfl⟩
 rw [← hr]
 have HR := Aside0.mk hr
 unfold vArg
 have hx2 : x.f2 = ⟨x.f2.data.toList.toArray⟩ := by cases x.f2; rfl
 have HBA := Aside0.mk (fun w1 => bare_calls x.f0 x.f1 x.f2.data.toList A3 x.f3.length c3 A4 x.f4.length c4 w1 h3 h4)
 rw [← hx2] at HBA
 clear hx2 hf g3 g4 hr
 by_cases h5 : x.f0 = 5
 · have HQ := Aside0.mk (show r = false by rw [HR.out]; simp [soundR, h5])
   have k5 : (x.f0 == 5) = true := by simp [h5]
   clear h5
   go_enter Tryz.func63, Tryz.ntmps63
   go_wp2
   go_ret
   exact ⟨by rw [HQ.out]; rfl, hB2⟩

 · by_cases h6 : x.f0 = 6
   · have HQ := Aside0.mk (show r = false by rw [HR.out]; simp [soundR, h6])
     have k6 : (x.f0 == 6) = true := by simp [h6]
     have k5 : (x.f0 == 5) = false := by simp [h6]
     clear h6
     go_enter Tryz.func63, Tryz.ntmps63
     go_wp2
     go_ret
     exact ⟨by rw [HQ.out]; rfl, hB2⟩

   · have k5 : (x.f0 == 5) = false := by simpa using h5
     have k6 : (x.f0 == 6) = false := by simpa using h6
     have HN := Aside0.mk (And.intro h5 h6)
     clear h5 h6
     go_enter Tryz.func63, Tryz.ntmps63
     go_wp2_with fail
     generalize (w.alloc (.cells #[.int .i64 x.f0, .int .i64 x.f1, .string x.f2, .slice A3 x.f3.length c3, .slice A4 x.f4.length c4] 51 (0, 0))).alloc (.cells #[.int .i64 0] 3 (0, 0)) = W2 at *
     refine (HBA.out W2).mono ?_
     rintro e w3 ⟨rfl, hb3⟩
     have HV3 := Aside0.mk (blk_below nv hb3)
     have HD3 := Aside0.mk (blk_below nd hb3)
     have HB3 := Aside0.mk (hB2.trans (hb3.mono hB2.size))
     have hs3 := hb3.size
     have x3 : w3.cell? ⟨w.heap.size, 3, none⟩ = some (.slice A3 x.f3.length c3) := blk_cell HV3.out 3
     have x4 : w3.cell? ⟨w.heap.size, 4, none⟩ = some (.slice A4 x.f4.length c4) := blk_cell HV3.out 4
     clear nv nd hB2 hb3
     cases hbv : bareR x.f0 x.f1 x.f2.data.toList x.f3.length x.f4.length with
     | false =>
      have HQ := Aside0.mk (show r = false by rw [HR.out]; simp [soundR, bareV, hbv])
      clear hbv
      go_wp2
      go_ret
      exact ⟨by rw [HQ.out]; rfl, HB3.out⟩
     | true =>
      have HQ := Aside0.mk hbv
      clear hbv
      have hmm := @run_makeMap Tryz.prog
      have x3' := cellA x3
      have x4' := cellA x4
      have HG3 := Aside0.mk (Kd.C_below HG.out.2 HB3.out)
      have HG3' := Aside0.mk (Kd.C_below HG.out.1 HB3.out)
      have hb4 := (Below.refl w3.heap.size w3).alloc (Nat.le_refl _) (.map #[] 0)
      have HIS := Aside0.mk (MapL.Is.made Value.string w3)
      have HB4 := Aside0.mk hb4
      clear hb4
      go_wp2_with fail
      clear hmm
      go_loopg [7, 29] x.f4.length (fun kq v7 v29 w2 => ∃ k : Nat, k + kq = x.f4.length ∧ v29 = .int .i64 k ∧ Aside0 (MapL.Is Value.string w2 w3.heap.size (setTo x.f4 k)) ∧ Aside0 (Below w3.heap.size w3 w2))
      case atStart => exact ⟨0, by omega, rfl, HIS, HB4⟩
      case round =>
       obtain ⟨k, hk, rfl, HI, HBR⟩ := hrel
       clear HIS HB4 x3' x4'
       have y3 : wr.cell? ⟨w.heap.size, 3, none⟩ = some (.slice A3 x.f3.length c3) := blk_cell (blk_below HV3.out HBR.out) 3
       have y4 : wr.cell? ⟨w.heap.size, 4, none⟩ = some (.slice A4 x.f4.length c4) := blk_cell (blk_below HV3.out HBR.out) 4
       cases gk with
       | zero =>
        have hge : ¬ ((k : Nat) : Int) < (x.f4.length : Int) := by omega
        obtain rfl : k = x.f4.length := by omega
        have HSL := Aside0.mk (setTo_len x.f4 x.f4.length (Nat.le_refl _)).2
        by_cases q : (setTo x.f4 x.f4.length).length = x.f4.length
        · have hb : (((setTo x.f4 x.f4.length).length : Int) != (x.f4.length : Int)) = false := by simp [q]
          have HQ2 := Aside0.mk q
          clear q
          have hmf : ∀ (fn : Fn) (first cap : Array Value) (w : World), (Instr.makeFunc fn first cap).run Tryz.prog w = .ok (.func fn first cap) w := fun _ _ _ _ => rfl
          go_wp2_with (refine MapL.wp_len _ rfl (.tmp 37) _ rfl _ _ Tryz.underlying139 w3.heap.size _ rfl HI.out ?_)
          have hx3 : x.f3 = [] := List.length_eq_zero_iff.1 (bareR_rows HQ.out HN.out.1 HN.out.2)
          have HX3 := Aside0.mk hx3
          clear hx3
          refine (ContainsFunc_calls x.f3 (fun _ => false) 99 #[.pointer (some ⟨w.heap.size + 1, 0, none⟩)] A3 c3 wr h3 sound1_enters (Kd.C_below HG3'.out HBR.out) ?_).mono ?_
          · intro y hy
            rw [HX3.out] at hy
            cases hy
          · rintro e w5 ⟨rfl, hb5⟩
            have HB5 := Aside0.mk ((HB3.out.trans (HBR.out.mono HB3.out.size)).trans (hb5.mono (Nat.le_trans HB3.out.size HBR.out.size)))
            clear hb5
            have hnd : decide x.f4.Nodup = true := by
             rw [decide_eq_true_iff]
             have := HSL.out.1 HQ2.out
             rwa [List.take_length] at this
            have HE := Aside0.mk (show r = !(x.f3.any fun _ => false) by
             rw [HR.out]
             simp only [soundR, bareV, HQ.out, hnd, Bool.true_and]
             rw [k5, k6, HX3.out]
             rfl)
            clear hnd
            generalize (x.f3.any fun _ => false) = q2 at *
            go_wp2
            go_ret
            exact ⟨by rw [HE.out]; rfl, HB5.out⟩
        · have hb : (((setTo x.f4 x.f4.length).length : Int) != (x.f4.length : Int)) = true := by simp; omega
          have HQ2 := Aside0.mk q
          clear q
          go_wp2_with (refine MapL.wp_len _ rfl (.tmp 37) _ rfl _ _ Tryz.underlying139 w3.heap.size _ rfl HI.out ?_)
          go_ret
          refine ⟨?_, HB3.out.trans (HBR.out.mono HB3.out.size)⟩
          have hnd : decide x.f4.Nodup = false := by
           rw [decide_eq_false_iff_not]
           intro e
           exact HQ2.out (HSL.out.2 (by rw [List.take_length]; exact e))
          rw [HR.out]
          simp [soundR, hnd]
       | succ k1 =>
        have hlt : k < x.f4.length := by omega
        have hltz : ((k : Nat) : Int) < (x.f4.length : Int) := by omega
        obtain ⟨ad, cs, e, _, hK, hc0⟩ := Kd.C_get (Kd.C_below HG3.out HBR.out) ByteArray.empty (k : Int) (by omega) hltz
        cases e
        have hK' : cs = [.string (x.f4.getD k ByteArray.empty)] := by simpa [Kd.string, Kd.scalar] using hK
        subst hK'
        have r0 : wr.cell? (ad.add k) = some (.string (x.f4.getD k ByteArray.empty)) := by
         have := hc0 0 _ rfl
         simpa [Kd.string, Kd.scalar] using this
        have HI2 := HI
        clear hK hc0
        generalize hnm : x.f4.getD k ByteArray.empty = nme at *
        have HNM := Aside0.mk hnm
        clear hnm
        go_wp2_with (refine MapL.wp_update _ rfl (.tmp 33) (.tmp 34) (.tmp 35) _ rfl _ _ MapL.keyed_string Tryz.underlying139 Tryz.underlying9 w3.heap.size _ rfl HI2.out nme (.agg #[]) (by rfl) (by rfl) ?_; intro w4 hm4 hg4; replace hm4 := Aside0.mk hm4; replace hg4 := Aside0.mk hg4)
        go_roundg k1
        case measure => omega
        case rel => exact ⟨k + 1, by omega, by go_num, Aside0.mk (by rw [setTo, HNM.out]; exact hm4.out), Aside0.mk (HBR.out.grown hg4.out HBR.out.size (fun b e => by cases e; exact Nat.le_refl _))⟩
theorem sound_calls : ∀ d, d ≤ 8 → SoundC d
 | 0, _ => sound_zero
 | d + 1, h => sound_succ d (by omega) (sound_calls d (by omega))
end Go.Proofs.YtamcicojockhpaaGreatDoor.Tr
end
section
set_option linter.unusedVariables false
set_option linter.unusedSimpArgs false
namespace Go.Proofs.YtamcicojockhpaaGreatDoor.Tr
open Go Go.Proofs.YtamcicojockhpaaGreatDoor.Lx Go.Proofs.YtamcicojockhpaaGreatDoor.PS
def leafW (x : V) : List UInt8 := if x.f0 = 1 then wNul else if x.f0 = 2 then Lib.formatBool (x.f1 == 1) else if x.f0 = 3 then Lib.itoa x.f1 else if x.f0 = 4 then quoteR x.f2.data.toList else []
def elemsW (f : V → List UInt8) (m : Bool) : Nat → List V → List ByteArray → List UInt8
 | _, [], _ => []
 | i, y :: ys, ns => (if i = 0 then [] else [44]) ++ (if m = true then quoteR (ns.headD ByteArray.empty).data.toList ++ [58] else []) ++ f y ++ elemsW f m (i + 1) ys ns.tail
def writeD : Nat → V → List UInt8
 | 0, x => leafW x
 | d + 1, x => if x.f0 = 5 then [91] ++ elemsW (writeD d) false 0 x.f3 x.f4 ++ [93] else if x.f0 = 6 then [123] ++ elemsW (writeD d) true 0 x.f3 x.f4 ++ [125] else leafW x
def printR (x : V) : List UInt8 × Nat := if soundR 8 x = true then (writeD 8 x, 0) else ([], 1)
end Go.Proofs.YtamcicojockhpaaGreatDoor.Tr
end
section
set_option linter.unusedVariables false
set_option linter.unusedSimpArgs false
namespace Go.Proofs.YtamcicojockhpaaGreatDoor.Tr
open Go.RowKit Go.Proofs.YtamcicojockhpaaGreatDoorW.PrintWords Go.Proofs.YtamcicojockhpaaGreatDoorW.PrintLast Go.Proofs.YtamcicojockhpaaGreatDoorW.PrintMore
open Go.Proofs.YtamcicojockhpaaGreatDoor.Lx Go.Proofs.YtamcicojockhpaaGreatDoor.PS
section
variable {P : Program} {ops : Array Oper} {Q : Exit → Act → World → Prop} {md : Region.Mode} {S : World → Prop} {ds : List Nat}
theorem two_last_ {i j : Nat} {Ni Nj : Option Tmp} {oi oj : Oper} {fuel : Nat} {l : Array Bool} {a : Act} {w : World} (li lj : Array Bool) (hi : ops[i]? = some oi) (hj : ops[j]? = some oj) (hNi : oi.dst = Ni) (hNj : oj.dst = Nj)
 (hc : (Region.ready md ops l == [i, j] && l.setIfInBounds i true == li && l.setIfInBounds j true == lj) = true) (hdi : i ∈ ds) (hdj : j ∈ ds)
 (h1 : ∀ K : Act → World → Prop, Shut (∀ a' w', wpAnyLast P md ops Q S ds fuel li a' w' → K a' w') → if Region.wanted oi (yielded ops a.tmps) = true then Oper.wp P oi a w K Q else K (a.put Ni undef) w)
 (h2 : ∀ K : Act → World → Prop, Shut (∀ a' w', wpAnyLast P md ops Q S ds fuel lj a' w' → K a' w') → if Region.wanted oj (yielded ops a.tmps) = true then Oper.wp P oj a w K Q else K (a.put Nj undef) w) :
 wpAnyLast P md ops Q S ds (fuel + 1) l a w := by
 subst hNi
 subst hNj
 simp only [Bool.and_eq_true, beq_iff_eq] at hc
 obtain ⟨⟨h3, h4⟩, h5⟩ := hc
 subst h4
 subst h5
 exact wpAnyLast_ready h3 (by simp) (AllReadyL.cons_last hi hdi (fun K hK => h1 K hK) (AllReadyL.cons_last hj hdj (fun K hK => h2 K hK) AllReadyL.nil))
end
section
variable {P : Program} {ops : Array Oper} {o : Oper} {a : Act} {Q : Exit → Act → World → Prop} {K : Act → World → Prop}
theorem step_append_any {W : World} (base : Nat) (hw : Region.wanted o (yielded ops a.tmps) = true) (s x : Operand) (t e : TypeId) (z : Value) (size bytes : Nat)
 (ho : o.op = .call { callee := .builtin .append, args := #[s, x], argTypes := #[t, t] })
 (ht : P.underlying t = some (.slice e)) (hinfo : (P.info? e).map (fun i => (i.zero, i.size, i.bytes)) = some (some z, size, bytes)) (hz : z.cells.size = size) (hs0 : 0 < size) (hb0 : 0 < bytes)
 (v : Value) (n : Nat) (xs ys : List Value) (ad : Addr) (hs : a.eval s = v) (hx : a.eval x = .slice (some ad) 1 1) (hys : ys.length = size) (hcells : ∀ j u, ys[j]? = some u → W.cell? (ad.add j) = some u) (h1 : ∀ u ∈ ys, u.oneCell' = true)
 (HO : W.ownsRow base e size v n xs) (hbase : base ≤ W.heap.size) (hl : (n + 1) * bytes ≤ 140737488355328)
 (h : ∀ v1 w1, w1.ownsRow base e size v1 (n + 1) (xs ++ ys) → W.grownBy w1 v.ownBlock → (v1.ownBlock = v.ownBlock ∨ ∃ b, v1.ownBlock = some b ∧ W.heap.size ≤ b) → K (a.put o.dst v1) w1) :
 if Region.wanted o (yielded ops a.tmps) = true then Oper.wp P o a W K Q else K (a.put o.dst undef) W := by
 obtain ⟨i0, hi, hzz⟩ := Option.map_eq_some_iff.1 hinfo
 simp only [Prod.mk.injEq] at hzz
 obtain ⟨hz0, hz1, hz2⟩ := hzz
 have hlen : n + 1 ≤ 140737488355328 := Nat.le_trans (Nat.le_mul_of_pos_right _ hb0) hl
 rw [if_pos hw]
 obtain ⟨v1, w1, hr, hown, hg, _, hat⟩ := run_append_own_at (P := P) W base t o.type e i0 z size bytes ht hi hz0 hz1 hz2 hz hs0 v n xs HO ad 1 1 ys (by rw [hys]; simp) hcells h1 (by simp only [maxLen]; omega) hl hbase
 unfold Oper.wp execOp
 simp only [ho, resolve, invoke, builtin, Sem.run_bind, Sem.run_pure, Result.andThen_ok, List.map_toArray, List.map_cons, List.map_nil, hs, hx, hr]
 refine h v1 w1 hown hg ?_
 rcases hat with hat | hat
 · exact .inl hat
 · exact .inr ⟨_, hat, Nat.le_refl _⟩
end
theorem list_set5 {l inner : List Value} {k : Nat} (hk : inner.length = k) {z0 z1 z2 z3 z4 : Value} (h : l.take (k + 5) = inner ++ [z0, z1, z2, z3, z4]) (a0 a1 a2 a3 a4 : Value) :
 (((((l.set k a0).set (k + 1) a1).set (k + 2) a2).set (k + 3) a3).set (k + 4) a4).take (k + 5) = inner ++ [a0, a1, a2, a3, a4] := by
 subst hk
 simp only [List.take_set, h]
 simp [List.set_append]
def put5 (w : World) (g k : Nat) (a0 a1 a2 a3 a4 : Value) : World := ((((w.setCell ⟨g, k, none⟩ a0).setCell ⟨g, k + 1, none⟩ a1).setCell ⟨g, k + 2, none⟩ a2).setCell ⟨g, k + 3, none⟩ a3).setCell ⟨g, k + 4, none⟩ a4
theorem put5_far {w : World} {g k b : Nat} (h : b ≠ g) (a0 a1 a2 a3 a4 : Value) : (put5 w g k a0 a1 a2 a3 a4).heap[b]? = w.heap[b]? := by
 unfold put5
 rw [far_set _ _ _ _ _ h, far_set _ _ _ _ _ h, far_set _ _ _ _ _ h, far_set _ _ _ _ _ h, far_set _ _ _ _ _ h]
theorem put5_same (w : World) (g k : Nat) (a0 a1 a2 a3 a4 : Value) : Below 0 w (put5 w g k a0 a1 a2 a3 a4) :=
 (((((Below.refl 0 w).setCell (p := ⟨g, k, none⟩) (Nat.zero_le _) a0).setCell (p := ⟨g, k + 1, none⟩) (Nat.zero_le _) a1).setCell (p := ⟨g, k + 2, none⟩) (Nat.zero_le _) a2).setCell (p := ⟨g, k + 3, none⟩) (Nat.zero_le _) a3).setCell (p := ⟨g, k + 4, none⟩) (Nat.zero_le _) a4
theorem blk_set {w : World} {g : Nat} {t : TypeId} {cur : Array Value} (h : w.heap[g]? = some (.cells cur t (0, 0))) (k : Nat) (v : Value) : (w.setCell ⟨g, k, none⟩ v).heap[g]? = some (.cells (cur.setIfInBounds k v) t (0, 0)) := blk_put h k v rfl
theorem put5_blk {w : World} {g k : Nat} {t : TypeId} {cur : Array Value} (h : w.heap[g]? = some (.cells cur t (0, 0))) (a0 a1 a2 a3 a4 : Value) :
 (put5 w g k a0 a1 a2 a3 a4).heap[g]? = some (.cells (((((cur.setIfInBounds k a0).setIfInBounds (k + 1) a1).setIfInBounds (k + 2) a2).setIfInBounds (k + 3) a3).setIfInBounds (k + 4) a4) t (0, 0)) :=
 blk_set (blk_set (blk_set (blk_set (blk_set h _ _) _ _) _ _) _ _) _ _
theorem get_setCell {w w1 : World} {g k j : Nat} (h : w1.heap[k]? = w.heap[k]?) (v : Value) : (w1.setCell ⟨g, j, none⟩ v).heap[k]? = (w.setCell ⟨g, j, none⟩ v).heap[k]? := by
 by_cases e : k = g
 · subst e
   simp only [World.setCell, Array.getElem?_modify, h]
 · rw [far_set _ _ _ _ _ e, far_set _ _ _ _ _ e, h]
theorem put5_comm {w : World} {g n b j k : Nat} {u : Value} (h : k ≠ b) (a0 a1 a2 a3 a4 : Value) (_ : True := trivial) : (put5 (w.setCell ⟨b, j, none⟩ u) g n a0 a1 a2 a3 a4).heap[k]? = (put5 w g n a0 a1 a2 a3 a4).heap[k]? :=
 get_setCell (get_setCell (get_setCell (get_setCell (get_setCell (far_set _ _ _ _ _ h) _) _) _) _) _
theorem put5_own {w : World} {base g n c : Nat} {e : TypeId} {inner : List Value} {z0 z1 z2 z3 z4 : Value} (hi : inner.length = n * 5) (h : w.ownsRow base e 5 (.slice (some ⟨g, 0, none⟩) (n + 1) c) (n + 1) (inner ++ [z0, z1, z2, z3, z4])) (a0 a1 a2 a3 a4 : Value) :
 (put5 w g (n * 5) a0 a1 a2 a3 a4).ownsRow base e 5 (.slice (some ⟨g, 0, none⟩) (n + 1) c) (n + 1) (inner ++ [a0, a1, a2, a3, a4]) := by
 obtain ⟨h1, h2⟩ := h
 refine ⟨by simpa using h1, ?_⟩
 rcases h2 with ⟨h2, _⟩ | ⟨g', cap, cur, hv, hg, hh, r1, r2, r3, r4⟩
 · cases h2
 · injection hv with e1 e2 e3
   injection e1 with e1
   injection e1 with e1
   subst e1
   refine .inr ⟨g, cap, _, by rw [e3], hg, put5_blk hh _ _ _ _ _, r1, r2, by simpa using r3, ?_⟩
   have hm : (n + 1) * 5 = n * 5 + 5 := by omega
   rw [hm] at r4 ⊢
   simp only [Array.toList_setIfInBounds]
   exact list_set5 hi r4 _ _ _ _ _
def Kp (base b c : Nat) (w w1 : World) : Prop := w1.os = w.os ∧ w1.tape = w.tape ∧ w1.output = w.output ∧ w.heap.size ≤ w1.heap.size ∧ ∀ k, k < base → k ≠ b → k ≠ c → w1.heap[k]? = w.heap[k]?
theorem Kp.trans {base b c : Nat} {w w1 w2 : World} (h : Kp base b c w w1) (k : Kp base b c w1 w2) : Kp base b c w w2 := ⟨k.1.trans h.1, k.2.1.trans h.2.1, k.2.2.1.trans h.2.2.1, Nat.le_trans h.2.2.2.1 k.2.2.2.1, fun j h1 h2 h3 => (k.2.2.2.2 j h1 h2 h3).trans (h.2.2.2.2 j h1 h2 h3)⟩
theorem Kp.of_keep {base b c : Nat} {w w1 : World} (h : KeepR b w w1) (hb : base ≤ w.heap.size) : Kp base b c w w1 := ⟨h.1.os, h.1.tape, h.1.output, h.2.1, fun k h1 h2 _ => h.2.2 k (by omega) h2⟩
theorem infoVal : (Tryz.prog.info? 51).map (fun i => (i.zero, i.size, i.bytes)) = some (some (.agg #[.int .i64 0, .int .i64 0, .string ⟨#[]⟩, .slice none 0 0, .slice none 0 0]), 5, 80) := by kernel_rfl
def zCs : List Value := [.int .i64 0, .int .i64 0, .string ⟨#[]⟩, .slice none 0 0, .slice none 0 0]
def VQ (ts : List Tk) (len : Nat) (G : Obj) (g b o : Nat) (r : PRes) (w : World) (e : Ending) (w' : World) : Prop := KeepR b w w' ∧ match r with
 | .ok v p1 => (∃ v3 v4, e = .returned (.agg #[.int .i64 v.f0, .int .i64 v.f1, .string v.f2, v3, v4]) ∧ k51.R 51 w' w.heap.size (fun _ => True) v3 v.f3 ∧ Kd.string.R 9 w' w.heap.size (fun _ => True) v4 v.f4) ∧ Pz ts len G g b p1 o w'
 | .bad c a => e = .panicked [{ v := wrongV c a, recovered := false }]
def ValC (ts : List Tk) (len : Nat) (G : Obj) (f : Nat) : Prop := ∀ (g b o p : Nat) (r : PRes) (w : World), o ≤ 8 → valP ts len f o p = some r → Pz ts len G g b p o w → Calls Tryz.prog 53 #[.pointer (some ⟨b, 0, none⟩)] w (VQ ts len G g b o r w)
theorem Pz.move {ts : List Tk} {len : Nat} {G : Obj} {g b p o : Nat} {w w' : World} (h : Pz ts len G g b p o w) (h1 : w'.heap[b]? = w.heap[b]?) (h2 : w'.heap[g]? = w.heap[g]?) : Pz ts len G g b p o w' := by
 obtain ⟨⟨c, h3, h4⟩, h5, h6, h7⟩ := h
 exact ⟨⟨c, h1.trans h3, h4⟩, h2.trans h5, h6, h7⟩
theorem arr_fin {ts : List Tk} {len : Nat} {G : Obj} {base g b bv p1 o g5 c5 : Nat} {v : V} {vl v3 v4 : Value} {acc : List V} {inner : List Value} {w w4 w5 wf : World} (ok : Nat → Prop) (h0 : ∀ k, vl.ownBlock = some k → ok k) (hfresh : ∀ k, w.heap.size ≤ k → ok k)
 (hbase : base ≤ w.heap.size) (hgb : g < base) (hbb : b < base) (hnv : b ≠ bv) (hgv : g ≠ bv) (hbvb : bv < base)
 (hlt : ∀ k, vl.ownBlock = some k → base ≤ k ∧ k < w.heap.size) (hk4 : KeepR b w w4) (hz4 : Pz ts len G g b p1 o w4)
 (hR3 : k51.R 51 w4 w.heap.size (fun _ => True) v3 v.f3) (hR4 : Kd.string.R 9 w4 w.heap.size (fun _ => True) v4 v.f4)
 (hreps : Reps (k51.M w4 base fun k => ok k ∧ some k ≠ vl.ownBlock) 5 acc inner) (hil : inner.length = acc.length * 5)
 (hown5 : w5.ownsRow base 51 5 (.slice (some ⟨g5, 0, none⟩) (acc.length + 1) c5) (acc.length + 1) (inner ++ zCs)) (hg5 : w4.grownBy w5 vl.ownBlock) (hg5b : base ≤ g5)
 (hat5 : (Value.slice (some ⟨g5, 0, none⟩) (acc.length + 1) c5).ownBlock = vl.ownBlock ∨ ∃ b, (Value.slice (some ⟨g5, 0, none⟩) (acc.length + 1) c5).ownBlock = some b ∧ w4.heap.size ≤ b)
 (hwf : Below 0 w5 wf) (hwk : ∀ k, k ≠ bv → wf.heap[k]? = (put5 w5 g5 (acc.length * 5) (.int .i64 v.f0) (.int .i64 v.f1) (.string v.f2) v3 v4).heap[k]?) :
 Kp base b bv w wf ∧ Pz ts len G g b p1 o wf ∧ k51.R 51 wf base ok (.slice (some ⟨g5, 0, none⟩) (acc.length + 1) c5) (acc ++ [v]) ∧ (∀ k, k < w4.heap.size → some k ≠ vl.ownBlock → k ≠ bv → wf.heap[k]? = w4.heap[k]?) := by
 have hs4 := hk4.2.1
 have hs5 := hg5.size
 have far : ∀ k, k < base → k ≠ bv → wf.heap[k]? = w4.heap[k]? := fun k h1 h2 => (hwk k h2).trans ((put5_far (by omega) _ _ _ _ _).trans (hg5.block k (by omega) (fun e => by have := hlt k e.symm; omega)))
 have hat' : ∀ k, k < w4.heap.size → some k ≠ vl.ownBlock → k ≠ g5 := by
  intro k h1 h2 e
  subst e
  rcases hat5 with h | ⟨b', h, h'⟩
  · exact h2 h
  · injection h with h
    have h : k = b' := h
    omega
 refine ⟨⟨hwf.os.trans (hg5.os.trans hk4.1.os), hwf.tape.trans (hg5.tape.trans hk4.1.tape), hwf.output.trans (hg5.output.trans hk4.1.output), Nat.le_trans (Nat.le_trans hs4 hs5) hwf.size, fun k h1 h2 h3 => (far k h1 h3).trans (hk4.2.2 k (by omega) h2)⟩, hz4.move (far b hbb hnv) (far g hgb hgv), ?_, fun k h1 h2 h3 => (hwk k h3).trans ((put5_far (hat' k h1 h2) _ _ _ _ _).trans (hg5.block k h1 h2))⟩
 have hb0 := put5_same w5 g5 (acc.length * 5) (.int .i64 v.f0) (.int .i64 v.f1) (.string v.f2) v3 v4
 have hM := k51.M_bound (k51_mkM w4 w.heap.size (fun _ => True) v hR3 hR4)
 have hR := Kd.R_appended (d := k51) (e := 51) (base := base) (ok := ok) (w1 := put5 w5 g5 (acc.length * 5) (.int .i64 v.f0) (.int .i64 v.f1) (.string v.f2) v3 v4) (v := vl) h0 hreps (k51.M_lower hbase hM) (fun k hk => ⟨hfresh k hk.2.1, fun e => by have := hlt k e.symm; have := hk.2.1; omega⟩) (fun k hk => hfresh k (by omega))
  (put5_own hil hown5 _ _ _ _ _) ⟨hb0.os.trans hg5.os, hb0.tape.trans hg5.tape, hb0.output.trans hg5.output, Nat.le_trans hs5 hb0.size, fun k h1 h2 => (put5_far (hat' k h1 h2) _ _ _ _ _).trans (hg5.block k h1 h2)⟩ hat5
 exact Kd.R_mono (Kd.R_step (Kd.R_bound hR) fun k hk _ => hwk k (by have := hk.2.1; omega)) (fun _ hk => hk.1)
theorem value_enters (args : Array Value) (w : World) : (callFunc 53 args).run Tryz.prog w = .ok (.enter 53 args) w := enters_ Tryz.func53 (by kernel_rfl) (by kernel_rfl) args w
set_option maxRecDepth 100000 in
set_option maxHeartbeats 2000000 in
theorem arr1_bad (ts : List Tk) (len : Nat) (G : Obj) (f : Nat) (IH : ValC ts len G f) (base g b bv bp o p c a : Nat) (vl : Value) (acc : List V) (w : World) (ho : o ≤ 8) (hr : valP ts len f o p = some (.bad c a)) (hz : Pz ts len G g b p o w)
 (hbase : base ≤ w.heap.size) (hbb : b < base) (hacc : acc.length ≤ 1000000)
 (hv : w.heap[bv]? = some (.cells #[.int .i64 5, .int .i64 0, .string ⟨#[]⟩, vl, .slice none 0 0] 51 (0, 0))) (hp : w.heap[bp]? = some (.cells #[.pointer (some ⟨b, 0, none⟩)] 90 (0, 0)))
 (hR : k51.R 51 w base (fun _ => True) vl acc) :
 Calls Tryz.prog 117 #[.pointer (some ⟨bv, 0, none⟩), .pointer (some ⟨bp, 0, none⟩)] w fun e w' => e = .panicked [{ v := wrongV c a, recovered := false }] ∧ KeepR b w w' := by
 obtain ⟨Av, cv, rfl⟩ := Kd.R_slice hR
 have cv3 : w.drew.cell? ⟨bv, 3, none⟩ = some (.slice Av acc.length cv) := blk_cell (w := w.drew) hv 3
 have cp0 : w.drew.cell? ⟨bp, 0, none⟩ = some (.pointer (some ⟨b, 0, none⟩)) := blk_cell (w := w.drew) hp 0
 have hdr : Below w.heap.size w w.drew := ⟨rfl, rfl, rfl, Nat.le_refl _, fun _ _ => rfl⟩
 have hzd := hz.keep hdr
 have HIH := Aside0.mk IH
 clear hz hv hp hR IH
 go_enter Tryz.func117, Tryz.ntmps117
 refine start_ (n := 11) (S := fun w' => w'.cell? ⟨bv, 3, none⟩ = some (.slice Av acc.length cv) ∧ w'.cell? ⟨bp, 0, none⟩ = some (.pointer (some ⟨b, 0, none⟩))) (ds := [6, 8, 10]) #[fF, fF, fF, fF, fF, fF, fF, fF, fF, fF, fF] (by kernel_rfl) rfl rfl ⟨cv3, cp0⟩ (fun hHeld => ?_)
 refine pure_ (i := 0) (N := some 2) (v := ?_) (a' := ?_) #[tT, fF, fF, fF, fF, fF, fF, fF, fF, fF, fF] rfl rfl (by kernel_rfl) (fun _ _ _ h => h) (Or.inl ⟨by rfl, ?_⟩) ?_ ?_
 rotate_left
 · intro w'
   go_simp
   with_reducible rfl
 rotate_left
 · simp only [Act.put, sA, sZ, sS, i64_w, i32_w]
   rfl
 refine take_ (i := 1) (N := some 3) (v := ?_) (a' := ?_) #[tT, tT, fF, fF, fF, fF, fF, fF, fF, fF, fF] rfl rfl (by kernel_rfl) (fun _ _ _ h => h) (Or.inl ⟨by rfl, ?_⟩) hHeld ?_ ?_
 rotate_left
 · rintro w' ⟨e1, e2⟩
   go_simp
   with_reducible rfl
 rotate_left
 · simp only [Act.put, sA, sZ, sS, i64_w, i32_w]
   rfl
 refine take_ (i := 2) (N := some 4) (v := ?_) (a' := ?_) #[tT, tT, tT, fF, fF, fF, fF, fF, fF, fF, fF] rfl rfl (by kernel_rfl) (fun _ _ _ h => h) (Or.inl ⟨by rfl, ?_⟩) hHeld ?_ ?_
 rotate_left
 · rintro w' ⟨e1, e2⟩
   go_simp
   with_reducible rfl
 rotate_left
 · simp only [Act.put, sA, sZ, sS, i64_w, i32_w]
   rfl
 refine pure_ (i := 4) (N := some 6) (v := ?_) (a' := ?_) #[tT, tT, tT, fF, tT, fF, fF, fF, fF, fF, fF] rfl rfl (by kernel_rfl) (fun _ _ _ h => h) (Or.inl ⟨by rfl, ?_⟩) ?_ ?_
 rotate_left
 · intro w'
   go_simp
   with_reducible rfl
 rotate_left
 · simp only [Act.put, sA, sZ, sS, i64_w, i32_w]
   rfl
 refine two_ (i := 3) (j := 5) (Ni := some 5) (Nj := some 7) #[tT, tT, tT, tT, tT, fF, fF, fF, fF, fF, fF] #[tT, tT, tT, fF, tT, tT, fF, fF, fF, fF, fF] rfl rfl rfl rfl (by kernel_rfl) (by decide) (by decide) (fun K hK => ?_) (fun K hK => ?_)
 · refine call_dies_ 53 #[.pointer (some ⟨b, 0, none⟩)] (by rfl) rfl (by
    unfold execOp
    simp [resolve, Deferred.ofValue, invoke, Act.eval, value_enters]) ?_
   refine (HIH.out g b o p _ _ ho hr hzd).mono ?_
   rintro e w4 ⟨hk4, he⟩
   exact ⟨_, he, rfl, rfl, ⟨(hdr.mono (by omega)).trans hk4.1, hk4.2.1, hk4.2.2⟩⟩
 · rw [if_pos (by rfl)]
   unfold Oper.wp
   go_simp
   have hb5 := (Below.refl w.heap.size w.drew).alloc (Nat.le_refl _) (.cells zCs.toArray 51)
   refine hK.out _ _ ⟨cellA cv3 _, cellA cp0 _⟩ fun hHeld => ?_
   clear hK K
   refine one_ (i := 3) (N := some 5) #[tT, tT, tT, tT, tT, tT, fF, fF, fF, fF, fF] rfl rfl (by kernel_rfl) (by decide) (fun K hK => ?_)
   refine call_dies_ 53 #[.pointer (some ⟨b, 0, none⟩)] (by rfl) rfl (by
    unfold execOp
    simp [resolve, Deferred.ofValue, invoke, Act.eval, value_enters]) ?_
   refine (HIH.out g b o p _ _ ho hr (hzd.keep hb5)).mono ?_
   rintro e w4 ⟨hk4, he⟩
   have hk0 : KeepR b w (w.drew.alloc (.cells zCs.toArray 51)) := KeepR.of_below (hdr.trans hb5) (by omega)
   exact ⟨_, he, rfl, rfl, hk0.trans hk4⟩
set_option maxRecDepth 100000 in
set_option maxHeartbeats 2000000 in
theorem arr1_ok (ts : List Tk) (len : Nat) (G : Obj) (f : Nat) (IH : ValC ts len G f) (base g b bv bp o p p1 : Nat) (v : V) (vl : Value) (acc : List V) (w : World) (ho : o ≤ 8) (hr : valP ts len f o p = some (.ok v p1)) (hz : Pz ts len G g b p o w)
 (hbase : base ≤ w.heap.size) (hgb : g < base) (hbb : b < base) (hbvb : bv < base) (hbpb : bp < base) (hnv : b ≠ bv) (hnp : b ≠ bp) (hgv : g ≠ bv) (hvp : bv ≠ bp) (hacc : acc.length ≤ 1000000)
 (hv : w.heap[bv]? = some (.cells #[.int .i64 5, .int .i64 0, .string ⟨#[]⟩, vl, .slice none 0 0] 51 (0, 0))) (hp : w.heap[bp]? = some (.cells #[.pointer (some ⟨b, 0, none⟩)] 90 (0, 0)))
 (hR : k51.R 51 w base (fun _ => True) vl acc) :
 Calls Tryz.prog 117 #[.pointer (some ⟨bv, 0, none⟩), .pointer (some ⟨bp, 0, none⟩)] w fun e w' => e = .returned (.tuple #[]) ∧ Kp base b bv w w' ∧ Pz ts len G g b p1 o w' ∧
  ∃ vl', w'.heap[bv]? = some (.cells #[.int .i64 5, .int .i64 0, .string ⟨#[]⟩, vl', .slice none 0 0] 51 (0, 0)) ∧ k51.R 51 w' base (fun _ => True) vl' (acc ++ [v]) := by
 obtain ⟨Av, cv, rfl⟩ := Kd.R_slice hR
 have cv3 : w.drew.cell? ⟨bv, 3, none⟩ = some (.slice Av acc.length cv) := blk_cell (w := w.drew) hv 3
 have cp0 : w.drew.cell? ⟨bp, 0, none⟩ = some (.pointer (some ⟨b, 0, none⟩)) := blk_cell (w := w.drew) hp 0
 have hdr : Below w.heap.size w w.drew := ⟨rfl, rfl, rfl, Nat.le_refl _, fun _ _ => rfl⟩
 have hzd := hz.keep hdr
 have HZ := Aside0.mk hz
 have HV := Aside0.mk hv
 have HP := Aside0.mk hp
 have HRR := Aside0.mk hR
 have HIH := Aside0.mk IH
 clear hz hv hp hR IH
 go_enter Tryz.func117, Tryz.ntmps117
 refine start_ (n := 11) (S := fun w' => w'.cell? ⟨bv, 3, none⟩ = some (.slice Av acc.length cv) ∧ w'.cell? ⟨bp, 0, none⟩ = some (.pointer (some ⟨b, 0, none⟩))) (ds := [6, 8, 10]) #[fF, fF, fF, fF, fF, fF, fF, fF, fF, fF, fF] (by kernel_rfl) rfl rfl ⟨cv3, cp0⟩ (fun hHeld => ?_)
 refine pure_ (i := 0) (N := some 2) (v := ?_) (a' := ?_) #[tT, fF, fF, fF, fF, fF, fF, fF, fF, fF, fF] rfl rfl (by kernel_rfl) (fun _ _ _ h => h) (Or.inl ⟨by rfl, ?_⟩) ?_ ?_
 rotate_left
 · intro w'
   go_simp
   with_reducible rfl
 rotate_left
 · simp only [Act.put, sA, sZ, sS, i64_w, i32_w]
   rfl
 refine take_ (i := 1) (N := some 3) (v := ?_) (a' := ?_) #[tT, tT, fF, fF, fF, fF, fF, fF, fF, fF, fF] rfl rfl (by kernel_rfl) (fun _ _ _ h => h) (Or.inl ⟨by rfl, ?_⟩) hHeld ?_ ?_
 rotate_left
 · rintro w' ⟨e1, e2⟩
   go_simp
   with_reducible rfl
 rotate_left
 · simp only [Act.put, sA, sZ, sS, i64_w, i32_w]
   rfl
 refine take_ (i := 2) (N := some 4) (v := ?_) (a' := ?_) #[tT, tT, tT, fF, fF, fF, fF, fF, fF, fF, fF] rfl rfl (by kernel_rfl) (fun _ _ _ h => h) (Or.inl ⟨by rfl, ?_⟩) hHeld ?_ ?_
 rotate_left
 · rintro w' ⟨e1, e2⟩
   go_simp
   with_reducible rfl
 rotate_left
 · simp only [Act.put, sA, sZ, sS, i64_w, i32_w]
   rfl
 refine pure_ (i := 4) (N := some 6) (v := ?_) (a' := ?_) #[tT, tT, tT, fF, tT, fF, fF, fF, fF, fF, fF] rfl rfl (by kernel_rfl) (fun _ _ _ h => h) (Or.inl ⟨by rfl, ?_⟩) ?_ ?_
 rotate_left
 · intro w'
   go_simp
   with_reducible rfl
 rotate_left
 · simp only [Act.put, sA, sZ, sS, i64_w, i32_w]
   rfl
 refine join_ (fuel' := 5) (l' := #[tT, tT, tT, tT, tT, tT, fF, fF, fF, fF, fF]) (ns := fun s : Value × Value × Nat => [(5, .agg #[.int .i64 v.f0, .int .i64 v.f1, .string v.f2, s.1, s.2.1]), (7, .slice (some ⟨s.2.2, 0, none⟩) 1 1)])
  (F := fun s w4 => KeepR b w w4 ∧ Pz ts len G g b p1 o w4 ∧ k51.R 51 w4 w.heap.size (fun _ => True) s.1 v.f3 ∧ Kd.string.R 9 w4 w.heap.size (fun _ => True) s.2.1 v.f4 ∧ w4.heap[s.2.2]? = some (.cells zCs.toArray 51 (0, 0))) ?_ ?_
 · rintro ⟨v3, v4, zb⟩ w4 ⟨hk4, hz4, hR3, hR4, hzb⟩
   have hzb0 := hzb
   have hzc : ∀ j u, zCs[j]? = some u → w4.cell? ((⟨zb, 0, none⟩ : Addr).add j) = some u := by
    intro j u hu
    rw [show (⟨zb, 0, none⟩ : Addr).add j = ⟨zb, j, none⟩ by unfold Addr.add; split <;> simp_all]
    exact (blk_cell hzb0 j).trans (by simpa using hu)
   have hRv := Kd.R_mono (Kd.R_step (Kd.R_bound HRR.out) (w1 := w4) fun k hk hk2 => hk4.2.2 k hk2 (by have := hk.2.1; omega)) (ok' := fun _ => True) (fun _ _ => trivial)
   have hzb' : w4.heap[zb]? = some (.cells zCs.toArray 51 (0, 0)) := hzb
   have hR3' : k51.R 51 w4 w.heap.size (fun _ => True) v3 v.f3 := hR3
   have hR4' : Kd.string.R 9 w4 w.heap.size (fun _ => True) v4 v.f4 := hR4
   clear hzb hR3 hR4
   have hsz4 := hk4.2.1
   refine norm_ (a' := ?_) ?_ ?_
   rotate_left
   · simp only [putAll, Act.put, sA, sZ, sS, i64_w, i32_w]
     rfl
   have hRvb := hRv
   obtain ⟨_, inner, hown4, hreps⟩ := hRvb
   refine last_ (i := 6) (N := some 8) #[tT, tT, tT, tT, tT, tT, tT, fF, fF, fF, fF] rfl rfl (by kernel_rfl) (by decide) (fun K hK => ?_)
   refine step_append_any base (by rfl) (.tmp 3) (.tmp 7) 48 51 (.agg #[.int .i64 0, .int .i64 0, .string ⟨#[]⟩, .slice none 0 0, .slice none 0 0]) 5 80 rfl Tryz.underlying48 infoVal rfl (by decide) (by decide) (.slice Av acc.length cv) acc.length inner zCs ⟨zb, 0, none⟩ rfl rfl rfl hzc (by unfold zCs; simp [Value.oneCell']) hown4 (by omega) (by omega) ?_
   intro v1 w5 hown5 hg5 hat5
   refine hK.out _ _ ?_
   clear hK K
   obtain ⟨g5, c5, rfl, hg5b⟩ : ∃ g5 c5, v1 = .slice (some ⟨g5, 0, none⟩) (acc.length + 1) c5 ∧ base ≤ g5 := by
    rcases hown5.2 with ⟨_, h⟩ | ⟨g', cap, cur, h, h', _⟩
    · omega
    · exact ⟨g', cap, h, h'⟩
   refine norm_ (a' := ?_) ?_ ?_
   rotate_left
   · show Act.put _ (some 8) _ = _
     simp only [Act.put, sA, sZ, sS, i64_w, i32_w]
     rfl
   obtain ⟨A3, c3, rfl⟩ := Kd.R_slice hR3'
   obtain ⟨A4, c4, rfl⟩ := Kd.R_slice hR4'
   have hlt : acc.length < acc.length + 1 := Nat.lt_succ_self _
   have hlt' : (acc.length : Int) < (acc.length : Int) + 1 := by omega
   refine pure_ (i := 7) (N := some 9) (v := ?_) (a' := ?_) #[tT, tT, tT, tT, tT, tT, tT, tT, fF, fF, fF] rfl rfl (by kernel_rfl) (fun _ _ _ h => h) (Or.inl ⟨by rfl, ?_⟩) ?_ ?_
   rotate_left
   · intro w'
     go_simp
     with_reducible rfl
   rotate_left
   · simp only [Act.put, sA, sZ, sS, i64_w, i32_w]
     rfl
   refine pure_ (i := 9) (N := some 10) (v := ?_) (a' := ?_) #[tT, tT, tT, tT, tT, tT, tT, tT, fF, tT, fF] rfl rfl (by kernel_rfl) (fun _ _ _ h => h) (Or.inl ⟨by rfl, ?_⟩) ?_ ?_
   rotate_left
   · intro w'
     go_simp
     with_reducible rfl
   rotate_left
   · simp only [Act.put, sA, sZ, sS, i64_w, i32_w]
     rfl
   obtain ⟨hgc5, hfz5⟩ : (∀ j u, (inner ++ zCs)[j]? = some u → w5.cell? ⟨g5, j, none⟩ = some u) ∧ (∀ j, w5.frozen? ⟨g5, j, none⟩ = false) := by
    rcases hown5.2 with ⟨h, _⟩ | ⟨g', cap, cur, h, h', hh, r1, r2, r3, r4⟩
    · cases h
    · injection h with e1 e2 e3
      injection e1 with e1
      injection e1 with e1
      subst e1
      refine ⟨fun j u hu => (blk_cell hh j).trans ?_, blk_frozen hh⟩
      rw [← r4, List.getElem?_take] at hu
      split at hu
      · simpa using hu
      · cases hu
   have hil : inner.length = acc.length * 5 := hown4.1
   have z0 : w5.cell? ⟨g5, acc.length * 5, none⟩ = some (.int .i64 0) := hgc5 _ _ (by rw [← hil, List.getElem?_append_right (by omega)]; simp [zCs])
   have z1 : w5.cell? ⟨g5, acc.length * 5 + 1, none⟩ = some (.int .i64 0) := hgc5 _ _ (by rw [← hil, List.getElem?_append_right (by omega)]; simp [zCs])
   have z2 : w5.cell? ⟨g5, acc.length * 5 + 2, none⟩ = some (.string ⟨#[]⟩) := hgc5 _ _ (by rw [← hil, List.getElem?_append_right (by omega)]; simp [zCs])
   have z3 : w5.cell? ⟨g5, acc.length * 5 + 3, none⟩ = some (.slice none 0 0) := hgc5 _ _ (by rw [← hil, List.getElem?_append_right (by omega)]; simp [zCs])
   have z4 : w5.cell? ⟨g5, acc.length * 5 + 4, none⟩ = some (.slice none 0 0) := hgc5 _ _ (by rw [← hil, List.getElem?_append_right (by omega)]; simp [zCs])
   have hbv5 : w5.heap[bv]? = _ := (hg5.block bv (by omega) (fun e => by have := own_base hown4 bv e.symm; omega)).trans ((hk4.2.2 bv (by omega) (by omega)).trans HV.out)
   have bv3 : w5.cell? ⟨bv, 3, none⟩ = some (.slice Av acc.length cv) := blk_cell hbv5 3
   have bvf : ∀ j, w5.frozen? ⟨bv, j, none⟩ = false := blk_frozen hbv5
   have hgbv : g5 ≠ bv := by omega
   have hgbv' : bv ≠ g5 := by omega
   refine two_last_ (i := 8) (j := 10) (Ni := none) (Nj := none) #[tT, tT, tT, tT, tT, tT, tT, tT, tT, tT, fF] #[tT, tT, tT, tT, tT, tT, tT, tT, fF, tT, tT] rfl rfl rfl rfl (by kernel_rfl) (by decide) (by decide) (fun K hK => ?_) (fun K hK => ?_)
   · rw [if_pos (by rfl)]
     unfold Oper.wp
     go_simp
     refine hK.out _ _ ?_
     clear hK K
     refine last_ (i := 10) (N := none) #[tT, tT, tT, tT, tT, tT, tT, tT, tT, tT, tT] rfl rfl (by kernel_rfl) (by decide) (fun K hK => ?_)
     rw [if_pos (by rfl)]
     unfold Oper.wp
     go_simp
     refine hK.out _ _ ?_
     clear hK K
     refine done_ (by kernel_rfl) ?_
     refine bodyPost_end (results_none rfl _ _ _) rfl ?_
     have hpf : (put5 w5 g5 (acc.length * 5) (.int .i64 v.f0) (.int .i64 v.f1) (.string v.f2) (.slice A3 v.f3.length c3) (.slice A4 v.f4.length c4)).heap[bv]? = _ := (put5_far hgbv' _ _ _ _ _).trans hbv5
     obtain ⟨h1, h2, h3, _⟩ := arr_fin (ok := fun _ => True) (h0 := fun _ _ => trivial) (hfresh := fun _ _ => trivial) (wf := (put5 w5 g5 (acc.length * 5) (.int .i64 v.f0) (.int .i64 v.f1) (.string v.f2) (.slice A3 v.f3.length c3) (.slice A4 v.f4.length c4)).setCell ⟨bv, 3, none⟩ (.slice (some ⟨g5, 0, none⟩) (acc.length + 1) c5)) hbase hgb hbb hnv hgv hbvb (fun k hk => by
      obtain ⟨_, hi, ho', _⟩ := HRR.out
      exact ⟨own_base ho' k hk, own_lt ho' k hk⟩) hk4 hz4 hR3' hR4' hreps hil hown5 hg5 hg5b hat5 ((put5_same _ _ _ _ _ _ _ _).setCell (p := ⟨bv, 3, none⟩) (Nat.zero_le _) _) (fun k hk => far_set _ _ _ _ _ hk)
     exact ⟨rfl, h1, h2, _, blk_put hpf 3 _ rfl, h3⟩
   · rw [if_pos (by rfl)]
     unfold Oper.wp
     go_simp
     refine hK.out _ _ ?_
     clear hK K
     refine last_ (i := 8) (N := none) #[tT, tT, tT, tT, tT, tT, tT, tT, tT, tT, tT] rfl rfl (by kernel_rfl) (by decide) (fun K hK => ?_)
     rw [if_pos (by rfl)]
     unfold Oper.wp
     go_simp
     refine hK.out _ _ ?_
     clear hK K
     refine done_ (by kernel_rfl) ?_
     refine bodyPost_end (results_none rfl _ _ _) rfl ?_
     obtain ⟨h1, h2, h3, _⟩ := arr_fin (ok := fun _ => True) (h0 := fun _ _ => trivial) (hfresh := fun _ _ => trivial) (wf := put5 (w5.setCell ⟨bv, 3, none⟩ (.slice (some ⟨g5, 0, none⟩) (acc.length + 1) c5)) g5 (acc.length * 5) (.int .i64 v.f0) (.int .i64 v.f1) (.string v.f2) (.slice A3 v.f3.length c3) (.slice A4 v.f4.length c4)) hbase hgb hbb hnv hgv hbvb (fun k hk => by
      obtain ⟨_, hi, ho', _⟩ := HRR.out
      exact ⟨own_base ho' k hk, own_lt ho' k hk⟩) hk4 hz4 hR3' hR4' hreps hil hown5 hg5 hg5b hat5 (((Below.refl 0 w5).setCell (p := ⟨bv, 3, none⟩) (Nat.zero_le _) _).trans (put5_same _ _ _ _ _ _ _ _)) (fun k hk => put5_comm hk _ _ _ _ _)
     exact ⟨rfl, h1, h2, _, (put5_far hgbv' _ _ _ _ _).trans (blk_put hbv5 3 _ rfl), h3⟩
 · intro tail
   refine two_ (i := 3) (j := 5) (Ni := some 5) (Nj := some 7) #[tT, tT, tT, tT, tT, fF, fF, fF, fF, fF, fF] #[tT, tT, tT, fF, tT, tT, fF, fF, fF, fF, fF] rfl rfl rfl rfl (by kernel_rfl) (by decide) (by decide) (fun K hK => ?_) (fun K hK => ?_)
   · refine call_ 53 #[.pointer (some ⟨b, 0, none⟩)] (by rfl) rfl (by
      unfold execOp
      simp [resolve, Deferred.ofValue, invoke, Act.eval, value_enters]) ?_
     refine (HIH.out g b o p _ _ ho hr hzd).mono ?_
     rintro e w4 ⟨hk4, ⟨v3, v4, he, hR3, hR4⟩, hz4⟩
     refine ⟨_, he, ?_⟩
     have hk4' : KeepR b w w4 := ⟨(hdr.mono (by omega)).trans hk4.1, hk4.2.1, hk4.2.2⟩
     refine hK.out _ _ ⟨blk_cell ((hk4'.2.2 bv (by omega) (by omega)).trans HV.out) 3, blk_cell ((hk4'.2.2 bp (by omega) (by omega)).trans HP.out) 0⟩ (fun hHeld => ?_)
     clear hK K
     refine norm_ (a' := ?_) ?_ ?_
     rotate_left
     · show Act.put _ (some 5) _ = _
       simp only [Act.put, sA, sZ, sS, i64_w, i32_w]
       rfl
     refine one_ (i := 5) (N := some 7) #[tT, tT, tT, tT, tT, tT, fF, fF, fF, fF, fF] rfl rfl (by kernel_rfl) (by decide) (fun K hK => ?_)
     rw [if_pos (by rfl)]
     unfold Oper.wp
     go_simp
     have hb5 := (Below.refl w4.heap.size w4).alloc (Nat.le_refl _) (.cells zCs.toArray 51)
     refine hK.out _ _ ⟨cellA hHeld.1 _, cellA hHeld.2 _⟩ fun hHeld => ?_
     clear hK K
     exact tail (v3, v4, w4.heap.size) _ ⟨hk4'.alloc (by omega) _, hz4.keep hb5, Kd.R_below hR3 hb5, Kd.R_below hR4 hb5, blk_new w4 _⟩
   · rw [if_pos (by rfl)]
     unfold Oper.wp
     go_simp
     have hb5 := (Below.refl w.heap.size w.drew).alloc (Nat.le_refl _) (.cells zCs.toArray 51)
     refine hK.out _ _ ⟨cellA cv3 _, cellA cp0 _⟩ fun hHeld => ?_
     clear hK K
     refine one_ (i := 3) (N := some 5) #[tT, tT, tT, tT, tT, tT, fF, fF, fF, fF, fF] rfl rfl (by kernel_rfl) (by decide) (fun K hK => ?_)
     refine call_ 53 #[.pointer (some ⟨b, 0, none⟩)] (by rfl) rfl (by
      unfold execOp
      simp [resolve, Deferred.ofValue, invoke, Act.eval, value_enters]) ?_
     refine (HIH.out g b o p _ _ ho hr (hzd.keep hb5)).mono ?_
     rintro e w4 ⟨hk4, ⟨v3, v4, he, hR3, hR4⟩, hz4⟩
     refine ⟨_, he, ?_⟩
     have hk0 : KeepR b w (w.drew.alloc (.cells zCs.toArray 51)) := KeepR.of_below (hdr.trans hb5) (by omega)
     have hk4' : KeepR b w w4 := hk0.trans hk4
     refine hK.out _ _ ⟨blk_cell ((hk4'.2.2 bv (by omega) (by omega)).trans HV.out) 3, blk_cell ((hk4'.2.2 bp (by omega) (by omega)).trans HP.out) 0⟩ (fun hHeld => ?_)
     clear hK K
     exact tail (v3, v4, w.heap.size) _ ⟨hk4', hz4, Kd.R_lower hR3 hk0.2.1, Kd.R_lower hR4 hk0.2.1, (hk4.2.2 w.heap.size (by simp) (by omega)).trans (blk_new w.drew _)⟩
end Go.Proofs.YtamcicojockhpaaGreatDoor.Tr
end
section
namespace Go.Proofs.YtamcicojockhpaaGreatDoor.PC
open Go.RowKit Go.Proofs.YtamcicojockhpaaGreatDoorW.PrintWords Go.Proofs.YtamcicojockhpaaGreatDoorW.PrintLast Go.Proofs.YtamcicojockhpaaGreatDoorW.PrintMore
attribute [local go_sem] max2_int min2_int max_two min_two max_three min_three max_four min_four   -- for this text's walks alone
set_option linter.unusedVariables false
set_option linter.unusedSimpArgs false
def errW : Option Int → Value
 | none => .nilIface
 | some c => .iface 0 (.int .i64 c)
theorem errW_none : errW none = .nilIface := rfl
theorem errW_some (c : Int) : errW (some c) = .iface 0 (.int .i64 c) := rfl
end Go.Proofs.YtamcicojockhpaaGreatDoor.PC
end
section
namespace Go.Proofs.YtamcicojockhpaaGreatDoor.PC
open Go.RowKit Go.Proofs.YtamcicojockhpaaGreatDoorW.PrintWords Go.Proofs.YtamcicojockhpaaGreatDoorW.PrintLast Go.Proofs.YtamcicojockhpaaGreatDoorW.PrintMore
attribute [local go_sem] max2_int min2_int max_two min_two max_three min_three max_four min_four   -- for this text's walks alone
set_option linter.unusedVariables false
set_option linter.unusedSimpArgs false
def slices_Index_string_string.l0 : Nat → List ByteArray → ByteArray → Int → Int → Option (Int)
 | 0, _, _, _, _ => none
 | k + 1, x0, x1, x7, x8 => if x8 < x7 then (if 0 ≤ x8 then (if x8 < (x0.length : Int) then (if x1.toList = (rdOf ByteArray.empty x0 x8).toList then (some x8) else (slices_Index_string_string.l0 k x0 x1 x7 (wrap64 (x8 + 1)))) else (none)) else (none)) else (some (-1))
def slices_Index_string_string.f (k : Nat) (l0 : List ByteArray) (a1 : ByteArray) : Option (Int) := slices_Index_string_string.l0 k l0 a1 (l0.length : Int) 0
theorem slices_Index_string_string.mono_l : ∀ k, (∀ y0 y1 y2 y3, LeO (slices_Index_string_string.l0 k y0 y1 y2 y3) (slices_Index_string_string.l0 (k + 1) y0 y1 y2 y3))
 | 0 => fun _ _ _ _ r h => by simp [slices_Index_string_string.l0] at h
 | k + 1 => by
  have ih0 := slices_Index_string_string.mono_l k
  · intro y0 y1 y2 y3
    unfold slices_Index_string_string.l0
    repeat' first
    | (with_reducible exact ih0 _ _ _ _)
    | (with_reducible exact LeO.refl _)
    | (with_reducible exact LeO.none _)
    | (with_reducible refine LeO.ite ?_ ?_)
    | (with_reducible refine LeO.bind ?_ (fun _ => ?_))
    | exact ih0 _ _ _ _
    | exact LeO.none _
    | refine LeO.ite ?_ ?_
    | refine LeO.bind ?_ (fun _ => ?_)
theorem slices_Index_string_string.mono : ∀ a0 a1 k, LeO (slices_Index_string_string.f k a0 a1) (slices_Index_string_string.f (k + 1) a0 a1) := by
 intro a0 a1 k
 have ih0 := slices_Index_string_string.mono_l k
 unfold slices_Index_string_string.f
 repeat' first
  | (with_reducible exact ih0 _ _ _ _)
  | (with_reducible exact LeO.refl _)
  | (with_reducible exact LeO.none _)
  | (with_reducible refine LeO.ite ?_ ?_)
  | (with_reducible refine LeO.bind ?_ (fun _ => ?_))
  | exact ih0 _ _ _ _
  | exact LeO.none _
  | refine LeO.ite ?_ ?_
  | refine LeO.bind ?_ (fun _ => ?_)
set_option maxHeartbeats 8000000 in
set_option maxRecDepth 100000 in
theorem slices_Index_string_string.calls (k : Nat) (A0 : Option Addr) (c0 : Nat) (l0 : List ByteArray) (a1 : ByteArray) (r : Int) (w : World) (hr0 : Kd.C Kd.string w A0 l0.length l0) (hc0 : l0.length ≤ c0) (h : slices_Index_string_string.f k l0 a1 = some r) :
 Calls Tryz.prog 90 #[.slice A0 l0.length c0, .string a1] w fun e w' => e = .returned (.int .i64 r) ∧ Drawn0 w w' := by
 have HR0 := Aside0.mk hr0
 have HC0 := Aside0.mk hc0
 clear hr0 hc0
 have H : (slices_Index_string_string.l0 k l0 a1 (l0.length : Int) 0) = some r := h
 clear h
 have H' := Aside0.mk H
 clear H
 go_enter Tryz.func90, Tryz.ntmps90
 go_wp2
 go_loopg [8] k (fun kq v8 w' => ∃ (x8_1 : Int), v8 = .int .i64 x8_1 ∧ Aside0 (slices_Index_string_string.l0 kq l0 a1 (l0.length : Int) x8_1 = some r) ∧ Aside0 (kq ≤ k) ∧ Drawn0 w w')
 case atStart => exact ⟨(0), (by first | rfl | (simp; done) | (simp [*]; done)), H', ⟨Nat.le_refl _⟩, by repeat (first | exact Drawn0.refl _ | apply Drawn0.step)⟩
 case round =>
  clear H'
  try clear p2
  obtain ⟨x8_1, rfl, HA, HK1, ⟨m1, rfl⟩⟩ := hrel
  cases gk with
  | zero => exact absurd HA.out (by simp [slices_Index_string_string.l0])
  | succ k1 =>
   have H := HA.out
   clear HA
   simp only [slices_Index_string_string.l0] at H
   by_cases c3 : x8_1 < (l0.length : Int)
   · rw [if_pos c3] at H
     have c3b0 : decide (x8_1 < (l0.length : Int)) = true := decide_eq_true c3
     clear c3
     by_cases c4 : 0 ≤ x8_1
     · rw [if_pos c4] at H
       have c4b0 : decide (0 ≤ x8_1) = true := decide_eq_true c4
       clear c4
       by_cases c5 : x8_1 < (l0.length : Int)
       · rw [if_pos c5] at H
         have c5b0 : decide (x8_1 < (l0.length : Int)) = true := decide_eq_true c5
         clear c5
         by_cases c6 : a1.toList = (rdOf ByteArray.empty l0 x8_1).toList
         · rw [if_pos c6] at H
           have c6b0 : (a1.toList == (rdOf ByteArray.empty l0 x8_1).toList) = true := beq_iff_eq.mpr c6
           have c6b1 : (a1.toList != (rdOf ByteArray.empty l0 x8_1).toList) = false := bne_eq_false_iff_eq.mpr c6
           clear c6
           obtain rfl := Option.some.inj H
           have p101 : 0 ≤ (x8_1 : Int) := of_decide_eq_true (by first | (with_reducible assumption) | assumption)
           have q101 : x8_1 < (l0.length : Int) := of_decide_eq_true (by first | (with_reducible assumption) | assumption)
           obtain ⟨ad101, e101, hx101_0⟩ := Kd.at_string HR0.out x8_1 p101 q101
           cases e101
           replace p101 := eq_true p101
           replace q101 := eq_true q101
           go_wp2
           go_ret
           exact ⟨by first | rfl | (simp; done) | (simp [*]; done), by repeat (first | exact Drawn0.refl _ | apply Drawn0.step)⟩
         · rw [if_neg c6] at H
           have c6b0 : (a1.toList == (rdOf ByteArray.empty l0 x8_1).toList) = false := beq_eq_false_iff_ne.mpr c6
           have c6b1 : (a1.toList != (rdOf ByteArray.empty l0 x8_1).toList) = true := bne_iff_ne.mpr c6
           have H' := Aside0.mk H
           clear H
           have p101 : 0 ≤ (x8_1 : Int) := of_decide_eq_true (by first | (with_reducible assumption) | assumption)
           have q101 : x8_1 < (l0.length : Int) := of_decide_eq_true (by first | (with_reducible assumption) | assumption)
           obtain ⟨ad101, e101, hx101_0⟩ := Kd.at_string HR0.out x8_1 p101 q101
           cases e101
           replace p101 := eq_true p101
           replace q101 := eq_true q101
           go_wp2
           go_roundg k1
           case measure => have := HK1.out; omega
           case rel => exact ⟨(wrap64 (x8_1 + 1)), (by first | rfl | (simp; done) | (simp [*]; done)), H', ⟨by have := HK1.out; omega⟩, by repeat (first | exact Drawn0.refl _ | apply Drawn0.step)⟩
       · rw [if_neg c5] at H
         exact absurd H (by simp)
     · rw [if_neg c4] at H
       exact absurd H (by simp)
   · rw [if_neg c3] at H
     have c3b0 : decide (x8_1 < (l0.length : Int)) = false := decide_eq_false c3
     clear c3
     obtain rfl := Option.some.inj H
     go_wp2
     go_ret
     exact ⟨by first | rfl | (simp; done) | (simp [*]; done), by repeat (first | exact Drawn0.refl _ | apply Drawn0.step)⟩
def slices_Contains_string_string.f (k : Nat) (l0 : List ByteArray) (a1 : ByteArray) : Option (Bool) := (slices_Index_string_string.f k l0 a1).bind fun t102 => (some (decide (t102 ≥ 0)))
theorem slices_Contains_string_string.mono : ∀ a0 a1 k, LeO (slices_Contains_string_string.f k a0 a1) (slices_Contains_string_string.f (k + 1) a0 a1) := by
 intro a0 a1 k
 unfold slices_Contains_string_string.f
 repeat' first
  | (with_reducible exact slices_Index_string_string.mono _ _ _)
  | (with_reducible exact LeO.refl _)
  | (with_reducible exact LeO.none _)
  | (with_reducible refine LeO.ite ?_ ?_)
  | (with_reducible refine LeO.bind ?_ (fun _ => ?_))
  | exact slices_Index_string_string.mono _ _ _
  | exact LeO.none _
  | refine LeO.ite ?_ ?_
  | refine LeO.bind ?_ (fun _ => ?_)
set_option maxHeartbeats 8000000 in
set_option maxRecDepth 100000 in
theorem slices_Contains_string_string.calls (k : Nat) (A0 : Option Addr) (c0 : Nat) (l0 : List ByteArray) (a1 : ByteArray) (r : Bool) (w : World) (hr0 : Kd.C Kd.string w A0 l0.length l0) (hc0 : l0.length ≤ c0) (h : slices_Contains_string_string.f k l0 a1 = some r) :
 Calls Tryz.prog 119 #[.slice A0 l0.length c0, .string a1] w fun e w' => e = .returned (.bool r) ∧ Drawn0 w w' := by
 have HR0 := Aside0.mk hr0
 have HC0 := Aside0.mk hc0
 clear hr0 hc0
 have H : ((slices_Index_string_string.f k l0 a1).bind fun t102 => (some (decide (t102 ≥ 0)))) = some r := h
 clear h
 replace H := Option.bind_eq_some_iff.mp H
 obtain ⟨t102, A30, H⟩ := H
 replace H : (some (decide (t102 ≥ 0))) = some r := H
 have A3 := Aside0.mk A30
 clear A30
 obtain rfl := Option.some.inj H
 go_enter Tryz.func119, Tryz.ntmps119
 go_wp2_with (first | ((with_reducible refine gate_callee (f := 90) rfl ?_); refine goesL_ (some 7) rfl rfl Tryz.func90 (by kernel_rfl) rfl #[.slice A0 l0.length c0, .string a1] rfl (by (try simp only [List.map_toArray, List.map_cons, List.map_nil]); first | done | rfl | (simp only [List.length_drop, List.length_take]; rfl)) ?_; (with_reducible refine (slices_Index_string_string.calls k _ _ l0 a1 t102 _ ?side1 ?side2 A3.out).mono ?_); (case side1 => repeat (first | exact HR0.out | (with_reducible refine Kd.C_alloc ?_ _) | (with_reducible refine Kd.C_drewN ?_ _) | (with_reducible refine Kd.C_drew ?_))); (case side2 => exact HC0.out); rintro e w' ⟨rfl, ⟨nd, rfl⟩⟩; refine ⟨_, rfl, ?_⟩))
 go_ret
 exact ⟨by first | rfl | (simp; done) | (simp [*]; done), by repeat (first | exact Drawn0.refl _ | apply Drawn0.step)⟩
end Go.Proofs.YtamcicojockhpaaGreatDoor.PC
end
section
set_option linter.unusedVariables false
set_option linter.unusedSimpArgs false
namespace Go.Proofs.YtamcicojockhpaaGreatDoor.Tr
open Go.RowKit Go.Proofs.YtamcicojockhpaaGreatDoorW.PrintWords Go.Proofs.YtamcicojockhpaaGreatDoorW.PrintLast Go.Proofs.YtamcicojockhpaaGreatDoorW.PrintMore
open Go.Proofs.YtamcicojockhpaaGreatDoor.Lx Go.Proofs.YtamcicojockhpaaGreatDoor.PS
attribute [local go_sem high] fld0 fld1 fld2 fld3
theorem toList_data (a : ByteArray) : a.toList = a.data.toList := Lib.toList_data a
theorem idx_all (x : ByteArray) (nm : List ByteArray) (hl : nm.length ≤ 1000000) : ∀ (d j k : Nat), j + d = nm.length → d + 1 ≤ k → ∃ r : Int, PC.slices_Index_string_string.l0 k nm x (nm.length : Int) (j : Int) = some r ∧ (r ≥ 0 ↔ ∃ i, ∃ h : i < nm.length, j ≤ i ∧ nm[i].toList = x.toList)
 | 0, j, k, hj, hk => by
  obtain ⟨k, rfl⟩ : ∃ k', k = k' + 1 := ⟨k - 1, by omega⟩
  refine ⟨-1, ?_, ?_⟩
  · simp only [PC.slices_Index_string_string.l0]
    rw [if_neg (by omega)]
  · refine ⟨fun h => by omega, fun ⟨i, h, h1, _⟩ => by omega⟩
 | d + 1, j, k, hj, hk => by
  obtain ⟨k, rfl⟩ : ∃ k', k = k' + 1 := ⟨k - 1, by omega⟩
  have hlt : j < nm.length := by omega
  simp only [PC.slices_Index_string_string.l0]
  rw [if_pos (by omega), if_pos (by omega), if_pos (by omega)]
  have hrd : rdOf ByteArray.empty nm (j : Int) = nm[j] := by simp [rdOf, List.getD, List.getElem?_eq_getElem hlt]
  rw [hrd]
  by_cases he : x.toList = nm[j].toList
  · rw [if_pos he]
    exact ⟨j, rfl, fun _ => ⟨j, hlt, Nat.le_refl _, he.symm⟩, fun _ => by omega⟩
  · rw [if_neg he]
    obtain ⟨r, h1, h2⟩ := idx_all x nm hl d (j + 1) k (by omega) (by omega)
    have hw : wrap64 ((j : Int) + 1) = ((j + 1 : Nat) : Int) := by
     unfold wrap64
     omega
    rw [hw]
    refine ⟨r, h1, h2.trans ⟨fun ⟨i, h, h3, h4⟩ => ⟨i, h, by omega, h4⟩, fun ⟨i, h, h3, h4⟩ => ⟨i, h, ?_, h4⟩⟩⟩
    rcases Nat.lt_or_ge j i with h5 | h5
    · omega
    · obtain rfl : i = j := by omega
      exact absurd h4.symm he
theorem contains_all (t : List UInt8) (nm : List ByteArray) (hl : nm.length ≤ 1000000) : PC.slices_Contains_string_string.f (nm.length + 1) nm ⟨t.toArray⟩ = some (hasN t nm) := by
 obtain ⟨r, h1, h2⟩ := idx_all ⟨t.toArray⟩ nm hl nm.length 0 (nm.length + 1) (by omega) (by omega)
 unfold PC.slices_Contains_string_string.f PC.slices_Index_string_string.f
 rw [show ((0 : Nat) : Int) = 0 from rfl] at h1
 rw [h1]
 simp only [Option.bind_some, Option.some.injEq]
 rw [Bool.eq_iff_iff, decide_eq_true_iff, h2]
 unfold hasN
 rw [List.any_eq_true]
 constructor
 · rintro ⟨i, h, _, h4⟩
   refine ⟨nm[i], List.getElem_mem h, ?_⟩
   rw [toList_data, toList_data] at h4
   simpa using h4
 · rintro ⟨y, hy, h4⟩
   obtain ⟨i, h, rfl⟩ := List.getElem_of_mem hy
   refine ⟨i, h, Nat.zero_le _, ?_⟩
   rw [toList_data, toList_data]
   simpa using h4
def nmStep (ts : List Tk) (len f o p : Nat) (nm : List ByteArray) : Option PRes :=
 if (tokAt ts len p).kind ≠ 7 then some (.bad 20 (tokAt ts len p).pos)
 else if hasN (tokAt ts len p).text nm = true then some (.bad 3 (tokAt ts len p).pos)
 else if (tokAt ts len (p + 1)).kind ≠ 5 then some (.bad 20 (tokAt ts len (p + 1)).pos) else valP ts len f o (p + 2)
structure Lay (base g b bv bp : Nat) : Prop where
 lg : g < base
 lb : b < base
 lv : bv < base
 lp : bp < base
 nv : b ≠ bv
 np : b ≠ bp
 gv : g ≠ bv
 vp : bv ≠ bp
structure Mz (ts : List Tk) (len : Nat) (G : Obj) (base g b bv bp p o : Nat) (acc : List V) (nm : List ByteArray) (vl nl : Value) (w : World) : Prop where
 pz : Pz ts len G g b p o w
 hv : w.heap[bv]? = some (.cells #[.int .i64 6, .int .i64 0, .string ⟨#[]⟩, vl, nl] 51 (0, 0))
 hp : w.heap[bp]? = some (.cells #[.pointer (some ⟨b, 0, none⟩)] 90 (0, 0))
 rv : k51.R 51 w base (fun k => some k ≠ nl.ownBlock) vl acc
 rn : Kd.string.R 9 w base (fun _ => True) nl nm
 sz : base ≤ w.heap.size
theorem Mz.keep {ts : List Tk} {len : Nat} {G : Obj} {base g b bv bp p p' o : Nat} {acc : List V} {nm : List ByteArray} {vl nl : Value} {w w' : World} (h : Mz ts len G base g b bv bp p o acc nm vl nl w) (hL : Lay base g b bv bp) (hk : KeepR b w w') (hz : Pz ts len G g b p' o w') : Mz ts len G base g b bv bp p' o acc nm vl nl w' := by
 have hs := hk.2.1
 have := h.sz
 exact ⟨hz, (hk.2.2 bv (by have := hL.lv; omega) (fun e => hL.nv e.symm)).trans h.hv, (hk.2.2 bp (by have := hL.lp; omega) (fun e => hL.np e.symm)).trans h.hp, Kd.R_mono (Kd.R_step (Kd.R_bound h.rv) fun k hk1 hk2 => hk.2.2 k hk2 (by have := hk1.2.1; have := hL.lb; omega)) (fun _ hk => hk.1),
  Kd.R_mono (Kd.R_step (Kd.R_bound h.rn) fun k hk1 hk2 => hk.2.2 k hk2 (by have := hk1.2.1; have := hL.lb; omega)) (fun _ _ => trivial), by omega⟩
theorem Mz.below {ts : List Tk} {len : Nat} {G : Obj} {base g b bv bp p o : Nat} {acc : List V} {nm : List ByteArray} {vl nl : Value} {w w' : World} (h : Mz ts len G base g b bv bp p o acc nm vl nl w) (hL : Lay base g b bv bp) (hb : Below w.heap.size w w') : Mz ts len G base g b bv bp p o acc nm vl nl w' :=
 h.keep hL (KeepR.of_below hb (by have := hL.lb; have := h.sz; omega)) (h.pz.keep hb)
def NQ (ts : List Tk) (len : Nat) (G : Obj) (base g b bv bp o : Nat) (acc : List V) (nm : List ByteArray) (t : List UInt8) (r : PRes) (w : World) (e : Ending) (w' : World) : Prop := Kp base b bv w w' ∧ match r with
 | .ok v p1 => e = .returned (.tuple #[]) ∧ ∃ vl nl, Mz ts len G base g b bv bp p1 o (acc ++ [v]) (nm ++ [toB t]) vl nl w'
 | .bad c a => e = .panicked [{ v := wrongV c a, recovered := false }]
theorem infoStr : (Tryz.prog.info? 9).map (fun i => (i.zero, i.size, i.bytes)) = some (some (.string ⟨#[]⟩), 1, 16) := by kernel_rfl
theorem nam_mid {ts : List Tk} {len : Nat} {G : Obj} {base g b bv bp p o : Nat} {acc : List V} {nm : List ByteArray} {vl nl v1 : Value} {x : ByteArray} {inner : List Value} {ob : Obj} {w4 w5 : World}
 (hL : Lay base g b bv bp) (h4 : Mz ts len G base g b bv bp p o acc nm vl nl w4) (hlt : ∀ k, nl.ownBlock = some k → base ≤ k) (hw : w5.ownsRow base 9 1 v1 (nm.length + 1) (inner ++ [.string x])) (hg5 : (w4.alloc ob).grownBy w5 nl.ownBlock)
 (hat5 : v1.ownBlock = nl.ownBlock ∨ ∃ b', v1.ownBlock = some b' ∧ (w4.alloc ob).heap.size ≤ b') (hreps : Reps (Kd.string.M (w4.alloc ob) base fun k => True ∧ some k ≠ nl.ownBlock) 1 nm inner) :
 Mz ts len G base g b bv bp p o acc (nm ++ [x]) vl v1 (w5.setCell ⟨bv, 4, none⟩ v1) ∧ Kp base b bv w4 (w5.setCell ⟨bv, 4, none⟩ v1) := by
 have hba := (Below.refl w4.heap.size w4).alloc (Nat.le_refl _) ob
 have hs1 : w4.heap.size < (w4.alloc ob).heap.size := by simp
 have hs5 := hg5.size
 have hsz := h4.sz
 have hs0 : (w5.setCell ⟨bv, 4, none⟩ v1).heap.size = w5.heap.size := by simp [World.setCell]
 have far0 : ∀ k, k < w4.heap.size → some k ≠ nl.ownBlock → w5.heap[k]? = w4.heap[k]? := fun k h1 h2 => (hg5.block k (by omega) h2).trans (hba.block k h1)
 have farb : ∀ k, k < base → w5.heap[k]? = w4.heap[k]? := fun k h1 => far0 k (by omega) (fun e => by have := hlt k e.symm; omega)
 have hlv := hL.lv
 have hv5 := (farb bv hL.lv).trans h4.hv
 refine ⟨⟨h4.pz.move ((far_set _ _ _ _ _ hL.nv).trans (farb b hL.lb)) ((far_set _ _ _ _ _ hL.gv).trans (farb g hL.lg)), blk_put hv5 4 _ rfl, (far_set _ _ _ _ _ (fun e => hL.vp e.symm)).trans ((farb bp hL.lp).trans h4.hp), ?_, ?_, by rw [hs0]; omega⟩,
  ⟨hg5.os, hg5.tape, hg5.output, by rw [hs0]; omega, fun k h1 h2 h3 => (far_set _ _ _ _ _ h3).trans (farb k h1)⟩⟩
 · refine Kd.R_mono (Kd.R_step (Kd.R_bound h4.rv) fun k hk hk2 => (far_set _ _ _ _ _ (by have := hk.2.1; omega)).trans (far0 k hk2 hk.1)) fun k hk => ?_
   rcases hat5 with h | ⟨b', h, h'⟩
   · rw [h]
     exact hk.1
   · rw [h]
     intro e
     injection e with e
     have := hk.2.2.1
     omega
 · have hR := Kd.R_appended (d := Kd.string) (e := 9) (base := base) (ok := fun _ => True) (okp := fun _ => False) (p := x) (cs := [.string x]) (w1 := w5) (v := nl) (fun _ _ => trivial) hreps rfl (fun _ h => h.elim) (fun _ _ => trivial) hw hg5 hat5
   exact Kd.R_mono (Kd.R_step (Kd.R_bound hR) fun k hk _ => far_set _ _ _ _ _ (by have := hk.2.1; omega)) (fun _ _ => trivial)
theorem next_enters (args : Array Value) (w : World) : (callFunc 54 args).run Tryz.prog w = .ok (.enter 54 args) w := enters_ Tryz.func54 (by kernel_rfl) (by kernel_rfl) args w
set_option maxRecDepth 100000 in
set_option maxHeartbeats 2000000 in
theorem nam1_calls (ts : List Tk) (len : Nat) (G : Obj) (hG : RowG ts len G) (f : Nat) (IH : ValC ts len G f) (base g b bv bp o p : Nat) (r : PRes) (acc : List V) (nm : List ByteArray) (vl nl : Value) (w : World) (ho : o ≤ 8) (hr : nmStep ts len f o p nm = some r)
 (hl : ts.length ≤ 1000000) (hL : Lay base g b bv bp) (hM : Mz ts len G base g b bv bp p o acc nm vl nl w) (hacc : acc.length ≤ 1000000) (hnm : nm.length ≤ 1000000) :
 Calls Tryz.prog 118 #[.pointer (some ⟨bp, 0, none⟩), .pointer (some ⟨bv, 0, none⟩)] w (NQ ts len G base g b bv bp o acc nm (tokAt ts len p).text r w) := by
 obtain ⟨An, cn, rfl, hcn, hCn⟩ := Kd.R_reads hM.rn
 have HCN := Aside0.mk (And.intro hcn hCn)
 clear hcn hCn
 obtain ⟨Av, cv, rfl⟩ := Kd.R_slice hM.rv
 have HM := Aside0.mk hM
 have HL := Aside0.mk hL
 have HIH := Aside0.mk IH
 have HG := Aside0.mk hG
 have HR := Aside0.mk hr
 have cp0 : w.cell? ⟨bp, 0, none⟩ = some (.pointer (some ⟨b, 0, none⟩)) := blk_cell hM.hp 0
 clear hM hL IH hG hr
 go_enter Tryz.func118, Tryz.ntmps118
 go_wp2_with fail
 refine (peek_calls ts len G HG.out g b p o _ HM.out.pz).mono ?_
 rintro e w1 ⟨rfl, hb1⟩
 have HM1 := Aside0.mk (HM.out.below HL.out hb1)
 have HB1 := Aside0.mk hb1
 clear hb1 cp0
 have hbt := (Below.refl w1.heap.size w1).alloc (Nat.le_refl _) (.cells #[.int .i64 (tokAt ts len p).kind, .string ⟨(tokAt ts len p).text.toArray⟩, .int .i64 (tokAt ts len p).num, .int .i64 (tokAt ts len p).pos] 92)
 have HB2 := Aside0.mk (HB1.out.trans (hbt.mono HB1.out.size))
 have HM2 := Aside0.mk (HM1.out.below HL.out hbt)
 have cp0 := fun o => cellA (v := .pointer (some ⟨b, 0, none⟩)) (blk_cell HM1.out.hp 0) o
 have cv4 := fun o => cellA (v := .slice An nm.length cn) (blk_cell HM1.out.hv 4) o
 clear hbt
 unfold tkV
 have hn1 := Nat.ne_of_lt (show bp < w1.heap.size by have := HM1.out.sz; have := HL.out.lp; omega)
 have hn2 := Nat.ne_of_lt (show bv < w1.heap.size by have := HM1.out.sz; have := HL.out.lv; omega)
 by_cases hk : (tokAt ts len p).kind = 7
 · have hkb : (((tokAt ts len p).kind : Int) == 7) = true := by simp; omega
   have hkn := Aside0.mk hk
   clear hk
   generalize ht : tokAt ts len p = t at *
   have HT := Aside0.mk ht
   clear ht
   go_wp2_with fail
   generalize w1.alloc (.cells #[.int .i64 t.kind, .string ⟨t.text.toArray⟩, .int .i64 t.num, .int .i64 t.pos] 92) = W2 at *
   refine (PC.slices_Contains_string_string.calls (nm.length + 1) An cn nm ⟨t.text.toArray⟩ (hasN t.text nm) W2 (Kd.C_below HCN.out.2 HB2.out) HCN.out.1 (contains_all _ _ hnm)).mono ?_
   rintro e w3 ⟨rfl, hd3⟩
   obtain ⟨nq, rfl⟩ := hd3.out
   clear hd3
   have hdq : Below W2.heap.size W2 (W2.drewN nq) := ⟨rfl, rfl, rfl, Nat.le_refl _, fun _ _ => rfl⟩
   have HM3 := Aside0.mk (HM2.out.below HL.out hdq)
   have HB3 := Aside0.mk (HB2.out.trans (hdq.mono HB2.out.size))
   clear hdq HM2 HB2
   generalize W2.drewN nq = W3 at *
   have cp3 : W3.cell? ⟨bp, 0, none⟩ = some (.pointer (some ⟨b, 0, none⟩)) := blk_cell HM3.out.hp 0
   cases hh : hasN t.text nm with
   | true =>
    have HH := Aside0.mk hh
    clear hh
    go_wp2_with fail
    refine (refuse_calls ts len G HG.out g b p o 3 _ HM3.out.pz).mono ?_
    rintro e w4 ⟨rfl, hb4⟩
    refine ⟨rfl, ?_⟩
    have hr := HR.out
    unfold nmStep at hr
    rw [HT.out, if_neg (fun h => h hkn.out), if_pos HH.out] at hr
    injection hr with hr
    subst hr
    exact ⟨Kp.of_keep (KeepR.of_below (HB3.out.trans (hb4.mono HB3.out.size)) (by have := HL.out.lb; have := HM.out.sz; omega)) HM.out.sz, by rw [HT.out]⟩
   | false =>
    have HH := Aside0.mk hh
    clear hh
    go_wp2_with fail
    have hdr : Below W3.heap.size W3 W3.drew := ⟨rfl, rfl, rfl, Nat.le_refl _, fun _ _ => rfl⟩
    have hp : p < ts.length := by
     refine Nat.lt_of_not_le fun h => ?_
     have h1 := HT.out
     have h2 := hkn.out
     unfold tokAt at h1
     rw [List.getD_eq_getElem?_getD, List.getElem?_eq_none h] at h1
     rw [← h1] at h2
     cases h2
    refine start_ (n := 9) (S := fun w' => w'.cell? ⟨bv, 4, none⟩ = some (.slice An nm.length cn) ∧ w'.cell? ⟨bp, 0, none⟩ = some (.pointer (some ⟨b, 0, none⟩))) (ds := [6, 8]) #[fF, fF, fF, fF, fF, fF, fF, fF, fF] (by kernel_rfl) rfl rfl ⟨blk_cell (w := W3.drew) HM3.out.hv 4, blk_cell (w := W3.drew) HM3.out.hp 0⟩ (fun hHeld => ?_)
    refine pure_ (i := 0) (N := some 17) (v := ?_) (a' := ?_) #[tT, fF, fF, fF, fF, fF, fF, fF, fF] rfl rfl (by kernel_rfl) (fun _ _ _ h => h) (Or.inl ⟨by rfl, ?_⟩) ?_ ?_
    rotate_left
    · intro w'
      go_simp
      with_reducible rfl
    rotate_left
    · simp only [Act.put, sA, sZ, sS, i64_w, i32_w]
      rfl
    refine take_ (i := 1) (N := some 18) (v := ?_) (a' := ?_) #[tT, tT, fF, fF, fF, fF, fF, fF, fF] rfl rfl (by kernel_rfl) (fun _ _ _ h => h) (Or.inl ⟨by rfl, ?_⟩) hHeld ?_ ?_
    rotate_left
    · rintro w' ⟨e1, e2⟩
      go_simp
      with_reducible rfl
    rotate_left
    · simp only [Act.put, sA, sZ, sS, i64_w, i32_w]
      rfl
    refine take_ (i := 2) (N := some 19) (v := ?_) (a' := ?_) #[tT, tT, tT, fF, fF, fF, fF, fF, fF] rfl rfl (by kernel_rfl) (fun _ _ _ h => h) (Or.inl ⟨by rfl, ?_⟩) hHeld ?_ ?_
    rotate_left
    · rintro w' ⟨e1, e2⟩
      go_simp
      with_reducible rfl
    rotate_left
    · simp only [Act.put, sA, sZ, sS, i64_w, i32_w]
      rfl
    refine one_ (i := 3) (N := some 20) #[tT, tT, tT, tT, fF, fF, fF, fF, fF] rfl rfl (by kernel_rfl) (by decide) (fun K hK => ?_)
    refine call_ 54 #[.pointer (some ⟨b, 0, none⟩), .int .i64 7] (by rfl) rfl (by
     unfold execOp
     simp [resolve, Deferred.ofValue, invoke, Act.eval, next_enters]) ?_
    have hN := next_ok ts len G HG.out g b p o W3.drew (HM3.out.pz.keep hdr) hp hl
    rw [HT.out, hkn.out] at hN
    refine hN.mono ?_
    clear hN
    rintro e w4 ⟨rfl, hz4, hk4⟩
    refine ⟨_, rfl, ?_⟩
    have HM4 := Aside0.mk ((HM3.out.below HL.out hdr).keep HL.out hk4 hz4)
    have HK4 := Aside0.mk ((KeepR.of_below (HB3.out.trans (hdr.mono HB3.out.size)) (by have := HL.out.lb; have := HM.out.sz; omega)).trans hk4)
    clear hz4 hk4
    refine hK.out _ _ ⟨blk_cell HM4.out.hv 4, blk_cell HM4.out.hp 0⟩ (fun hHeld => ?_)
    clear hK K
    unfold tkV
    refine norm_ (a' := ?_) ?_ ?_
    rotate_left
    · show Act.put _ (some 20) _ = _
      simp only [Act.put, sA, sZ, sS, i64_w, i32_w]
      rfl
    refine pure_ (i := 4) (N := some 21) (v := ?_) (a' := ?_) #[tT, tT, tT, tT, tT, fF, fF, fF, fF] rfl rfl (by kernel_rfl) (fun _ _ _ h => h) (Or.inl ⟨by rfl, ?_⟩) ?_ ?_
    rotate_left
    · intro w'
      go_simp
      with_reducible rfl
    rotate_left
    · simp only [Act.put, sA, sZ, sS, i64_w, i32_w]
      rfl
    refine one_ (i := 5) (N := some 22) #[tT, tT, tT, tT, tT, tT, fF, fF, fF] rfl rfl (by kernel_rfl) (by decide) (fun K hK => ?_)
    rw [if_pos (by rfl)]
    unfold Oper.wp
    go_simp
    refine hK.out _ _ ⟨cellA hHeld.1 _, cellA hHeld.2 _⟩ fun hHeld => ?_
    clear hK K
    have hob := blk_new w4 (.cells #[.string ⟨t.text.toArray⟩] 9)
    have hzc : ∀ j u, [Value.string ⟨t.text.toArray⟩][j]? = some u → (w4.alloc (.cells #[.string ⟨t.text.toArray⟩] 9)).cell? ((⟨w4.heap.size, 0, none⟩ : Addr).add j) = some u := by
     intro j u hu
     rw [show (⟨w4.heap.size, 0, none⟩ : Addr).add j = ⟨w4.heap.size, j, none⟩ by unfold Addr.add; split <;> simp_all]
     exact (blk_cell hob j).trans (by simpa using hu)
    have hba := (Below.refl w4.heap.size w4).alloc (Nat.le_refl _) (.cells #[.string ⟨t.text.toArray⟩] 9)
    obtain ⟨_, inner, hown4, hreps⟩ := Kd.R_below HM4.out.rn hba
    refine last_ (i := 6) (N := some 23) #[tT, tT, tT, tT, tT, tT, tT, fF, fF] rfl rfl (by kernel_rfl) (by decide) (fun K hK => ?_)
    refine step_append_any base (by rfl) (.tmp 18) (.tmp 22) 49 9 (.string ⟨#[]⟩) 1 16 rfl Tryz.underlying49 infoStr rfl (by decide) (by decide) (.slice An nm.length cn) nm.length inner [.string ⟨t.text.toArray⟩] ⟨w4.heap.size, 0, none⟩ rfl rfl rfl hzc (by simp [Value.oneCell']) hown4 (by have := HM4.out.sz; simp; omega) (by omega) ?_
    intro v1 w5 hown5 hg5 hat5
    refine hK.out _ _ ?_
    clear hK K
    have hlt : ∀ k, (Value.slice An nm.length cn).ownBlock = some k → base ≤ k := fun k hk => own_base hown4 k hk
    obtain ⟨HM6, HK6⟩ := nam_mid HL.out HM4.out hlt hown5 hg5 hat5 hreps
    have HM6 := Aside0.mk HM6
    have HK6 := Aside0.mk (Kp.trans (Kp.of_keep HK4.out HM.out.sz) HK6)
    obtain ⟨A1, c1, rfl⟩ := own_slice hown5
    have bv4 : w5.cell? ⟨bv, 4, none⟩ = some (.slice An nm.length cn) := by
     have h1 := hg5.block bv (by have := HM4.out.sz; have := HL.out.lv; simp; omega) (fun e => by have := hlt bv e.symm; have := HL.out.lv; omega)
     exact blk_cell (h1.trans ((hba.block bv (by have := HM4.out.sz; have := HL.out.lv; omega)).trans HM4.out.hv)) 4
    have bvf : ∀ j, w5.frozen? ⟨bv, j, none⟩ = false := by
     have h1 := hg5.block bv (by have := HM4.out.sz; have := HL.out.lv; simp; omega) (fun e => by have := hlt bv e.symm; have := HL.out.lv; omega)
     exact blk_frozen (h1.trans ((hba.block bv (by have := HM4.out.sz; have := HL.out.lv; omega)).trans HM4.out.hv))
    clear hown5 hg5 hat5 hreps hown4 hba hzc hob HM4 HK4
    refine norm_ (a' := ?_) ?_ ?_
    rotate_left
    · show Act.put _ (some 23) _ = _
      simp only [Act.put, sA, sZ, sS, i64_w, i32_w]
      rfl
    refine pure_ (i := 7) (N := some 24) (v := ?_) (a' := ?_) #[tT, tT, tT, tT, tT, tT, tT, tT, fF] rfl rfl (by kernel_rfl) (fun _ _ _ h => h) (Or.inl ⟨by rfl, ?_⟩) ?_ ?_
    rotate_left
    · intro w'
      go_simp
      with_reducible rfl
    rotate_left
    · simp only [Act.put, sA, sZ, sS, i64_w, i32_w]
      rfl
    refine last_ (i := 8) (N := none) #[tT, tT, tT, tT, tT, tT, tT, tT, tT] rfl rfl (by kernel_rfl) (by decide) (fun K hK => ?_)
    rw [if_pos (by rfl)]
    unfold Oper.wp
    go_simp
    refine hK.out _ _ ?_
    clear hK K
    refine done_ (by kernel_rfl) ?_
    generalize w5.setCell ⟨bv, 4, none⟩ (.slice A1 (nm.length + 1) c1) = W6 at *
    clear bv4 bvf
    have cp6 : W6.cell? ⟨bp, 0, none⟩ = some (.pointer (some ⟨b, 0, none⟩)) := blk_cell HM6.out.hp 0
    by_cases hk5 : (tokAt ts len (p + 1)).kind = 5
    · have hk5' := Aside0.mk hk5
      clear hk5
      have hp1 : p + 1 < ts.length := by
       refine Nat.lt_of_not_le fun h => ?_
       have h2 := hk5'.out
       unfold tokAt at h2
       rw [List.getD_eq_getElem?_getD, List.getElem?_eq_none h] at h2
       cases h2
      go_wp2_with fail
      have hN := next_ok ts len G HG.out g b (p + 1) o W6 HM6.out.pz hp1 hl
      rw [hk5'.out] at hN
      refine hN.mono ?_
      clear hN
      rintro e W7 ⟨rfl, hz7, hk7⟩
      have HM7 := Aside0.mk (HM6.out.keep HL.out hk7 hz7)
      have HK7 := Aside0.mk (Kp.trans HK6.out (Kp.of_keep hk7 HM6.out.sz))
      clear hz7 hk7
      have cp7 : W7.cell? ⟨bp, 0, none⟩ = some (.pointer (some ⟨b, 0, none⟩)) := blk_cell HM7.out.hp 0
      go_wp2_with fail
      clear cp3 cp0 cv4 hdr hHeld hn1 hn2 cp6 cp7
      have cv3 : W7.drew.cell? ⟨bv, 3, none⟩ = some (.slice Av acc.length cv) := blk_cell (w := W7.drew) HM7.out.hv 3
      have cp0 : W7.drew.cell? ⟨bp, 0, none⟩ = some (.pointer (some ⟨b, 0, none⟩)) := blk_cell (w := W7.drew) HM7.out.hp 0
      have hdr : Below W7.heap.size W7 W7.drew := ⟨rfl, rfl, rfl, Nat.le_refl _, fun _ _ => rfl⟩
      have hzd := HM7.out.pz.keep hdr
      have HV := Aside0.mk HM7.out.hv
      have HP := Aside0.mk HM7.out.hp
      have HRR := Aside0.mk HM7.out.rv
      have hbase := HM7.out.sz
      obtain ⟨hgb, hbb, hbvb, hbpb, hnv, hnp, hgv, hvp⟩ := HL.out
      have hr : valP ts len f o (p + 2) = some r := by
       have hr := HR.out
       unfold nmStep at hr
       rw [HT.out, if_neg (fun h => h hkn.out), if_neg (by rw [HH.out]; exact Bool.false_ne_true), if_neg (fun h => h hk5'.out)] at hr
       exact hr
      cases r with
      | bad c a =>
       refine start_ (n := 11) (S := fun w' => w'.cell? ⟨bv, 3, none⟩ = some (.slice Av acc.length cv) ∧ w'.cell? ⟨bp, 0, none⟩ = some (.pointer (some ⟨b, 0, none⟩))) (ds := [6, 8, 10]) #[fF, fF, fF, fF, fF, fF, fF, fF, fF, fF, fF] (by kernel_rfl) rfl rfl ⟨cv3, cp0⟩ (fun hHeld => ?_)
       refine pure_ (i := 0) (N := some 27) (v := ?_) (a' := ?_) #[tT, fF, fF, fF, fF, fF, fF, fF, fF, fF, fF] rfl rfl (by kernel_rfl) (fun _ _ _ h => h) (Or.inl ⟨by rfl, ?_⟩) ?_ ?_
       rotate_left
       · intro w'
         go_simp
         with_reducible rfl
       rotate_left
       · simp only [Act.put, sA, sZ, sS, i64_w, i32_w]
         rfl
       refine take_ (i := 1) (N := some 28) (v := ?_) (a' := ?_) #[tT, tT, fF, fF, fF, fF, fF, fF, fF, fF, fF] rfl rfl (by kernel_rfl) (fun _ _ _ h => h) (Or.inl ⟨by rfl, ?_⟩) hHeld ?_ ?_
       rotate_left
       · rintro w' ⟨e1, e2⟩
         go_simp
         with_reducible rfl
       rotate_left
       · simp only [Act.put, sA, sZ, sS, i64_w, i32_w]
         rfl
       refine take_ (i := 2) (N := some 29) (v := ?_) (a' := ?_) #[tT, tT, tT, fF, fF, fF, fF, fF, fF, fF, fF] rfl rfl (by kernel_rfl) (fun _ _ _ h => h) (Or.inl ⟨by rfl, ?_⟩) hHeld ?_ ?_
       rotate_left
       · rintro w' ⟨e1, e2⟩
         go_simp
         with_reducible rfl
       rotate_left
       · simp only [Act.put, sA, sZ, sS, i64_w, i32_w]
         rfl
       refine pure_ (i := 4) (N := some 31) (v := ?_) (a' := ?_) #[tT, tT, tT, fF, tT, fF, fF, fF, fF, fF, fF] rfl rfl (by kernel_rfl) (fun _ _ _ h => h) (Or.inl ⟨by rfl, ?_⟩) ?_ ?_
       rotate_left
       · intro w'
         go_simp
         with_reducible rfl
       rotate_left
       · simp only [Act.put, sA, sZ, sS, i64_w, i32_w]
         rfl
       refine two_ (i := 3) (j := 5) (Ni := some 30) (Nj := some 32) #[tT, tT, tT, tT, tT, fF, fF, fF, fF, fF, fF] #[tT, tT, tT, fF, tT, tT, fF, fF, fF, fF, fF] rfl rfl rfl rfl (by kernel_rfl) (by decide) (by decide) (fun K hK => ?_) (fun K hK => ?_)
       · refine call_dies_ 53 #[.pointer (some ⟨b, 0, none⟩)] (by rfl) rfl (by
          unfold execOp
          simp [resolve, Deferred.ofValue, invoke, Act.eval, value_enters]) ?_
         refine (HIH.out g b o (p + 2) _ _ ho hr hzd).mono ?_
         rintro e w4 ⟨hk4, he⟩
         exact ⟨_, he, rfl, Kp.trans HK7.out (Kp.of_keep ⟨(hdr.mono (by omega)).trans hk4.1, hk4.2.1, hk4.2.2⟩ hbase), rfl⟩
       · rw [if_pos (by rfl)]
         unfold Oper.wp
         go_simp
         have hb5 := (Below.refl W7.heap.size W7.drew).alloc (Nat.le_refl _) (.cells zCs.toArray 51)
         refine hK.out _ _ ⟨cellA cv3 _, cellA cp0 _⟩ fun hHeld => ?_
         clear hK K
         refine one_ (i := 3) (N := some 30) #[tT, tT, tT, tT, tT, tT, fF, fF, fF, fF, fF] rfl rfl (by kernel_rfl) (by decide) (fun K hK => ?_)
         refine call_dies_ 53 #[.pointer (some ⟨b, 0, none⟩)] (by rfl) rfl (by
          unfold execOp
          simp [resolve, Deferred.ofValue, invoke, Act.eval, value_enters]) ?_
         refine (HIH.out g b o (p + 2) _ _ ho hr (hzd.keep hb5)).mono ?_
         rintro e w4 ⟨hk4, he⟩
         have hk0 : KeepR b W7 (W7.drew.alloc (.cells zCs.toArray 51)) := KeepR.of_below (hdr.trans hb5) (by omega)
         exact ⟨_, he, rfl, Kp.trans HK7.out (Kp.of_keep (hk0.trans hk4) hbase), rfl⟩
      | ok v p1 =>
       have hRR0 := HM7.out.rv.1
       have hfr : ∀ k, W7.heap.size ≤ k → some k ≠ (Value.slice A1 (nm.length + 1) c1).ownBlock := fun k hk e => by
        obtain ⟨_, _, ho', _⟩ := HM7.out.rn
        have := own_lt ho' k e.symm
        omega
       have FIN : ∀ (wf : World) (vl' : Value) (w4 : World), KeepR b W7 w4 → Kp base b bv W7 wf → Pz ts len G g b p1 o wf → wf.heap[bv]? = some (.cells #[.int .i64 6, .int .i64 0, .string ⟨#[]⟩, vl', .slice A1 (nm.length + 1) c1] 51 (0, 0)) →
        k51.R 51 wf base (fun k => some k ≠ (Value.slice A1 (nm.length + 1) c1).ownBlock) vl' (acc ++ [v]) → (∀ k, k < w4.heap.size → some k ≠ (Value.slice Av acc.length cv).ownBlock → k ≠ bv → wf.heap[k]? = w4.heap[k]?) →
        NQ ts len G base g b bv bp o acc nm t.text (.ok v p1) w (.returned (.tuple #[])) wf := by
        intro wf vl' w4 hk4 h1 h2 h3 h4 h5
        have hs4 := hk4.2.1
        refine ⟨Kp.trans HK7.out h1, rfl, vl', _, h2, h3, (h1.2.2.2.2 bp hbpb (fun e => hnp e.symm) (fun e => hvp e.symm)).trans HP.out, h4, ?_, by have := h1.2.2.2.1; omega⟩
        have hrn := Kd.R_bound HM7.out.rn
        refine Kd.R_mono (Kd.R_step hrn fun k hk hk2 => ?_) (fun _ _ => trivial)
        refine (h5 k (by omega) (fun e => ?_) (by have := hk.2.1; omega)).trans (hk4.2.2 k hk2 (by have := hk.2.1; omega))
        obtain ⟨_, _, ho', _⟩ := HM7.out.rv
        obtain ⟨cs, hcs⟩ := own_typed ho' k e.symm
        obtain ⟨_, _, _, q, hq, cs', hcs'⟩ := hk
        rw [hcs] at hcs'
        simp only [Kd.string, Kd.scalar, List.mem_cons, List.not_mem_nil, or_false] at hq
        subst hq
        cases hcs'
       refine start_ (n := 11) (S := fun w' => w'.cell? ⟨bv, 3, none⟩ = some (.slice Av acc.length cv) ∧ w'.cell? ⟨bp, 0, none⟩ = some (.pointer (some ⟨b, 0, none⟩))) (ds := [6, 8, 10]) #[fF, fF, fF, fF, fF, fF, fF, fF, fF, fF, fF] (by kernel_rfl) rfl rfl ⟨cv3, cp0⟩ (fun hHeld => ?_)
       refine pure_ (i := 0) (N := some 27) (v := ?_) (a' := ?_) #[tT, fF, fF, fF, fF, fF, fF, fF, fF, fF, fF] rfl rfl (by kernel_rfl) (fun _ _ _ h => h) (Or.inl ⟨by rfl, ?_⟩) ?_ ?_
       rotate_left
       · intro w'
         go_simp
         with_reducible rfl
       rotate_left
       · simp only [Act.put, sA, sZ, sS, i64_w, i32_w]
         rfl
       refine take_ (i := 1) (N := some 28) (v := ?_) (a' := ?_) #[tT, tT, fF, fF, fF, fF, fF, fF, fF, fF, fF] rfl rfl (by kernel_rfl) (fun _ _ _ h => h) (Or.inl ⟨by rfl, ?_⟩) hHeld ?_ ?_
       rotate_left
       · rintro w' ⟨e1, e2⟩
         go_simp
         with_reducible rfl
       rotate_left
       · simp only [Act.put, sA, sZ, sS, i64_w, i32_w]
         rfl
       refine take_ (i := 2) (N := some 29) (v := ?_) (a' := ?_) #[tT, tT, tT, fF, fF, fF, fF, fF, fF, fF, fF] rfl rfl (by kernel_rfl) (fun _ _ _ h => h) (Or.inl ⟨by rfl, ?_⟩) hHeld ?_ ?_
       rotate_left
       · rintro w' ⟨e1, e2⟩
         go_simp
         with_reducible rfl
       rotate_left
       · simp only [Act.put, sA, sZ, sS, i64_w, i32_w]
         rfl
       refine pure_ (i := 4) (N := some 31) (v := ?_) (a' := ?_) #[tT, tT, tT, fF, tT, fF, fF, fF, fF, fF, fF] rfl rfl (by kernel_rfl) (fun _ _ _ h => h) (Or.inl ⟨by rfl, ?_⟩) ?_ ?_
       rotate_left
       · intro w'
         go_simp
         with_reducible rfl
       rotate_left
       · simp only [Act.put, sA, sZ, sS, i64_w, i32_w]
         rfl
       refine join_ (fuel' := 5) (l' := #[tT, tT, tT, tT, tT, tT, fF, fF, fF, fF, fF]) (ns := fun s : Value × Value × Nat => [(30, .agg #[.int .i64 v.f0, .int .i64 v.f1, .string v.f2, s.1, s.2.1]), (32, .slice (some ⟨s.2.2, 0, none⟩) 1 1)])
        (F := fun s w4 => KeepR b W7 w4 ∧ Pz ts len G g b p1 o w4 ∧ k51.R 51 w4 W7.heap.size (fun _ => True) s.1 v.f3 ∧ Kd.string.R 9 w4 W7.heap.size (fun _ => True) s.2.1 v.f4 ∧ w4.heap[s.2.2]? = some (.cells zCs.toArray 51 (0, 0))) ?_ ?_
       · rintro ⟨v3, v4, zb⟩ w4 ⟨hk4, hz4, hR3, hR4, hzb⟩
         have hzb0 := hzb
         have hzc : ∀ j u, zCs[j]? = some u → w4.cell? ((⟨zb, 0, none⟩ : Addr).add j) = some u := by
          intro j u hu
          rw [show (⟨zb, 0, none⟩ : Addr).add j = ⟨zb, j, none⟩ by unfold Addr.add; split <;> simp_all]
          exact (blk_cell hzb0 j).trans (by simpa using hu)
         have hRv := Kd.R_mono (Kd.R_step (Kd.R_bound HRR.out) (w1 := w4) fun k hk hk2 => hk4.2.2 k hk2 (by have := hk.2.1; omega)) (ok' := fun k => some k ≠ (Value.slice A1 (nm.length + 1) c1).ownBlock) (fun _ hk => hk.1)
         have hzb' : w4.heap[zb]? = some (.cells zCs.toArray 51 (0, 0)) := hzb
         have hR3' : k51.R 51 w4 W7.heap.size (fun _ => True) v3 v.f3 := hR3
         have hR4' : Kd.string.R 9 w4 W7.heap.size (fun _ => True) v4 v.f4 := hR4
         clear hzb hR3 hR4
         have hsz4 := hk4.2.1
         refine norm_ (a' := ?_) ?_ ?_
         rotate_left
         · simp only [putAll, Act.put, sA, sZ, sS, i64_w, i32_w]
           rfl
         have hRvb := hRv
         obtain ⟨_, inner, hown4, hreps⟩ := hRvb
         refine last_ (i := 6) (N := some 33) #[tT, tT, tT, tT, tT, tT, tT, fF, fF, fF, fF] rfl rfl (by kernel_rfl) (by decide) (fun K hK => ?_)
         refine step_append_any base (by rfl) (.tmp 28) (.tmp 32) 48 51 (.agg #[.int .i64 0, .int .i64 0, .string ⟨#[]⟩, .slice none 0 0, .slice none 0 0]) 5 80 rfl Tryz.underlying48 infoVal rfl (by decide) (by decide) (.slice Av acc.length cv) acc.length inner zCs ⟨zb, 0, none⟩ rfl rfl rfl hzc (by unfold zCs; simp [Value.oneCell']) hown4 (by omega) (by omega) ?_
         intro v1 w5 hown5 hg5 hat5
         refine hK.out _ _ ?_
         clear hK K
         obtain ⟨g5, c5, rfl, hg5b⟩ : ∃ g5 c5, v1 = .slice (some ⟨g5, 0, none⟩) (acc.length + 1) c5 ∧ base ≤ g5 := by
          rcases hown5.2 with ⟨_, h⟩ | ⟨g', cap, cur, h, h', _⟩
          · omega
          · exact ⟨g', cap, h, h'⟩
         refine norm_ (a' := ?_) ?_ ?_
         rotate_left
         · show Act.put _ (some 33) _ = _
           simp only [Act.put, sA, sZ, sS, i64_w, i32_w]
           rfl
         obtain ⟨A3, c3, rfl⟩ := Kd.R_slice hR3'
         obtain ⟨A4, c4, rfl⟩ := Kd.R_slice hR4'
         have hlt : acc.length < acc.length + 1 := Nat.lt_succ_self _
         have hlt' : (acc.length : Int) < (acc.length : Int) + 1 := by omega
         refine pure_ (i := 7) (N := some 34) (v := ?_) (a' := ?_) #[tT, tT, tT, tT, tT, tT, tT, tT, fF, fF, fF] rfl rfl (by kernel_rfl) (fun _ _ _ h => h) (Or.inl ⟨by rfl, ?_⟩) ?_ ?_
         rotate_left
         · intro w'
           go_simp
           with_reducible rfl
         rotate_left
         · simp only [Act.put, sA, sZ, sS, i64_w, i32_w]
           rfl
         refine pure_ (i := 9) (N := some 35) (v := ?_) (a' := ?_) #[tT, tT, tT, tT, tT, tT, tT, tT, fF, tT, fF] rfl rfl (by kernel_rfl) (fun _ _ _ h => h) (Or.inl ⟨by rfl, ?_⟩) ?_ ?_
         rotate_left
         · intro w'
           go_simp
           with_reducible rfl
         rotate_left
         · simp only [Act.put, sA, sZ, sS, i64_w, i32_w]
           rfl
         obtain ⟨hgc5, hfz5⟩ : (∀ j u, (inner ++ zCs)[j]? = some u → w5.cell? ⟨g5, j, none⟩ = some u) ∧ (∀ j, w5.frozen? ⟨g5, j, none⟩ = false) := by
          rcases hown5.2 with ⟨h, _⟩ | ⟨g', cap, cur, h, h', hh, r1, r2, r3, r4⟩
          · cases h
          · injection h with e1 e2 e3
            injection e1 with e1
            injection e1 with e1
            subst e1
            refine ⟨fun j u hu => (blk_cell hh j).trans ?_, blk_frozen hh⟩
            rw [← r4, List.getElem?_take] at hu
            split at hu
            · simpa using hu
            · cases hu
         have hil : inner.length = acc.length * 5 := hown4.1
         have z0 : w5.cell? ⟨g5, acc.length * 5, none⟩ = some (.int .i64 0) := hgc5 _ _ (by rw [← hil, List.getElem?_append_right (by omega)]; simp [zCs])
         have z1 : w5.cell? ⟨g5, acc.length * 5 + 1, none⟩ = some (.int .i64 0) := hgc5 _ _ (by rw [← hil, List.getElem?_append_right (by omega)]; simp [zCs])
         have z2 : w5.cell? ⟨g5, acc.length * 5 + 2, none⟩ = some (.string ⟨#[]⟩) := hgc5 _ _ (by rw [← hil, List.getElem?_append_right (by omega)]; simp [zCs])
         have z3 : w5.cell? ⟨g5, acc.length * 5 + 3, none⟩ = some (.slice none 0 0) := hgc5 _ _ (by rw [← hil, List.getElem?_append_right (by omega)]; simp [zCs])
         have z4 : w5.cell? ⟨g5, acc.length * 5 + 4, none⟩ = some (.slice none 0 0) := hgc5 _ _ (by rw [← hil, List.getElem?_append_right (by omega)]; simp [zCs])
         have hbv5 : w5.heap[bv]? = _ := (hg5.block bv (by omega) (fun e => by have := own_base hown4 bv e.symm; omega)).trans ((hk4.2.2 bv (by omega) (by omega)).trans HV.out)
         have bv3 : w5.cell? ⟨bv, 3, none⟩ = some (.slice Av acc.length cv) := blk_cell hbv5 3
         have bvf : ∀ j, w5.frozen? ⟨bv, j, none⟩ = false := blk_frozen hbv5
         have hgbv : g5 ≠ bv := by omega
         have hgbv' : bv ≠ g5 := by omega
         refine two_last_ (i := 8) (j := 10) (Ni := none) (Nj := none) #[tT, tT, tT, tT, tT, tT, tT, tT, tT, tT, fF] #[tT, tT, tT, tT, tT, tT, tT, tT, fF, tT, tT] rfl rfl rfl rfl (by kernel_rfl) (by decide) (by decide) (fun K hK => ?_) (fun K hK => ?_)
         · rw [if_pos (by rfl)]
           unfold Oper.wp
           go_simp
           refine hK.out _ _ ?_
           clear hK K
           refine last_ (i := 10) (N := none) #[tT, tT, tT, tT, tT, tT, tT, tT, tT, tT, tT] rfl rfl (by kernel_rfl) (by decide) (fun K hK => ?_)
           rw [if_pos (by rfl)]
           unfold Oper.wp
           go_simp
           refine hK.out _ _ ?_
           clear hK K
           refine done_ (by kernel_rfl) ?_
           refine bodyPost_end (results_none rfl _ _ _) rfl ?_
           have hpf : (put5 w5 g5 (acc.length * 5) (.int .i64 v.f0) (.int .i64 v.f1) (.string v.f2) (.slice A3 v.f3.length c3) (.slice A4 v.f4.length c4)).heap[bv]? = _ := (put5_far hgbv' _ _ _ _ _).trans hbv5
           obtain ⟨h1, h2, h3, h4⟩ := arr_fin (ok := fun k => some k ≠ (Value.slice A1 (nm.length + 1) c1).ownBlock) (h0 := hRR0) (hfresh := hfr) (wf := (put5 w5 g5 (acc.length * 5) (.int .i64 v.f0) (.int .i64 v.f1) (.string v.f2) (.slice A3 v.f3.length c3) (.slice A4 v.f4.length c4)).setCell ⟨bv, 3, none⟩ (.slice (some ⟨g5, 0, none⟩) (acc.length + 1) c5)) hbase hgb hbb hnv hgv hbvb (fun k hk => by
            obtain ⟨_, hi, ho', _⟩ := HRR.out
            exact ⟨own_base ho' k hk, own_lt ho' k hk⟩) hk4 hz4 hR3' hR4' hreps hil hown5 hg5 hg5b hat5 ((put5_same _ _ _ _ _ _ _ _).setCell (p := ⟨bv, 3, none⟩) (Nat.zero_le _) _) (fun k hk => far_set _ _ _ _ _ hk)
           exact FIN _ _ _ hk4 h1 h2 (blk_put hpf 3 _ rfl) h3 h4
         · rw [if_pos (by rfl)]
           unfold Oper.wp
           go_simp
           refine hK.out _ _ ?_
           clear hK K
           refine last_ (i := 8) (N := none) #[tT, tT, tT, tT, tT, tT, tT, tT, tT, tT, tT] rfl rfl (by kernel_rfl) (by decide) (fun K hK => ?_)
           rw [if_pos (by rfl)]
           unfold Oper.wp
           go_simp
           refine hK.out _ _ ?_
           clear hK K
           refine done_ (by kernel_rfl) ?_
           refine bodyPost_end (results_none rfl _ _ _) rfl ?_
           obtain ⟨h1, h2, h3, h4⟩ := arr_fin (ok := fun k => some k ≠ (Value.slice A1 (nm.length + 1) c1).ownBlock) (h0 := hRR0) (hfresh := hfr) (wf := put5 (w5.setCell ⟨bv, 3, none⟩ (.slice (some ⟨g5, 0, none⟩) (acc.length + 1) c5)) g5 (acc.length * 5) (.int .i64 v.f0) (.int .i64 v.f1) (.string v.f2) (.slice A3 v.f3.length c3) (.slice A4 v.f4.length c4)) hbase hgb hbb hnv hgv hbvb (fun k hk => by
            obtain ⟨_, hi, ho', _⟩ := HRR.out
            exact ⟨own_base ho' k hk, own_lt ho' k hk⟩) hk4 hz4 hR3' hR4' hreps hil hown5 hg5 hg5b hat5 (((Below.refl 0 w5).setCell (p := ⟨bv, 3, none⟩) (Nat.zero_le _) _).trans (put5_same _ _ _ _ _ _ _ _)) (fun k hk => put5_comm hk _ _ _ _ _)
           exact FIN _ _ _ hk4 h1 h2 ((put5_far hgbv' _ _ _ _ _).trans (blk_put hbv5 3 _ rfl)) h3 h4
       · intro tail
         refine two_ (i := 3) (j := 5) (Ni := some 30) (Nj := some 32) #[tT, tT, tT, tT, tT, fF, fF, fF, fF, fF, fF] #[tT, tT, tT, fF, tT, tT, fF, fF, fF, fF, fF] rfl rfl rfl rfl (by kernel_rfl) (by decide) (by decide) (fun K hK => ?_) (fun K hK => ?_)
         · refine call_ 53 #[.pointer (some ⟨b, 0, none⟩)] (by rfl) rfl (by
            unfold execOp
            simp [resolve, Deferred.ofValue, invoke, Act.eval, value_enters]) ?_
           refine (HIH.out g b o (p + 2) _ _ ho hr hzd).mono ?_
           rintro e w4 ⟨hk4, ⟨v3, v4, he, hR3, hR4⟩, hz4⟩
           refine ⟨_, he, ?_⟩
           have hk4' : KeepR b W7 w4 := ⟨(hdr.mono (by omega)).trans hk4.1, hk4.2.1, hk4.2.2⟩
           refine hK.out _ _ ⟨blk_cell ((hk4'.2.2 bv (by omega) (by omega)).trans HV.out) 3, blk_cell ((hk4'.2.2 bp (by omega) (by omega)).trans HP.out) 0⟩ (fun hHeld => ?_)
           clear hK K
           refine norm_ (a' := ?_) ?_ ?_
           rotate_left
           · show Act.put _ (some 30) _ = _
             simp only [Act.put, sA, sZ, sS, i64_w, i32_w]
             rfl
           refine one_ (i := 5) (N := some 32) #[tT, tT, tT, tT, tT, tT, fF, fF, fF, fF, fF] rfl rfl (by kernel_rfl) (by decide) (fun K hK => ?_)
           rw [if_pos (by rfl)]
           unfold Oper.wp
           go_simp
           have hb5 := (Below.refl w4.heap.size w4).alloc (Nat.le_refl _) (.cells zCs.toArray 51)
           refine hK.out _ _ ⟨cellA hHeld.1 _, cellA hHeld.2 _⟩ fun hHeld => ?_
           clear hK K
           exact tail (v3, v4, w4.heap.size) _ ⟨hk4'.alloc (by omega) _, hz4.keep hb5, Kd.R_below hR3 hb5, Kd.R_below hR4 hb5, blk_new w4 _⟩
         · rw [if_pos (by rfl)]
           unfold Oper.wp
           go_simp
           have hb5 := (Below.refl W7.heap.size W7.drew).alloc (Nat.le_refl _) (.cells zCs.toArray 51)
           refine hK.out _ _ ⟨cellA cv3 _, cellA cp0 _⟩ fun hHeld => ?_
           clear hK K
           refine one_ (i := 3) (N := some 30) #[tT, tT, tT, tT, tT, tT, fF, fF, fF, fF, fF] rfl rfl (by kernel_rfl) (by decide) (fun K hK => ?_)
           refine call_ 53 #[.pointer (some ⟨b, 0, none⟩)] (by rfl) rfl (by
            unfold execOp
            simp [resolve, Deferred.ofValue, invoke, Act.eval, value_enters]) ?_
           refine (HIH.out g b o (p + 2) _ _ ho hr (hzd.keep hb5)).mono ?_
           rintro e w4 ⟨hk4, ⟨v3, v4, he, hR3, hR4⟩, hz4⟩
           refine ⟨_, he, ?_⟩
           have hk0 : KeepR b W7 (W7.drew.alloc (.cells zCs.toArray 51)) := KeepR.of_below (hdr.trans hb5) (by omega)
           have hk4' : KeepR b W7 w4 := hk0.trans hk4
           refine hK.out _ _ ⟨blk_cell ((hk4'.2.2 bv (by omega) (by omega)).trans HV.out) 3, blk_cell ((hk4'.2.2 bp (by omega) (by omega)).trans HP.out) 0⟩ (fun hHeld => ?_)
           clear hK K
           exact tail (v3, v4, W7.heap.size) _ ⟨hk4', hz4, Kd.R_lower hR3 hk0.2.1, Kd.R_lower hR4 hk0.2.1, (hk4.2.2 W7.heap.size (by simp) (by omega)).trans (blk_new W7.drew _)⟩
    · have hk5' := Aside0.mk hk5
      clear hk5
      go_wp2_with fail
      refine (next_bad ts len G HG.out g b (p + 1) o 5 _ HM6.out.pz hk5'.out).mono ?_
      rintro e w7 ⟨rfl, hb7⟩
      refine ⟨rfl, ?_⟩
      have hr := HR.out
      unfold nmStep at hr
      rw [HT.out, if_neg (fun h => h hkn.out), if_neg (by rw [HH.out]; exact Bool.false_ne_true), if_pos hk5'.out] at hr
      injection hr with hr
      subst hr
      exact ⟨Kp.trans HK6.out (Kp.of_keep (KeepR.of_below hb7 (by have := HL.out.lb; have := HM6.out.sz; omega)) HM6.out.sz), rfl⟩
 · have hkb : (((tokAt ts len p).kind : Int) == 7) = false := by simp; omega
   have hkn := Aside0.mk hk
   clear hk
   generalize ht : tokAt ts len p = t at *
   have HT := Aside0.mk ht
   clear ht
   go_wp2_with fail
   generalize w1.alloc (.cells #[.int .i64 t.kind, .string ⟨t.text.toArray⟩, .int .i64 t.num, .int .i64 t.pos] 92) = W2 at *
   have hdr : Below W2.heap.size W2 W2.drew := ⟨rfl, rfl, rfl, Nat.le_refl _, fun _ _ => rfl⟩
   refine start_ (n := 9) (S := fun w' => w'.cell? ⟨bv, 4, none⟩ = some (.slice An nm.length cn) ∧ w'.cell? ⟨bp, 0, none⟩ = some (.pointer (some ⟨b, 0, none⟩))) (ds := [6, 8]) #[fF, fF, fF, fF, fF, fF, fF, fF, fF] (by kernel_rfl) rfl rfl ⟨blk_cell (w := W2.drew) HM2.out.hv 4, blk_cell (w := W2.drew) HM2.out.hp 0⟩ (fun hHeld => ?_)
   refine pure_ (i := 0) (N := some 17) (v := ?_) (a' := ?_) #[tT, fF, fF, fF, fF, fF, fF, fF, fF] rfl rfl (by kernel_rfl) (fun _ _ _ h => h) (Or.inl ⟨by rfl, ?_⟩) ?_ ?_
   rotate_left
   · intro w'
     go_simp
     with_reducible rfl
   rotate_left
   · simp only [Act.put, sA, sZ, sS, i64_w, i32_w]
     rfl
   refine take_ (i := 1) (N := some 18) (v := ?_) (a' := ?_) #[tT, tT, fF, fF, fF, fF, fF, fF, fF] rfl rfl (by kernel_rfl) (fun _ _ _ h => h) (Or.inl ⟨by rfl, ?_⟩) hHeld ?_ ?_
   rotate_left
   · rintro w' ⟨e1, e2⟩
     go_simp
     with_reducible rfl
   rotate_left
   · simp only [Act.put, sA, sZ, sS, i64_w, i32_w]
     rfl
   refine take_ (i := 2) (N := some 19) (v := ?_) (a' := ?_) #[tT, tT, tT, fF, fF, fF, fF, fF, fF] rfl rfl (by kernel_rfl) (fun _ _ _ h => h) (Or.inl ⟨by rfl, ?_⟩) hHeld ?_ ?_
   rotate_left
   · rintro w' ⟨e1, e2⟩
     go_simp
     with_reducible rfl
   rotate_left
   · simp only [Act.put, sA, sZ, sS, i64_w, i32_w]
     rfl
   refine one_ (i := 3) (N := some 20) #[tT, tT, tT, tT, fF, fF, fF, fF, fF] rfl rfl (by kernel_rfl) (by decide) (fun K hK => ?_)
   refine call_dies_ 54 #[.pointer (some ⟨b, 0, none⟩), .int .i64 7] (by rfl) rfl (by
    unfold execOp
    simp [resolve, Deferred.ofValue, invoke, Act.eval, next_enters]) ?_
   refine (next_bad ts len G HG.out g b p o 7 _ (HM2.out.pz.keep hdr) (by rw [HT.out]; exact hkn.out)).mono ?_
   rintro e w4 ⟨rfl, hb4⟩
   refine ⟨_, rfl, rfl, ?_⟩
   have hr := HR.out
   unfold nmStep at hr
   rw [HT.out, if_pos hkn.out] at hr
   injection hr with hr
   subst hr
   exact ⟨Kp.of_keep (KeepR.of_below (HB2.out.trans ((hdr.trans hb4).mono HB2.out.size)) (by have := HL.out.lb; have := HM.out.sz; omega)) HM.out.sz, by rw [HT.out]⟩
end Go.Proofs.YtamcicojockhpaaGreatDoor.Tr
end
section
set_option linter.unusedVariables false
set_option linter.unusedSimpArgs false
namespace Go.Proofs.YtamcicojockhpaaGreatDoor.Tr
open Go.RowKit Go.Proofs.YtamcicojockhpaaGreatDoorW.PrintWords Go.Proofs.YtamcicojockhpaaGreatDoorW.PrintLast Go.Proofs.YtamcicojockhpaaGreatDoorW.PrintMore
open Go.Proofs.YtamcicojockhpaaGreatDoor.Lx Go.Proofs.YtamcicojockhpaaGreatDoor.PS
attribute [local go_sem high] fld0 fld1 fld2 fld3
theorem tok_lt {ts : List Tk} {len p : Nat} (h : (tokAt ts len p).kind ≠ 0) : p < ts.length := by
 refine Nat.lt_of_not_le fun h1 => h ?_
 unfold tokAt
 rw [List.getD_eq_getElem?_getD, List.getElem?_eq_none h1]
 rfl
inductive SRes (σ : Type) where
 | ok (s : σ) (p : Nat)
 | bad (c a : Nat)
def rowsG (ts : List Tk) (len cl : Nat) {σ : Type} (one : Nat → σ → Nat → Option (SRes σ)) : Nat → σ → Nat → Option (SRes σ)
 | 0, _, _ => none
 | f + 1, s, p => if (tokAt ts len p).kind = cl then some (.ok s (p + 1)) else match one f s p with
  | none => none
  | some (.bad c a) => some (.bad c a)
  | some (.ok s' p1) => if (tokAt ts len p1).kind = cl then some (.ok s' (p1 + 1)) else if (tokAt ts len p1).kind ≠ 6 then some (.bad 20 (tokAt ts len p1).pos)
   else if (tokAt ts len (p1 + 1)).kind = cl then some (.bad 20 (tokAt ts len (p1 + 1)).pos) else rowsG ts len cl one f s' (p1 + 1)
def SQ (base b bv : Nat) {σ : Type} (I : σ → Nat → World → Prop) (r : SRes σ) (w : World) (e : Ending) (w' : World) : Prop := Kp base b bv w w' ∧ match r with
 | .ok s' p' => e = .returned (.tuple #[]) ∧ I s' p' w'
 | .bad c a => e = .panicked [{ v := wrongV c a, recovered := false }]
def OneC (ts : List Tk) (len : Nat) (G : Obj) (base g b bv o : Nat) {σ : Type} (I : σ → Nat → World → Prop) (one : Nat → σ → Nat → Option (SRes σ)) (fid : FuncId) (caps : Array Value) (F : Nat) : Prop :=
 ∀ f s p r w, f < F → I s p w → one f s p = some r → Calls Tryz.prog fid caps w (SQ base b bv I r w)
set_option maxRecDepth 100000 in
set_option maxHeartbeats 2000000 in
theorem rows_calls (ts : List Tk) (len : Nat) (G : Obj) (hG : RowG ts len G) (hl : ts.length ≤ 1000000) (base g b bv o op cl : Nat) {σ : Type} (I : σ → Nat → World → Prop) (one : Nat → σ → Nat → Option (SRes σ)) (fid : FuncId) (caps : Array Value)
 (hen : ∀ (args : Array Value) (w : World), (callFunc fid args).run Tryz.prog w = .ok (.enter fid args) w) (F : Nat) (hone : OneC ts len G base g b bv o I one fid caps F)
 (hI : ∀ s p w, I s p w → Pz ts len G g b p o w ∧ base ≤ w.heap.size) (hIk : ∀ s p p' w w', p ≤ p' → I s p w → KeepR b w w' → Pz ts len G g b p' o w' → I s p' w') (hbb : b < base) (hop : op ≠ 0) (hcl : cl ≠ 0) (hcl6 : cl ≠ 6)
 (s : σ) (p : Nat) (w : World) (r : SRes σ) (hk : (tokAt ts len p).kind = op) (h : I s p w) (hr : rowsG ts len cl one F s (p + 1) = some r) :
 Calls Tryz.prog 116 #[.pointer (some ⟨b, 0, none⟩), .int .i64 op, .int .i64 cl, .func (.func fid) #[] caps] w (SQ base b bv I r w) := by
 have HG := Aside0.mk hG
 have HO := Aside0.mk hone
 have HI := Aside0.mk hI
 have HK := Aside0.mk hIk
 have H := Aside0.mk h
 have HR := Aside0.mk hr
 have HE := Aside0.mk hen
 clear hG hone hI hIk h hr hen
 have hp : p < ts.length := by
  refine Nat.lt_of_not_le fun h => hop ?_
  unfold tokAt at hk
  rw [List.getD_eq_getElem?_getD, List.getElem?_eq_none h] at hk
  exact hk.symm
 have BEL := Aside0.mk (show ∀ s p w w', I s p w → Below w.heap.size w w' → I s p w' ∧ Kp base b bv w w' from fun s p w w' h hb => by
  obtain ⟨hz, hs⟩ := HI.out s p w h
  have hk := KeepR.of_below (r := b) hb (by omega)
  exact ⟨HK.out s p p w w' (Nat.le_refl _) h hk (hz.keep hb), Kp.of_keep hk hs⟩)
 go_enter Tryz.func116, Tryz.ntmps116
 go_wp2_with fail
 have hN := next_ok ts len G HG.out g b p o w (HI.out _ _ _ H.out).1 hp hl
 rw [hk] at hN
 refine hN.mono ?_
 clear hN
 rintro e w1 ⟨rfl, hz1, hk1⟩
 have H1 := Aside0.mk (HK.out _ _ _ _ _ (Nat.le_succ _) H.out hk1 hz1)
 have HK1 := Aside0.mk (Kp.of_keep (c := bv) hk1 (HI.out _ _ _ H.out).2)
 clear hz1 hk1
 unfold tkV
 go_wp2_with fail
 go_loopg [] F (fun kq w2 => ∃ (s : σ) (p : Nat), kq ≤ F ∧ Aside0 (rowsG ts len cl one kq s p = some r) ∧ Aside0 (I s p w2) ∧ Aside0 (Kp base b bv w w2))
 case atStart => exact ⟨s, p + 1, Nat.le_refl _, HR, H1, HK1⟩
 case round =>
  obtain ⟨s2, p2, hkF, HRR, H2, HK2⟩ := hrel
  clear HR H1 HK1 H
  cases gk with
  | zero => exact absurd HRR.out (by simp [rowsG])
  | succ kq =>
   have hh := HRR.out
   simp only [rowsG] at hh
   by_cases hc : (tokAt ts len p2).kind = cl
   · rw [if_pos hc] at hh
     injection hh with hh
     subst hh
     have HC := Aside0.mk hc
     have hcb : (((tokAt ts len p2).kind : Int) == (cl : Int)) = true := by simp; omega
     clear hc
     go_wp2_with fail
     refine (peek_calls ts len G HG.out g b p2 o _ (HI.out _ _ _ H2.out).1).mono ?_
     rintro e w3 ⟨rfl, hb3⟩
     obtain ⟨h3, hk3⟩ := BEL.out _ _ _ _ H2.out hb3
     have H3 := Aside0.mk h3
     have HK3 := Aside0.mk (Kp.trans HK2.out hk3)
     clear h3 hk3 hb3
     unfold tkV
     go_wp2_with fail
     have hpl : p2 < ts.length := tok_lt (by rw [HC.out]; exact hcl)
     have hN := next_ok ts len G HG.out g b p2 o w3 (HI.out _ _ _ H3.out).1 hpl hl
     rw [HC.out] at hN
     refine hN.mono ?_
     clear hN
     rintro e w9 ⟨rfl, hz9, hk9⟩
     have H9 := Aside0.mk (HK.out _ _ _ _ _ (Nat.le_succ _) H3.out hk9 hz9)
     have HK9 := Aside0.mk (Kp.trans HK3.out (Kp.of_keep (c := bv) hk9 (HI.out _ _ _ H3.out).2))
     clear hz9 hk9
     go_wp2_with fail
     refine bodyPost_end (results_none rfl _ _ _) rfl ?_
     exact ⟨HK9.out, rfl, H9.out⟩
   · rw [if_neg hc] at hh
     have HC := Aside0.mk hc
     have hcb : (((tokAt ts len p2).kind : Int) == (cl : Int)) = false := by simp; omega
     clear hc
     cases ho : one kq s2 p2 with
     | none => rw [ho] at hh; cases hh
     | some r2 =>
      rw [ho] at hh
      go_wp2_with fail
      refine (peek_calls ts len G HG.out g b p2 o _ (HI.out _ _ _ H2.out).1).mono ?_
      rintro e w3 ⟨rfl, hb3⟩
      obtain ⟨h3, hk3⟩ := BEL.out _ _ _ _ H2.out hb3
      have H3 := Aside0.mk h3
      have HK3 := Aside0.mk (Kp.trans HK2.out hk3)
      clear h3 hk3 hb3
      unfold tkV
      have he := HE.out
      go_wp2_with fail
      refine (HO.out kq s2 p2 r2 w3 (by omega) H3.out ho).mono ?_
      clear he
      rintro e w4 ⟨hk4, h4⟩
      have HK4 := Aside0.mk (Kp.trans HK3.out hk4)
      clear hk4
      cases r2 with
      | bad c a =>
       obtain rfl := h4
       injection hh with hh
       subst hh
       exact ⟨rfl, HK4.out, rfl⟩
      | ok s3 p3 =>
       obtain ⟨rfl, h4⟩ := h4
       have H4 := Aside0.mk h4
       clear h4
       clear hcb
       simp only at hh
       by_cases hc3 : (tokAt ts len p3).kind = cl
       · rw [if_pos hc3] at hh
         injection hh with hh
         subst hh
         have HC3 := Aside0.mk hc3
         have hcb3 : (((tokAt ts len p3).kind : Int) == (cl : Int)) = true := by simp; omega
         clear hc3
         go_wp2_with fail
         refine (peek_calls ts len G HG.out g b p3 o _ (HI.out _ _ _ H4.out).1).mono ?_
         rintro e w5 ⟨rfl, hb3⟩
         obtain ⟨h3, hk3⟩ := BEL.out _ _ _ _ H4.out hb3
         have H5 := Aside0.mk h3
         have HK5 := Aside0.mk (Kp.trans HK4.out hk3)
         clear h3 hk3 hb3
         unfold tkV
         go_wp2_with fail
         have hpl : p3 < ts.length := tok_lt (by rw [HC3.out]; exact hcl)
         have hN := next_ok ts len G HG.out g b p3 o w5 (HI.out _ _ _ H5.out).1 hpl hl
         rw [HC3.out] at hN
         refine hN.mono ?_
         clear hN
         rintro e w9 ⟨rfl, hz9, hk9⟩
         have H9 := Aside0.mk (HK.out _ _ _ _ _ (Nat.le_succ _) H5.out hk9 hz9)
         have HK9 := Aside0.mk (Kp.trans HK5.out (Kp.of_keep (c := bv) hk9 (HI.out _ _ _ H5.out).2))
         clear hz9 hk9
         go_wp2_with fail
         refine bodyPost_end (results_none rfl _ _ _) rfl ?_
         exact ⟨HK9.out, rfl, H9.out⟩
       · rw [if_neg hc3] at hh
         have HC3 := Aside0.mk hc3
         have hcb3 : (((tokAt ts len p3).kind : Int) == (cl : Int)) = false := by simp; omega
         clear hc3
         go_wp2_with fail
         refine (peek_calls ts len G HG.out g b p3 o _ (HI.out _ _ _ H4.out).1).mono ?_
         rintro e w5 ⟨rfl, hb3⟩
         obtain ⟨h3, hk3⟩ := BEL.out _ _ _ _ H4.out hb3
         have H5 := Aside0.mk h3
         have HK5 := Aside0.mk (Kp.trans HK4.out hk3)
         clear h3 hk3 hb3
         unfold tkV
         go_wp2_with fail
         by_cases hc6 : (tokAt ts len p3).kind = 6
         · rw [if_neg (fun h => h hc6)] at hh
           have HC6 := Aside0.mk hc6
           clear hc6
           have hpl : p3 < ts.length := tok_lt (by rw [HC6.out]; decide)
           have hN := next_ok ts len G HG.out g b p3 o w5 (HI.out _ _ _ H5.out).1 hpl hl
           rw [HC6.out] at hN
           refine hN.mono ?_
           clear hN
           rintro e w6 ⟨rfl, hz9, hk9⟩
           have H6 := Aside0.mk (HK.out _ _ _ _ _ (Nat.le_succ _) H5.out hk9 hz9)
           have HK6 := Aside0.mk (Kp.trans HK5.out (Kp.of_keep (c := bv) hk9 (HI.out _ _ _ H5.out).2))
           clear hz9 hk9 hcb3
           unfold tkV
           by_cases hc7 : (tokAt ts len (p3 + 1)).kind = cl
           · rw [if_pos hc7] at hh
             injection hh with hh
             subst hh
             have hcb7 : (((tokAt ts len (p3 + 1)).kind : Int) == (cl : Int)) = true := by simp; omega
             clear hc7
             go_wp2_with fail
             refine (peek_calls ts len G HG.out g b (p3 + 1) o _ (HI.out _ _ _ H6.out).1).mono ?_
             rintro e w7 ⟨rfl, hb3⟩
             obtain ⟨h3, hk3⟩ := BEL.out _ _ _ _ H6.out hb3
             have H7 := Aside0.mk h3
             have HK7 := Aside0.mk (Kp.trans HK6.out hk3)
             clear h3 hk3 hb3
             unfold tkV
             go_wp2_with fail
             refine (refuse_calls ts len G HG.out g b (p3 + 1) o 20 _ (HI.out _ _ _ H7.out).1).mono ?_
             rintro e w8 ⟨rfl, hb8⟩
             exact ⟨rfl, Kp.trans HK7.out (BEL.out _ _ _ _ H7.out hb8).2, rfl⟩
           · rw [if_neg hc7] at hh
             have hcb7 : (((tokAt ts len (p3 + 1)).kind : Int) == (cl : Int)) = false := by simp; omega
             clear hc7
             have HR4 := Aside0.mk hh
             clear hh
             go_wp2_with fail
             refine (peek_calls ts len G HG.out g b (p3 + 1) o _ (HI.out _ _ _ H6.out).1).mono ?_
             rintro e w7 ⟨rfl, hb3⟩
             obtain ⟨h3, hk3⟩ := BEL.out _ _ _ _ H6.out hb3
             have H7 := Aside0.mk h3
             have HK7 := Aside0.mk (Kp.trans HK6.out hk3)
             clear h3 hk3 hb3
             unfold tkV
             go_wp2_with fail
             go_roundg kq
             case measure => omega
             case rel => exact ⟨s3, p3 + 1, by omega, HR4, H7, HK7⟩
         · rw [if_pos hc6] at hh
           injection hh with hh
           subst hh
           refine (next_bad ts len G HG.out g b p3 o 6 _ (HI.out _ _ _ H5.out).1 hc6).mono ?_
           rintro e w6 ⟨rfl, hb6⟩
           exact ⟨rfl, Kp.trans HK5.out (BEL.out _ _ _ _ H5.out hb6).2, rfl⟩
end Go.Proofs.YtamcicojockhpaaGreatDoor.Tr
end
section
set_option linter.unusedVariables false
set_option linter.unusedSimpArgs false
namespace Go.Proofs.YtamcicojockhpaaGreatDoor.Tr
open Go.RowKit Go.Proofs.YtamcicojockhpaaGreatDoorW.PrintWords Go.Proofs.YtamcicojockhpaaGreatDoorW.PrintLast Go.Proofs.YtamcicojockhpaaGreatDoorW.PrintMore
open Go.Proofs.YtamcicojockhpaaGreatDoor.Lx Go.Proofs.YtamcicojockhpaaGreatDoor.PS
def oneA (ts : List Tk) (len o f : Nat) (acc : List V) (p : Nat) : Option (SRes (List V)) := match valP ts len f o p with
 | none => none
 | some (.bad c a) => some (.bad c a)
 | some (.ok v p1) => some (.ok (acc ++ [v]) p1)
def oneN (ts : List Tk) (len o f : Nat) (s : List V × List ByteArray) (p : Nat) : Option (SRes (List V × List ByteArray)) := match nmStep ts len f o p s.2 with
 | none => none
 | some (.bad c a) => some (.bad c a)
 | some (.ok v p1) => some (.ok (s.1 ++ [v], s.2 ++ [toB (tokAt ts len p).text]) p1)
def endA : SRes (List V) → PRes
 | .ok s p => .ok ⟨5, 0, ⟨#[]⟩, s, []⟩ p
 | .bad c a => .bad c a
def endN : SRes (List V × List ByteArray) → PRes
 | .ok s p => .ok ⟨6, 0, ⟨#[]⟩, s.1, s.2⟩ p
 | .bad c a => .bad c a
theorem arrP_rows (ts : List Tk) (len o : Nat) : ∀ (f p : Nat) (acc : List V), arrP ts len f o p acc = (rowsG ts len 4 (oneA ts len o) f acc p).map endA
 | 0, p, acc => by simp [arrP, rowsG]
 | f + 1, p, acc => by
  simp only [arrP, rowsG, oneA]
  split
  · rfl
  · cases hv : valP ts len f o p with
    | none => rfl
    | some r => cases r with
     | bad c a => rfl
     | ok v p1 =>
      simp only
      split
      · rfl
      · split
        · rfl
        · split
          · rfl
          · exact arrP_rows ts len o f (p1 + 1) (acc ++ [v])
theorem mapP_rows (ts : List Tk) (len o : Nat) : ∀ (f p : Nat) (s : List V × List ByteArray), mapP ts len f o p s.1 s.2 = (rowsG ts len 2 (oneN ts len o) f s p).map endN
 | 0, p, s => by simp [mapP, rowsG]
 | f + 1, p, s => by
  simp only [mapP, rowsG, oneN, nmStep]
  split
  · rfl
  · split
    · rfl
    · split
      · rfl
      · split
        · rfl
        · cases hv : valP ts len f o (p + 2) with
          | none => rfl
          | some r => cases r with
           | bad c a => rfl
           | ok v p1 =>
            simp only
            split
            · rfl
            · split
              · rfl
              · split
                · rfl
                · exact mapP_rows ts len o f (p1 + 1) (s.1 ++ [v], s.2 ++ [toB (tokAt ts len p).text])
theorem valP_lt (ts : List Tk) (len : Nat) : ∀ (n f o p : Nat) (v : V) (p1 : Nat), f ≤ n → valP ts len f o p = some (.ok v p1) → p < p1
 | n, 0, o, p, v, p1, _, e => by simp [valP] at e
 | 0, f + 1, o, p, v, p1, hn, e => by omega
 | n + 1, f + 1, o, p, v, p1, hn, e => by
  have hrow : ∀ (f' : Nat), f' ≤ n → ∀ o p v p1, valP ts len f' o p = some (.ok v p1) → p < p1 := fun f' h o p v p1 e => valP_lt ts len n f' o p v p1 h e
  simp only [valP] at e
  split at e
  · cases e; omega
  · split at e
    · cases e; omega
    · split at e
      · cases e; omega
      · split at e
        · split at e
          · cases e
          · have := arr_lt ts len n hrow f (by omega) (o + 1) (p + 1) [] v p1 e
            omega
        · split at e
          · split at e
            · cases e
            · have := map_lt ts len n hrow f (by omega) (o + 1) (p + 1) [] [] v p1 e
              omega
          · cases e
where
 arr_lt (ts : List Tk) (len n : Nat) (hrow : ∀ (f' : Nat), f' ≤ n → ∀ o p v p1, valP ts len f' o p = some (.ok v p1) → p < p1) (f : Nat) (hf : f ≤ n) (o p : Nat) (acc : List V) (v : V) (p1 : Nat) (e : arrP ts len f o p acc = some (.ok v p1)) : p < p1 := by
  induction f generalizing p acc with
  | zero => simp [arrP] at e
  | succ f ih =>
   simp only [arrP] at e
   split at e
   · cases e; omega
   · cases hv : valP ts len f o p with
     | none => rw [hv] at e; cases e
     | some r =>
      rw [hv] at e
      cases r with
      | bad c a => cases e
      | ok v2 p2 =>
       have h2 := hrow f (by omega) _ _ _ _ hv
       simp only at e
       split at e
       · cases e; omega
       · split at e
         · cases e
         · split at e
           · cases e
           · have := ih (by omega) _ _ e
             omega
 map_lt (ts : List Tk) (len n : Nat) (hrow : ∀ (f' : Nat), f' ≤ n → ∀ o p v p1, valP ts len f' o p = some (.ok v p1) → p < p1) (f : Nat) (hf : f ≤ n) (o p : Nat) (acc : List V) (nm : List ByteArray) (v : V) (p1 : Nat) (e : mapP ts len f o p acc nm = some (.ok v p1)) : p < p1 := by
  induction f generalizing p acc nm with
  | zero => simp [mapP] at e
  | succ f ih =>
   simp only [mapP] at e
   split at e
   · cases e; omega
   · split at e
     · cases e
     · split at e
       · cases e
       · split at e
         · cases e
         · cases hv : valP ts len f o (p + 2) with
           | none => rw [hv] at e; cases e
           | some r =>
            rw [hv] at e
            cases r with
            | bad c a => cases e
            | ok v2 p2 =>
             have h2 := hrow f (by omega) _ _ _ _ hv
             simp only at e
             split at e
             · cases e; omega
             · split at e
               · cases e
               · split at e
                 · cases e
                 · have := ih (by omega) _ _ _ e
                   omega
theorem valP_lt' {ts : List Tk} {len f o p : Nat} {v : V} {p1 : Nat} (e : valP ts len f o p = some (.ok v p1)) : p < p1 := valP_lt ts len f f o p v p1 (Nat.le_refl _) e
theorem nmStep_lt {ts : List Tk} {len f o p : Nat} {nm : List ByteArray} {v : V} {p1 : Nat} (e : nmStep ts len f o p nm = some (.ok v p1)) : p < p1 := by
 unfold nmStep at e
 split at e
 · cases e
 · split at e
   · cases e
   · split at e
     · cases e
     · have := valP_lt' e
       omega
end Go.Proofs.YtamcicojockhpaaGreatDoor.Tr
end
section
set_option linter.unusedVariables false
set_option linter.unusedSimpArgs false
namespace Go.Proofs.YtamcicojockhpaaGreatDoor.Tr
open Go.RowKit Go.Proofs.YtamcicojockhpaaGreatDoorW.PrintWords Go.Proofs.YtamcicojockhpaaGreatDoorW.PrintLast Go.Proofs.YtamcicojockhpaaGreatDoorW.PrintMore
open Go.Proofs.YtamcicojockhpaaGreatDoor.Lx Go.Proofs.YtamcicojockhpaaGreatDoor.PS
def AI (ts : List Tk) (len : Nat) (G : Obj) (base g b bv bp o : Nat) (acc : List V) (p : Nat) (w : World) : Prop :=
 Pz ts len G g b p o w ∧ base ≤ w.heap.size ∧ acc.length ≤ p ∧ w.heap[bp]? = some (.cells #[.pointer (some ⟨b, 0, none⟩)] 90 (0, 0)) ∧
 ∃ vl, w.heap[bv]? = some (.cells #[.int .i64 5, .int .i64 0, .string ⟨#[]⟩, vl, .slice none 0 0] 51 (0, 0)) ∧ k51.R 51 w base (fun _ => True) vl acc
def MI (ts : List Tk) (len : Nat) (G : Obj) (base g b bv bp o : Nat) (s : List V × List ByteArray) (p : Nat) (w : World) : Prop :=
 s.1.length ≤ p ∧ s.2.length ≤ p ∧ ∃ vl nl, Mz ts len G base g b bv bp p o s.1 s.2 vl nl w
theorem AI_keep {ts : List Tk} {len : Nat} {G : Obj} {base g b bv bp o : Nat} (hL : Lay base g b bv bp) (acc : List V) (p p' : Nat) (w w' : World) (h : AI ts len G base g b bv bp o acc p w) (hk : KeepR b w w') (hz : Pz ts len G g b p' o w') (hp : p ≤ p') : AI ts len G base g b bv bp o acc p' w' := by
 obtain ⟨h1, h2, h3, h4, vl, h5, h6⟩ := h
 have hs := hk.2.1
 exact ⟨hz, by omega, by omega, (hk.2.2 bp (by have := hL.lp; omega) (fun e => hL.np e.symm)).trans h4, vl, (hk.2.2 bv (by have := hL.lv; omega) (fun e => hL.nv e.symm)).trans h5,
  Kd.R_mono (Kd.R_step (Kd.R_bound h6) fun k hk1 hk2 => hk.2.2 k hk2 (by have := hk1.2.1; have := hL.lb; omega)) (fun _ _ => trivial)⟩
theorem AI_one {ts : List Tk} {len : Nat} {G : Obj} {base g b bv bp o n : Nat} (hl : ts.length ≤ 1000000) (ho : o ≤ 8) (IH : ∀ f, f < n → ValC ts len G f) (hL : Lay base g b bv bp) :
 OneC ts len G base g b bv o (AI ts len G base g b bv bp o) (oneA ts len o) 117 #[.pointer (some ⟨bv, 0, none⟩), .pointer (some ⟨bp, 0, none⟩)] n := by
 intro f s p r w hf hI h1
 obtain ⟨hz, hb, hsp, hp, vl, hv, hR⟩ := hI
 have hpl := hz.le
 unfold oneA at h1
 cases hv1 : valP ts len f o p with
 | none => rw [hv1] at h1; cases h1
 | some r1 =>
  rw [hv1] at h1
  cases r1 with
  | bad c a =>
   cases h1
   refine (arr1_bad ts len G f (IH f hf) base g b bv bp o p c a vl s w ho hv1 hz hb hL.lb (by omega) hv hp hR).mono ?_
   rintro e w' ⟨rfl, hk⟩
   exact ⟨Kp.of_keep hk hb, rfl⟩
  | ok v p1 =>
   cases h1
   refine (arr1_ok ts len G f (IH f hf) base g b bv bp o p p1 v vl s w ho hv1 hz hb hL.lg hL.lb hL.lv hL.lp hL.nv hL.np hL.gv hL.vp (by omega) hv hp hR).mono ?_
   rintro e w' ⟨rfl, hk, hz', vl', hv', hR'⟩
   refine ⟨hk, rfl, hz', Nat.le_trans hb hk.2.2.2.1, ?_, (hk.2.2.2.2 bp hL.lp (fun e => hL.np e.symm) (fun e => hL.vp e.symm)).trans hp, vl', hv', hR'⟩
   have := valP_lt' hv1
   rw [List.length_append]
   simp
   omega
theorem MI_one {ts : List Tk} {len : Nat} {G : Obj} {base g b bv bp o n : Nat} (hG : RowG ts len G) (hl : ts.length ≤ 1000000) (ho : o ≤ 8) (IH : ∀ f, f < n → ValC ts len G f) (hL : Lay base g b bv bp) :
 OneC ts len G base g b bv o (MI ts len G base g b bv bp o) (oneN ts len o) 118 #[.pointer (some ⟨bp, 0, none⟩), .pointer (some ⟨bv, 0, none⟩)] n := by
 intro f s p r w hf hI h1
 obtain ⟨ha, hn, vl, nl, hM⟩ := hI
 have hpl := hM.pz.le
 unfold oneN at h1
 cases hv1 : nmStep ts len f o p s.2 with
 | none => rw [hv1] at h1; cases h1
 | some r1 =>
  refine (nam1_calls ts len G hG f (IH f hf) base g b bv bp o p r1 s.1 s.2 vl nl w ho hv1 hl hL hM (by omega) (by omega)).mono ?_
  rintro e w' ⟨hk, h2⟩
  rw [hv1] at h1
  cases r1 with
  | bad c a =>
   cases h1
   exact ⟨hk, h2⟩
  | ok v p1 =>
   cases h1
   obtain ⟨rfl, vl', nl', hM'⟩ := h2
   have := nmStep_lt hv1
   exact ⟨hk, rfl, by rw [List.length_append]; simp; omega, by rw [List.length_append]; simp; omega, vl', nl', hM'⟩
theorem keep_of_Kp {base b bv : Nat} {w w3 w4 : World} (hb : Below w.heap.size w w3) (hk : Kp base b bv w3 w4) (h1 : w.heap.size ≤ base) (h2 : w.heap.size ≤ bv) (hbw : b < w.heap.size) : KeepR b w w4 :=
 ⟨⟨hk.1.trans hb.os, hk.2.1.trans hb.tape, hk.2.2.1.trans hb.output, Nat.le_trans hb.size hk.2.2.2.1, fun k h => (hk.2.2.2.2 k (by omega) (by omega) (by omega)).trans (hb.block k (by omega))⟩, Nat.le_trans hb.size hk.2.2.2.1, fun k h3 h4 => (hk.2.2.2.2 k (by omega) h4 (by omega)).trans (hb.block k h3)⟩
theorem three_new (w : World) (a b c : Obj) : (((w.alloc a).alloc b).alloc c).heap[w.heap.size]? = some a ∧ (((w.alloc a).alloc b).alloc c).heap[w.heap.size + 1]? = some b ∧ (((w.alloc a).alloc b).alloc c).heap[w.heap.size + 1 + 1]? = some c ∧
 (((w.alloc a).alloc b).alloc c).heap.size = w.heap.size + 3 ∧ Below w.heap.size w (((w.alloc a).alloc b).alloc c) := by
 have s1 : (w.alloc a).heap.size = w.heap.size + 1 := by simp
 have s2 : ((w.alloc a).alloc b).heap.size = w.heap.size + 1 + 1 := by simp
 have n1 := blk_new w a
 have n2 := blk_new (w.alloc a) b
 have n3 := blk_new ((w.alloc a).alloc b) c
 rw [s1] at n2
 rw [s2] at n3
 exact ⟨blk_alloc (blk_alloc n1 b) c, blk_alloc n2 c, n3, by simp, (((Below.refl _ _).alloc (Nat.le_refl _) _).alloc (by simp) _).alloc (by simp; omega) _⟩
theorem res_array (tmps : Array Value) (w : World) (b : Nat) (v0 v1 v2 v3 v4 : Value) (h4 : tmps.getD 2 undef = .pointer (some ⟨b, 0, none⟩)) (hb : w.heap[b]? = some (.cells #[v0, v1, v2, v3, v4] 51 (0, 0))) :
 (results Tryz.f86 tmps).run Tryz.prog w = .ok (.agg #[v0, v1, v2, v3, v4]) w := by
 have c0 := blk_cell hb 0
 have c1 := blk_cell hb 1
 have c2 := blk_cell hb 2
 have c3 := blk_cell hb 3
 have c4 := blk_cell hb 4
 rw [Array.getD_eq_getD_getElem?] at h4
 simp [results, Tryz.results86, h4, c0, c1, c2, c3, c4, go_sem]
theorem res_named (tmps : Array Value) (w : World) (b : Nat) (v0 v1 v2 v3 v4 : Value) (h4 : tmps.getD 2 undef = .pointer (some ⟨b, 0, none⟩)) (hb : w.heap[b]? = some (.cells #[v0, v1, v2, v3, v4] 51 (0, 0))) :
 (results Tryz.f88 tmps).run Tryz.prog w = .ok (.agg #[v0, v1, v2, v3, v4]) w := by
 have c0 := blk_cell hb 0
 have c1 := blk_cell hb 1
 have c2 := blk_cell hb 2
 have c3 := blk_cell hb 3
 have c4 := blk_cell hb 4
 rw [Array.getD_eq_getD_getElem?] at h4
 simp [results, Tryz.results88, h4, c0, c1, c2, c3, c4, go_sem]
theorem arr1_enters (args : Array Value) (w : World) : (callFunc 117 args).run Tryz.prog w = .ok (.enter 117 args) w := enters_ Tryz.func117 (by kernel_rfl) (by kernel_rfl) args w
theorem nam1_enters (args : Array Value) (w : World) : (callFunc 118 args).run Tryz.prog w = .ok (.enter 118 args) w := enters_ Tryz.func118 (by kernel_rfl) (by kernel_rfl) args w
set_option maxRecDepth 100000 in
set_option maxHeartbeats 2000000 in
theorem array_calls (ts : List Tk) (len : Nat) (G : Obj) (hG : RowG ts len G) (hl : ts.length ≤ 1000000) (n : Nat) (IH : ∀ f, f < n → ValC ts len G f) (g b o p : Nat) (r : PRes) (w : World) (ho : o ≤ 8) (hk : (tokAt ts len p).kind = 3)
 (hr : arrP ts len n o (p + 1) [] = some r) (h : Pz ts len G g b p o w) : Calls Tryz.prog 86 #[.pointer (some ⟨b, 0, none⟩)] w (VQ ts len G g b o r w) := by
 rw [arrP_rows] at hr
 obtain ⟨r, hr2, rfl⟩ := Option.map_eq_some_iff.1 hr
 clear hr
 have hmf : ∀ (fn : Fn) (first cap : Array Value) (w : World), (Instr.makeFunc fn first cap).run Tryz.prog w = .ok (.func fn first cap) w := fun _ _ _ _ => rfl
 have HH := Aside0.mk h
 have HR := Aside0.mk hr2
 have HIH := Aside0.mk IH
 have HG := Aside0.mk hG
 clear h hr2 IH hG
 go_enter Tryz.func86, Tryz.ntmps86
 go_wp2_with fail
 have T3 := three_new w (.cells #[.pointer (some ⟨b, 0, none⟩)] 90 (0, 0)) (.cells #[.int .i64 0, .int .i64 0, .string ⟨#[]⟩, .slice none 0 0, .slice none 0 0] 51 (0, 0)) (.cells #[.int .i64 5, .int .i64 0, .string ⟨#[]⟩, .slice none 0 0, .slice none 0 0] 51 (0, 0))
 generalize (((w.alloc (.cells #[.pointer (some ⟨b, 0, none⟩)] 90 (0, 0))).alloc (.cells #[.int .i64 0, .int .i64 0, .string ⟨#[]⟩, .slice none 0 0, .slice none 0 0] 51 (0, 0))).alloc (.cells #[.int .i64 5, .int .i64 0, .string ⟨#[]⟩, .slice none 0 0, .slice none 0 0] 51 (0, 0))) = W3 at *
 obtain ⟨nb, nr, nv, ns, hB3⟩ := T3
 have hbw : b < w.heap.size := by
  obtain ⟨⟨_, h, _⟩, _⟩ := HH.out
  exact blk_lt h
 have hgw : g < w.heap.size := blk_lt HH.out.row
 have HL : Lay (w.heap.size + 3) g b (w.heap.size + 1 + 1) w.heap.size := ⟨by omega, by omega, by omega, by omega, by omega, by omega, by omega, by omega⟩
 have HLA := Aside0.mk HL
 have hz3 := HH.out.keep hB3
 refine (rows_calls ts len G HG.out hl (w.heap.size + 3) g b (w.heap.size + 1 + 1) o 3 4 (AI ts len G (w.heap.size + 3) g b (w.heap.size + 1 + 1) w.heap.size o) (oneA ts len o) 117 _ arr1_enters n (AI_one hl ho HIH.out HL) (fun s p w h => ⟨h.1, h.2.1⟩) (fun s p p' w w' hp h hk hz => AI_keep HL s p p' w w' h hk hz hp) HL.lb (by decide) (by decide) (by decide)
  [] p W3 r hk ⟨hz3, by omega, Nat.zero_le _, nb, _, nv, Kd.R_nil _ _ _ _ _⟩ HR.out).mono ?_
 rintro e w4 ⟨hk4, h4⟩
 have HKR := Aside0.mk (keep_of_Kp hB3 hk4 (by omega) (by omega) hbw)
 cases r with
 | bad c a =>
  obtain rfl := h4
  exact ⟨rfl, HKR.out, rfl⟩
 | ok s p1 =>
  obtain ⟨rfl, hz4, hs4, _, hbp4, vl, hv4, hR4⟩ := h4
  have hr4 := (hk4.2.2.2.2 (w.heap.size + 1) (by omega) (by omega) (by omega)).trans nr
  obtain ⟨Av, cv, rfl⟩ := Kd.R_slice hR4
  have HZ4 := Aside0.mk hz4
  have HR4 := Aside0.mk hR4
  have HV4 := Aside0.mk hv4
  have HRES := Aside0.mk hr4
  have e0 : w4.cell? ⟨w.heap.size + 1 + 1, 0, none⟩ = some (.int .i64 5) := blk_cell hv4 0
  have e1 : w4.cell? ⟨w.heap.size + 1 + 1, 1, none⟩ = some (.int .i64 0) := blk_cell hv4 1
  have e2 : w4.cell? ⟨w.heap.size + 1 + 1, 2, none⟩ = some (.string ⟨#[]⟩) := blk_cell hv4 2
  have e3 : w4.cell? ⟨w.heap.size + 1 + 1, 3, none⟩ = some (.slice Av s.length cv) := blk_cell hv4 3
  have e4 : w4.cell? ⟨w.heap.size + 1 + 1, 4, none⟩ = some (.slice none 0 0) := blk_cell hv4 4
  have d0 : w4.cell? ⟨w.heap.size + 1, 0, none⟩ = some (.int .i64 0) := blk_cell hr4 0
  have d1 : w4.cell? ⟨w.heap.size + 1, 1, none⟩ = some (.int .i64 0) := blk_cell hr4 1
  have d2 : w4.cell? ⟨w.heap.size + 1, 2, none⟩ = some (.string ⟨#[]⟩) := blk_cell hr4 2
  have d3 : w4.cell? ⟨w.heap.size + 1, 3, none⟩ = some (.slice none 0 0) := blk_cell hr4 3
  have d4 : w4.cell? ⟨w.heap.size + 1, 4, none⟩ = some (.slice none 0 0) := blk_cell hr4 4
  have fd : ∀ j, w4.frozen? ⟨w.heap.size + 1, j, none⟩ = false := blk_frozen hr4
  clear hz4 hR4 hv4 hr4 hbp4 hs4 hz3 nb nr nv
  go_wp2
  refine bodyPost_ret (res_array _ _ (w.heap.size + 1) _ _ _ _ _ rfl (blk_set5 HRES.out _ _ _ _ _)) rfl ⟨keep5 HKR.out hbw (by omega) _ _ _ _ _, ⟨_, _, rfl, ?_, Kd.R_nil _ _ _ _ _⟩, ?_⟩
  · exact Kd.R_mono (Kd.R_lower (Kd.R_step (Kd.R_bound HR4.out) fun k hk1 _ => by
     have := hk1.2.1
     rw [far_set _ _ _ _ _ (by omega), far_set _ _ _ _ _ (by omega), far_set _ _ _ _ _ (by omega), far_set _ _ _ _ _ (by omega), far_set _ _ _ _ _ (by omega)]) (by omega)) (fun _ _ => trivial)
  · exact HZ4.out.move (by rw [far_set _ _ _ _ _ (by omega), far_set _ _ _ _ _ (by omega), far_set _ _ _ _ _ (by omega), far_set _ _ _ _ _ (by omega), far_set _ _ _ _ _ (by omega)]) (by rw [far_set _ _ _ _ _ (by omega), far_set _ _ _ _ _ (by omega), far_set _ _ _ _ _ (by omega), far_set _ _ _ _ _ (by omega), far_set _ _ _ _ _ (by omega)])
set_option maxRecDepth 100000 in
set_option maxHeartbeats 2000000 in
theorem named_calls (ts : List Tk) (len : Nat) (G : Obj) (hG : RowG ts len G) (hl : ts.length ≤ 1000000) (n : Nat) (IH : ∀ f, f < n → ValC ts len G f) (g b o p : Nat) (r : PRes) (w : World) (ho : o ≤ 8) (hk : (tokAt ts len p).kind = 1)
 (hr : mapP ts len n o (p + 1) [] [] = some r) (h : Pz ts len G g b p o w) : Calls Tryz.prog 88 #[.pointer (some ⟨b, 0, none⟩)] w (VQ ts len G g b o r w) := by
 rw [show mapP ts len n o (p + 1) [] [] = _ from mapP_rows ts len o n (p + 1) ([], [])] at hr
 obtain ⟨r, hr2, rfl⟩ := Option.map_eq_some_iff.1 hr
 clear hr
 have hmf : ∀ (fn : Fn) (first cap : Array Value) (w : World), (Instr.makeFunc fn first cap).run Tryz.prog w = .ok (.func fn first cap) w := fun _ _ _ _ => rfl
 have HH := Aside0.mk h
 have HR := Aside0.mk hr2
 have HIH := Aside0.mk IH
 have HG := Aside0.mk hG
 clear h hr2 IH hG
 go_enter Tryz.func88, Tryz.ntmps88
 go_wp2_with fail
 have T3 := three_new w (.cells #[.pointer (some ⟨b, 0, none⟩)] 90 (0, 0)) (.cells #[.int .i64 0, .int .i64 0, .string ⟨#[]⟩, .slice none 0 0, .slice none 0 0] 51 (0, 0)) (.cells #[.int .i64 6, .int .i64 0, .string ⟨#[]⟩, .slice none 0 0, .slice none 0 0] 51 (0, 0))
 generalize (((w.alloc (.cells #[.pointer (some ⟨b, 0, none⟩)] 90 (0, 0))).alloc (.cells #[.int .i64 0, .int .i64 0, .string ⟨#[]⟩, .slice none 0 0, .slice none 0 0] 51 (0, 0))).alloc (.cells #[.int .i64 6, .int .i64 0, .string ⟨#[]⟩, .slice none 0 0, .slice none 0 0] 51 (0, 0))) = W3 at *
 obtain ⟨nb, nr, nv, ns, hB3⟩ := T3
 have hbw : b < w.heap.size := by
  obtain ⟨⟨_, h, _⟩, _⟩ := HH.out
  exact blk_lt h
 have hgw : g < w.heap.size := blk_lt HH.out.row
 have HL : Lay (w.heap.size + 3) g b (w.heap.size + 1 + 1) w.heap.size := ⟨by omega, by omega, by omega, by omega, by omega, by omega, by omega, by omega⟩
 have HLA := Aside0.mk HL
 have hz3 := HH.out.keep hB3
 refine (rows_calls ts len G HG.out hl (w.heap.size + 3) g b (w.heap.size + 1 + 1) o 1 2 (MI ts len G (w.heap.size + 3) g b (w.heap.size + 1 + 1) w.heap.size o) (oneN ts len o) 118 _ nam1_enters n (MI_one HG.out hl ho HIH.out HL) (fun s p w h => by
  obtain ⟨_, _, vl, nl, hM⟩ := h
  exact ⟨hM.pz, hM.sz⟩) (fun s p p' w w' hp h hk hz => by
  obtain ⟨h1, h2, vl, nl, hM⟩ := h
  exact ⟨by omega, by omega, vl, nl, hM.keep HL hk hz⟩) HL.lb (by decide) (by decide) (by decide)
  ([], []) p W3 r hk ⟨Nat.zero_le _, Nat.zero_le _, _, _, hz3, nv, nb, Kd.R_nil _ _ _ _ _, Kd.R_nil _ _ _ _ _, by omega⟩ HR.out).mono ?_
 rintro e w4 ⟨hk4, h4⟩
 have HKR := Aside0.mk (keep_of_Kp hB3 hk4 (by omega) (by omega) hbw)
 cases r with
 | bad c a =>
  obtain rfl := h4
  exact ⟨rfl, HKR.out, rfl⟩
 | ok s p1 =>
  obtain ⟨rfl, _, _, vl, nl, hM4⟩ := h4
  have hz4 := hM4.pz
  have hv4 := hM4.hv
  have hR4 := hM4.rv
  have hN4 := hM4.rn
  obtain ⟨An, cn, rfl⟩ := Kd.R_slice hN4
  have HN4 := Aside0.mk hN4
  clear hM4 hN4
  have hr4 := (hk4.2.2.2.2 (w.heap.size + 1) (by omega) (by omega) (by omega)).trans nr
  obtain ⟨Av, cv, rfl⟩ := Kd.R_slice hR4
  have HZ4 := Aside0.mk hz4
  have HR4 := Aside0.mk hR4
  have HV4 := Aside0.mk hv4
  have HRES := Aside0.mk hr4
  have e0 : w4.cell? ⟨w.heap.size + 1 + 1, 0, none⟩ = some (.int .i64 6) := blk_cell hv4 0
  have e1 : w4.cell? ⟨w.heap.size + 1 + 1, 1, none⟩ = some (.int .i64 0) := blk_cell hv4 1
  have e2 : w4.cell? ⟨w.heap.size + 1 + 1, 2, none⟩ = some (.string ⟨#[]⟩) := blk_cell hv4 2
  have e3 : w4.cell? ⟨w.heap.size + 1 + 1, 3, none⟩ = some (.slice Av s.1.length cv) := blk_cell hv4 3
  have e4 : w4.cell? ⟨w.heap.size + 1 + 1, 4, none⟩ = some (.slice An s.2.length cn) := blk_cell hv4 4
  have d0 : w4.cell? ⟨w.heap.size + 1, 0, none⟩ = some (.int .i64 0) := blk_cell hr4 0
  have d1 : w4.cell? ⟨w.heap.size + 1, 1, none⟩ = some (.int .i64 0) := blk_cell hr4 1
  have d2 : w4.cell? ⟨w.heap.size + 1, 2, none⟩ = some (.string ⟨#[]⟩) := blk_cell hr4 2
  have d3 : w4.cell? ⟨w.heap.size + 1, 3, none⟩ = some (.slice none 0 0) := blk_cell hr4 3
  have d4 : w4.cell? ⟨w.heap.size + 1, 4, none⟩ = some (.slice none 0 0) := blk_cell hr4 4
  have fd : ∀ j, w4.frozen? ⟨w.heap.size + 1, j, none⟩ = false := blk_frozen hr4
  clear hz4 hR4 hv4 hr4 hz3 nb nr nv
  go_wp2
  refine bodyPost_ret (res_named _ _ (w.heap.size + 1) _ _ _ _ _ rfl (blk_set5 HRES.out _ _ _ _ _)) rfl ⟨keep5 HKR.out hbw (by omega) _ _ _ _ _, ⟨_, _, rfl, ?_, ?_⟩, ?_⟩
  · exact Kd.R_mono (Kd.R_lower (Kd.R_step (Kd.R_bound HR4.out) fun k hk1 _ => by
     have := hk1.2.1
     rw [far_set _ _ _ _ _ (by omega), far_set _ _ _ _ _ (by omega), far_set _ _ _ _ _ (by omega), far_set _ _ _ _ _ (by omega), far_set _ _ _ _ _ (by omega)]) (by omega)) (fun _ _ => trivial)
  · exact Kd.R_mono (Kd.R_lower (Kd.R_step (Kd.R_bound HN4.out) fun k hk1 _ => by
     have := hk1.2.1
     rw [far_set _ _ _ _ _ (by omega), far_set _ _ _ _ _ (by omega), far_set _ _ _ _ _ (by omega), far_set _ _ _ _ _ (by omega), far_set _ _ _ _ _ (by omega)]) (by omega)) (fun _ _ => trivial)
  · exact HZ4.out.move (by rw [far_set _ _ _ _ _ (by omega), far_set _ _ _ _ _ (by omega), far_set _ _ _ _ _ (by omega), far_set _ _ _ _ _ (by omega), far_set _ _ _ _ _ (by omega)]) (by rw [far_set _ _ _ _ _ (by omega), far_set _ _ _ _ _ (by omega), far_set _ _ _ _ _ (by omega), far_set _ _ _ _ _ (by omega), far_set _ _ _ _ _ (by omega)])
end Go.Proofs.YtamcicojockhpaaGreatDoor.Tr
end
section
set_option linter.unusedVariables false
set_option linter.unusedSimpArgs false
namespace Go.Proofs.YtamcicojockhpaaGreatDoor.Tr
open Go.RowKit Go.Proofs.YtamcicojockhpaaGreatDoorW.PrintWords Go.Proofs.YtamcicojockhpaaGreatDoorW.PrintLast Go.Proofs.YtamcicojockhpaaGreatDoorW.PrintMore
open Go.Proofs.YtamcicojockhpaaGreatDoor.Lx Go.Proofs.YtamcicojockhpaaGreatDoor.PS
attribute [local go_sem high] fld0 fld1 fld2 fld3
theorem far5' {w : World} {g b : Nat} (hne : g ≠ b) (v0 v1 v2 v3 v4 : Value) :
 (((((w.setCell ⟨b, 0, none⟩ v0).setCell ⟨b, 1, none⟩ v1).setCell ⟨b, 2, none⟩ v2).setCell ⟨b, 3, none⟩ v3).setCell ⟨b, 4, none⟩ v4).heap[g]? = w.heap[g]? := by
 rw [far_set _ _ _ _ _ hne, far_set _ _ _ _ _ hne, far_set _ _ _ _ _ hne, far_set _ _ _ _ _ hne, far_set _ _ _ _ _ hne]
theorem VQ_put {ts : List Tk} {len : Nat} {G : Obj} {g b o r p1 : Nat} {w w1 w2 : World} {v : V} {v3 v4 : Value} (hb : KeepR b w w1) (hbw : b < w.heap.size) (hgw : g < w.heap.size) (hr1 : w.heap.size ≤ r) (hr2 : r < w1.heap.size) (hq : KeepR b w1 w2) (hz : Pz ts len G g b p1 o w2)
 (h3 : k51.R 51 w2 w1.heap.size (fun _ => True) v3 v.f3) (h4 : Kd.string.R 9 w2 w1.heap.size (fun _ => True) v4 v.f4) :
 VQ ts len G g b o (.ok v p1) w (.returned (.agg #[.int .i64 v.f0, .int .i64 v.f1, .string v.f2, v3, v4]))
  (((((w2.setCell ⟨r, 0, none⟩ (.int .i64 v.f0)).setCell ⟨r, 1, none⟩ (.int .i64 v.f1)).setCell ⟨r, 2, none⟩ (.string v.f2)).setCell ⟨r, 3, none⟩ v3).setCell ⟨r, 4, none⟩ v4) := by
 have hs := hb.2.1
 refine ⟨keep5 (hb.trans hq) hbw hr1 _ _ _ _ _, ⟨v3, v4, rfl, ?_, ?_⟩, hz.move (far5' (by omega) _ _ _ _ _) (far5' (by omega) _ _ _ _ _)⟩
 · exact Kd.R_mono (Kd.R_lower (Kd.R_step (Kd.R_bound h3) fun k hk1 _ => far5' (by have := hk1.2.1; omega) _ _ _ _ _) hs) (fun _ _ => trivial)
 · exact Kd.R_mono (Kd.R_lower (Kd.R_step (Kd.R_bound h4) fun k hk1 _ => far5' (by have := hk1.2.1; omega) _ _ _ _ _) hs) (fun _ _ => trivial)
theorem Pz.lt {ts : List Tk} {len : Nat} {G : Obj} {g b p o : Nat} {w : World} (h : Pz ts len G g b p o w) : b < w.heap.size ∧ g < w.heap.size := by
 obtain ⟨⟨c, h1, _⟩, h3, _, _⟩ := h
 exact ⟨blk_lt h1, blk_lt h3⟩
theorem Pz.open {ts : List Tk} {len : Nat} {G : Obj} {g b p o : Nat} {w : World} (h : Pz ts len G g b p o w) (o' : Nat) : Pz ts len G g b p o' (w.setCell ⟨b, 1, none⟩ (.int .i64 o')) := by
 obtain ⟨⟨c, h1, h2⟩, h3, h4, h5⟩ := h
 exact ⟨⟨c, blk_put h1 1 _ rfl, h2⟩, (far_set _ _ _ _ _ h5).trans h3, h4, h5⟩
theorem res_val1 (tmps : Array Value) (w : World) (b : Nat) (v0 v1 v2 v3 v4 : Value) (h4 : tmps.getD 1 undef = .pointer (some ⟨b, 0, none⟩)) (hb : w.heap[b]? = some (.cells #[v0, v1, v2, v3, v4] 51 (0, 0))) :
 (results Tryz.f85 tmps).run Tryz.prog w = .ok (.agg #[v0, v1, v2, v3, v4]) w := by
 have c0 := blk_cell hb 0
 have c1 := blk_cell hb 1
 have c2 := blk_cell hb 2
 have c3 := blk_cell hb 3
 have c4 := blk_cell hb 4
 rw [Array.getD_eq_getD_getElem?] at h4
 simp [results, Tryz.results85, h4, c0, c1, c2, c3, c4, go_sem]
theorem res_val2 (tmps : Array Value) (w : World) (b : Nat) (v0 v1 v2 v3 v4 : Value) (h4 : tmps.getD 1 undef = .pointer (some ⟨b, 0, none⟩)) (hb : w.heap[b]? = some (.cells #[v0, v1, v2, v3, v4] 51 (0, 0))) :
 (results Tryz.f87 tmps).run Tryz.prog w = .ok (.agg #[v0, v1, v2, v3, v4]) w := by
 have c0 := blk_cell hb 0
 have c1 := blk_cell hb 1
 have c2 := blk_cell hb 2
 have c3 := blk_cell hb 3
 have c4 := blk_cell hb 4
 rw [Array.getD_eq_getD_getElem?] at h4
 simp [results, Tryz.results87, h4, c0, c1, c2, c3, c4, go_sem]
theorem res_within (tmps : Array Value) (w : World) (b : Nat) (v0 v1 v2 v3 v4 : Value) (h4 : tmps.getD 4 undef = .pointer (some ⟨b, 0, none⟩)) (hb : w.heap[b]? = some (.cells #[v0, v1, v2, v3, v4] 51 (0, 0))) :
 (results Tryz.f84 tmps).run Tryz.prog w = .ok (.agg #[v0, v1, v2, v3, v4]) w := by
 have c0 := blk_cell hb 0
 have c1 := blk_cell hb 1
 have c2 := blk_cell hb 2
 have c3 := blk_cell hb 3
 have c4 := blk_cell hb 4
 rw [Array.getD_eq_getD_getElem?] at h4
 simp [results, Tryz.results84, h4, c0, c1, c2, c3, c4, go_sem]
theorem res_value (tmps : Array Value) (w : World) (b : Nat) (v0 v1 v2 v3 v4 : Value) (h4 : tmps.getD 2 undef = .pointer (some ⟨b, 0, none⟩)) (hb : w.heap[b]? = some (.cells #[v0, v1, v2, v3, v4] 51 (0, 0))) :
 (results Tryz.f53 tmps).run Tryz.prog w = .ok (.agg #[v0, v1, v2, v3, v4]) w := by
 have c0 := blk_cell hb 0
 have c1 := blk_cell hb 1
 have c2 := blk_cell hb 2
 have c3 := blk_cell hb 3
 have c4 := blk_cell hb 4
 rw [Array.getD_eq_getD_getElem?] at h4
 simp [results, Tryz.results53, h4, c0, c1, c2, c3, c4, go_sem]
set_option maxRecDepth 100000 in
theorem val1_calls (ts : List Tk) (len : Nat) (G : Obj) (g b o p bq : Nat) (r : PRes) (w : World) (h : Pz ts len G g b p o w) (hq : w.heap[bq]? = some (.cells #[.pointer (some ⟨b, 0, none⟩)] 90 (0, 0)))
 (hA : ∀ w1, Below w.heap.size w w1 → Calls Tryz.prog 86 #[.pointer (some ⟨b, 0, none⟩)] w1 (VQ ts len G g b o r w1)) :
 Calls Tryz.prog 85 #[.pointer (some ⟨bq, 0, none⟩)] w (VQ ts len G g b o r w) := by
 have hbA := (Below.refl w.heap.size w).alloc (Nat.le_refl _) (.cells #[.int .i64 0, .int .i64 0, .string ⟨#[]⟩, .slice none 0 0, .slice none 0 0] 51 (0, 0))
 have hA1 := hA _ hbA
 have HB := Aside0.mk hbA
 obtain ⟨hbw, hgw⟩ := h.lt
 have q0 := cellA (v := .pointer (some ⟨b, 0, none⟩)) (blk_cell hq 0)
 have HZ := Aside0.mk h
 clear hbA hA h
 have hw1 := blk_new w (.cells #[.int .i64 0, .int .i64 0, .string ⟨#[]⟩, .slice none 0 0, .slice none 0 0] 51 (0, 0))
 have HA := Aside0.mk hA1
 have HW := Aside0.mk hw1
 clear hA1 hw1
 go_enter Tryz.func85, Tryz.ntmps85
 go_wp2_with fail
 refine HA.out.mono ?_
 have hs1 : (w.alloc (.cells #[.int .i64 0, .int .i64 0, .string ⟨#[]⟩, .slice none 0 0, .slice none 0 0] 51 (0, 0))).heap.size = w.heap.size + 1 := by simp
 rintro e w2 ⟨hk2, h2⟩
 generalize w.alloc (.cells #[.int .i64 0, .int .i64 0, .string ⟨#[]⟩, .slice none 0 0, .slice none 0 0] 51 (0, 0)) = W1 at *
 have hkw : KeepR b w W1 := KeepR.of_below HB.out hbw
 cases r with
 | bad c a =>
  obtain rfl := h2
  exact ⟨rfl, hkw.trans hk2, rfl⟩
 | ok v p1 =>
  obtain ⟨⟨v3, v4, rfl, h3, h4⟩, hz2⟩ := h2
  obtain ⟨A3, c3, rfl⟩ := Kd.R_slice h3
  obtain ⟨A4, c4, rfl⟩ := Kd.R_slice h4
  have hr4 := (hk2.2.2 w.heap.size (by omega) (by omega)).trans HW.out
  have d0 : w2.cell? ⟨w.heap.size, 0, none⟩ = some (.int .i64 0) := blk_cell hr4 0
  have d1 : w2.cell? ⟨w.heap.size, 1, none⟩ = some (.int .i64 0) := blk_cell hr4 1
  have d2 : w2.cell? ⟨w.heap.size, 2, none⟩ = some (.string ⟨#[]⟩) := blk_cell hr4 2
  have d3 : w2.cell? ⟨w.heap.size, 3, none⟩ = some (.slice none 0 0) := blk_cell hr4 3
  have d4 : w2.cell? ⟨w.heap.size, 4, none⟩ = some (.slice none 0 0) := blk_cell hr4 4
  have fd : ∀ j, w2.frozen? ⟨w.heap.size, j, none⟩ = false := blk_frozen hr4
  have HR4 := Aside0.mk hr4
  have HV := Aside0.mk (VQ_put hkw hbw hgw (Nat.le_refl _) (by omega) hk2 hz2 h3 h4)
  clear hr4 hz2 h3 h4 hk2 hkw
  go_wp2
  exact bodyPost_ret (res_val1 _ _ w.heap.size _ _ _ _ _ rfl (blk_set5 HR4.out _ _ _ _ _)) rfl HV.out
set_option maxRecDepth 100000 in
theorem val2_calls (ts : List Tk) (len : Nat) (G : Obj) (g b o p bq : Nat) (r : PRes) (w : World) (h : Pz ts len G g b p o w) (hq : w.heap[bq]? = some (.cells #[.pointer (some ⟨b, 0, none⟩)] 90 (0, 0)))
 (hA : ∀ w1, Below w.heap.size w w1 → Calls Tryz.prog 88 #[.pointer (some ⟨b, 0, none⟩)] w1 (VQ ts len G g b o r w1)) :
 Calls Tryz.prog 87 #[.pointer (some ⟨bq, 0, none⟩)] w (VQ ts len G g b o r w) := by
 have hbA := (Below.refl w.heap.size w).alloc (Nat.le_refl _) (.cells #[.int .i64 0, .int .i64 0, .string ⟨#[]⟩, .slice none 0 0, .slice none 0 0] 51 (0, 0))
 have hA1 := hA _ hbA
 have HB := Aside0.mk hbA
 obtain ⟨hbw, hgw⟩ := h.lt
 have q0 := cellA (v := .pointer (some ⟨b, 0, none⟩)) (blk_cell hq 0)
 have HZ := Aside0.mk h
 clear hbA hA h
 have hw1 := blk_new w (.cells #[.int .i64 0, .int .i64 0, .string ⟨#[]⟩, .slice none 0 0, .slice none 0 0] 51 (0, 0))
 have HA := Aside0.mk hA1
 have HW := Aside0.mk hw1
 clear hA1 hw1
 go_enter Tryz.func87, Tryz.ntmps87
 go_wp2_with fail
 refine HA.out.mono ?_
 have hs1 : (w.alloc (.cells #[.int .i64 0, .int .i64 0, .string ⟨#[]⟩, .slice none 0 0, .slice none 0 0] 51 (0, 0))).heap.size = w.heap.size + 1 := by simp
 rintro e w2 ⟨hk2, h2⟩
 generalize w.alloc (.cells #[.int .i64 0, .int .i64 0, .string ⟨#[]⟩, .slice none 0 0, .slice none 0 0] 51 (0, 0)) = W1 at *
 have hkw : KeepR b w W1 := KeepR.of_below HB.out hbw
 cases r with
 | bad c a =>
  obtain rfl := h2
  exact ⟨rfl, hkw.trans hk2, rfl⟩
 | ok v p1 =>
  obtain ⟨⟨v3, v4, rfl, h3, h4⟩, hz2⟩ := h2
  obtain ⟨A3, c3, rfl⟩ := Kd.R_slice h3
  obtain ⟨A4, c4, rfl⟩ := Kd.R_slice h4
  have hr4 := (hk2.2.2 w.heap.size (by omega) (by omega)).trans HW.out
  have d0 : w2.cell? ⟨w.heap.size, 0, none⟩ = some (.int .i64 0) := blk_cell hr4 0
  have d1 : w2.cell? ⟨w.heap.size, 1, none⟩ = some (.int .i64 0) := blk_cell hr4 1
  have d2 : w2.cell? ⟨w.heap.size, 2, none⟩ = some (.string ⟨#[]⟩) := blk_cell hr4 2
  have d3 : w2.cell? ⟨w.heap.size, 3, none⟩ = some (.slice none 0 0) := blk_cell hr4 3
  have d4 : w2.cell? ⟨w.heap.size, 4, none⟩ = some (.slice none 0 0) := blk_cell hr4 4
  have fd : ∀ j, w2.frozen? ⟨w.heap.size, j, none⟩ = false := blk_frozen hr4
  have HR4 := Aside0.mk hr4
  have HV := Aside0.mk (VQ_put hkw hbw hgw (Nat.le_refl _) (by omega) hk2 hz2 h3 h4)
  clear hr4 hz2 h3 h4 hk2 hkw
  go_wp2
  exact bodyPost_ret (res_val2 _ _ w.heap.size _ _ _ _ _ rfl (blk_set5 HR4.out _ _ _ _ _)) rfl HV.out
set_option maxRecDepth 100000 in
set_option maxHeartbeats 1000000 in
theorem within_calls (ts : List Tk) (len : Nat) (G : Obj) (hG : RowG ts len G) (fid : FuncId) (caps : Array Value) (hen : ∀ (args : Array Value) (w : World), (callFunc fid args).run Tryz.prog w = .ok (.enter fid args) w) (g b o p : Nat) (r : PRes) (w : World) (h : Pz ts len G g b p o w) (ho : o ≤ 8)
 (hC : o < 8 → ∀ w1, KeepR b w w1 → Pz ts len G g b p (o + 1) w1 → Calls Tryz.prog fid caps w1 (VQ ts len G g b (o + 1) r w1)) :
 Calls Tryz.prog 84 #[.pointer (some ⟨b, 0, none⟩), .func (.func fid) #[] caps] w (VQ ts len G g b o (if o = 8 then .bad 21 (tokAt ts len p).pos else r) w) := by
 obtain ⟨hbw, hgw⟩ := h.lt
 have hbA := (Below.refl w.heap.size w).alloc (Nat.le_refl _) (.cells #[.int .i64 0, .int .i64 0, .string ⟨#[]⟩, .slice none 0 0, .slice none 0 0] 51 (0, 0))
 have hzA := h.keep hbA
 have hs1 : (w.alloc (.cells #[.int .i64 0, .int .i64 0, .string ⟨#[]⟩, .slice none 0 0, .slice none 0 0] 51 (0, 0))).heap.size = w.heap.size + 1 := by simp
 have hw1 := blk_new w (.cells #[.int .i64 0, .int .i64 0, .string ⟨#[]⟩, .slice none 0 0, .slice none 0 0] 51 (0, 0))
 have HB := Aside0.mk hbA
 have HZ := Aside0.mk hzA
 have HZ0 := Aside0.mk h
 have HW := Aside0.mk hw1
 have HC := Aside0.mk hC
 have HG := Aside0.mk hG
 have HE := Aside0.mk hen
 obtain ⟨⟨cc, hbk, _⟩, _⟩ := h
 have o1 := cellA (v := .int .i64 o) (blk_cell hbk 1)
 have fb' : ∀ ob j, (w.alloc ob).frozen? ⟨b, j, none⟩ = false := fun ob j => blk_frozen (blkA hbk ob) j
 clear hbA hzA hw1 hC hG hen hbk
 by_cases ho8 : o = 8
 · have hob : ((o : Int) == 8) = true := by simp; omega
   rw [if_pos ho8]
   clear ho8
   go_enter Tryz.func84, Tryz.ntmps84
   go_wp2_with fail
   refine (refuse_calls ts len G HG.out g b p o 21 _ HZ.out).mono ?_
   rintro e w2 ⟨rfl, hb2⟩
   exact ⟨rfl, KeepR.of_below (HB.out.trans (hb2.mono (by omega))) hbw, rfl⟩
 · have hob : ((o : Int) == 8) = false := by simp; omega
   rw [if_neg ho8]
   have ho7 : o < 8 := by omega
   clear ho8
   have hn := Nat.ne_of_lt hbw
   go_enter Tryz.func84, Tryz.ntmps84
   have he := HE.out
   go_wp2_with fail
   clear he
   have hcst : ((o + 1 : Nat) : Int) = (o : Int) + 1 := by omega
   have hzo := HZ0.out.open (o + 1)
   rw [hcst] at hzo
   have hkp := (KeepR.refl b w).set 1 (.int .i64 ((o : Int) + 1))
   have hsz2 : (w.setCell ⟨b, 1, none⟩ (.int .i64 ((o : Int) + 1))).heap.size = w.heap.size := by simp [World.setCell]
   have hw2 := blk_new (w.setCell ⟨b, 1, none⟩ (.int .i64 ((o : Int) + 1))) (.cells #[.int .i64 0, .int .i64 0, .string ⟨#[]⟩, .slice none 0 0, .slice none 0 0] 51 (0, 0))
   rw [hsz2] at hw2
   have hkA := hkp.alloc hbw (.cells #[.int .i64 0, .int .i64 0, .string ⟨#[]⟩, .slice none 0 0, .slice none 0 0] 51 (0, 0))
   have hzA := hzo.keep ((Below.refl _ _).alloc (Nat.le_refl _) (.cells #[.int .i64 0, .int .i64 0, .string ⟨#[]⟩, .slice none 0 0, .slice none 0 0] 51 (0, 0)))
   have hsz3 : ((w.setCell ⟨b, 1, none⟩ (.int .i64 ((o : Int) + 1))).alloc (.cells #[.int .i64 0, .int .i64 0, .string ⟨#[]⟩, .slice none 0 0, .slice none 0 0] 51 (0, 0))).heap.size = w.heap.size + 1 := by simp [World.setCell]
   clear hzo hkp
   generalize (w.setCell ⟨b, 1, none⟩ (.int .i64 ((o : Int) + 1))).alloc (.cells #[.int .i64 0, .int .i64 0, .string ⟨#[]⟩, .slice none 0 0, .slice none 0 0] 51 (0, 0)) = W2 at *
   refine (HC.out ho7 W2 hkA hzA).mono ?_
   rintro e w3 ⟨hk3, h3⟩
   cases r with
   | bad c a =>
    obtain rfl := h3
    exact ⟨rfl, hkA.trans hk3, rfl⟩
   | ok v p1 =>
    obtain ⟨⟨v3, v4, rfl, h3, h4⟩, hz3⟩ := h3
    obtain ⟨A3, c3, rfl⟩ := Kd.R_slice h3
    obtain ⟨A4, c4, rfl⟩ := Kd.R_slice h4
    have hr3 := (hk3.2.2 w.heap.size (by omega) (by omega)).trans hw2
    have d0 : w3.cell? ⟨w.heap.size, 0, none⟩ = some (.int .i64 0) := blk_cell hr3 0
    have d1 : w3.cell? ⟨w.heap.size, 1, none⟩ = some (.int .i64 0) := blk_cell hr3 1
    have d2 : w3.cell? ⟨w.heap.size, 2, none⟩ = some (.string ⟨#[]⟩) := blk_cell hr3 2
    have d3 : w3.cell? ⟨w.heap.size, 3, none⟩ = some (.slice none 0 0) := blk_cell hr3 3
    have d4 : w3.cell? ⟨w.heap.size, 4, none⟩ = some (.slice none 0 0) := blk_cell hr3 4
    have d0' := cellA d0
    have d1' := cellA d1
    have d2' := cellA d2
    have d3' := cellA d3
    have d4' := cellA d4
    have fd' : ∀ ob j, (w3.alloc ob).frozen? ⟨w.heap.size, j, none⟩ = false := fun ob j => blk_frozen (blkA hr3 ob) j
    have HR3 := Aside0.mk hr3
    have HZ3 := Aside0.mk hz3
    have H3 := Aside0.mk h3
    have H4 := Aside0.mk h4
    have HK3 := Aside0.mk hk3
    have HKA := Aside0.mk hkA
    have hsz := hk3.2.1
    obtain ⟨⟨c9, hb3, _⟩, _⟩ := hz3
    rw [hcst] at hb3
    have b1 := cellA (v := .int .i64 ((o : Int) + 1)) (blk_cell hb3 1)
    have fb3 : ∀ ob j, (w3.alloc ob).frozen? ⟨b, j, none⟩ = false := fun ob j => blk_frozen (blkA hb3 ob) j
    have n1 : b ≠ w3.heap.size := by omega
    have n2 : w.heap.size ≠ w3.heap.size := by omega
    have n3 : w.heap.size ≠ b := by omega
    have n1' : w3.heap.size ≠ b := by omega
    have n2' : w3.heap.size ≠ w.heap.size := by omega
    have n3' : b ≠ w.heap.size := by omega
    have hsb : (o : Int) + 1 - 1 = o := by omega
    clear hr3 hk3 h3 h4 hb3 hkA hzA hw2 o1 fb'
    go_wp2
    have hba := (Below.refl w3.heap.size w3).alloc (Nat.le_refl _) (.cells #[.int .i64 v.f0, .int .i64 v.f1, .string v.f2, .slice A3 v.f3.length c3, .slice A4 v.f4.length c4] 51 (0, 0))
    refine bodyPost_ret (res_within _ _ w.heap.size _ _ _ _ _ rfl (blk_set5 (far1 (blkA HR3.out _) n3 _) _ _ _ _ _)) rfl (VQ_put HKA.out hbw hgw (Nat.le_refl _) (by omega) ((HK3.out.alloc (by omega) _).set 1 _) ((HZ3.out.keep hba).open o) ?_ ?_)
    · exact Kd.R_mono (Kd.R_step (Kd.R_bound (Kd.R_below H3.out hba)) fun k hk1 _ => far_set _ _ _ _ _ (by have := hk1.2.1; omega)) (fun _ _ => trivial)
    · exact Kd.R_mono (Kd.R_step (Kd.R_bound (Kd.R_below H4.out hba)) fun k hk1 _ => far_set _ _ _ _ _ (by have := hk1.2.1; omega)) (fun _ _ => trivial)
theorem wordV_f3 (t : List UInt8) : (wordV t).f3 = [] := by
 unfold wordV nulV
 split
 · rfl
 · split <;> rfl
theorem wordV_f4 (t : List UInt8) : (wordV t).f4 = [] := by
 unfold wordV nulV
 split
 · rfl
 · split <;> rfl
theorem val1_enters (args : Array Value) (w : World) : (callFunc 85 args).run Tryz.prog w = .ok (.enter 85 args) w := enters_ Tryz.func85 (by kernel_rfl) (by kernel_rfl) args w
theorem val2_enters (args : Array Value) (w : World) : (callFunc 87 args).run Tryz.prog w = .ok (.enter 87 args) w := enters_ Tryz.func87 (by kernel_rfl) (by kernel_rfl) args w
set_option maxRecDepth 100000 in
set_option maxHeartbeats 2000000 in
theorem value_step (ts : List Tk) (len : Nat) (G : Obj) (hG : RowG ts len G) (hl : ts.length ≤ 1000000) (n : Nat) (IH : ∀ f, f < n → ValC ts len G f) : ValC ts len G (n + 1) := by
 intro g b o p r w ho hr h
 obtain ⟨hbw, hgw⟩ := h.lt
 have HH := Aside0.mk h
 have HG := Aside0.mk hG
 have HIH := Aside0.mk IH
 have HR := Aside0.mk hr
 have hmf : ∀ (fn : Fn) (first cap : Array Value) (w : World), (Instr.makeFunc fn first cap).run Tryz.prog w = .ok (.func fn first cap) w := fun _ _ _ _ => rfl
 clear h hG IH hr
 go_enter Tryz.func53, Tryz.ntmps53
 go_wp2_with fail
 have s1 : (w.alloc (.cells #[.pointer (some ⟨b, 0, none⟩)] 90 (0, 0))).heap.size = w.heap.size + 1 := by simp
 have nb := blkA (blk_new w (.cells #[.pointer (some ⟨b, 0, none⟩)] 90 (0, 0))) (.cells #[.int .i64 0, .int .i64 0, .string ⟨#[]⟩, .slice none 0 0, .slice none 0 0] 51 (0, 0))
 have nr := blk_new (w.alloc (.cells #[.pointer (some ⟨b, 0, none⟩)] 90 (0, 0))) (.cells #[.int .i64 0, .int .i64 0, .string ⟨#[]⟩, .slice none 0 0, .slice none 0 0] 51 (0, 0))
 rw [s1] at nr
 have hB2 : Below w.heap.size w ((w.alloc (.cells #[.pointer (some ⟨b, 0, none⟩)] 90 (0, 0))).alloc (.cells #[.int .i64 0, .int .i64 0, .string ⟨#[]⟩, .slice none 0 0, .slice none 0 0] 51 (0, 0))) := ((Below.refl _ _).alloc (Nat.le_refl _) _).alloc (by simp) _
 have hs2 : ((w.alloc (.cells #[.pointer (some ⟨b, 0, none⟩)] 90 (0, 0))).alloc (.cells #[.int .i64 0, .int .i64 0, .string ⟨#[]⟩, .slice none 0 0, .slice none 0 0] 51 (0, 0))).heap.size = w.heap.size + 2 := by simp
 generalize (w.alloc (.cells #[.pointer (some ⟨b, 0, none⟩)] 90 (0, 0))).alloc (.cells #[.int .i64 0, .int .i64 0, .string ⟨#[]⟩, .slice none 0 0, .slice none 0 0] 51 (0, 0)) = W2 at *
 refine (peek_calls ts len G HG.out g b p o _ (HH.out.keep hB2)).mono ?_
 rintro e w1 ⟨rfl, hb1⟩
 have hbt := (Below.refl w1.heap.size w1).alloc (Nat.le_refl _) (.cells #[.int .i64 (tokAt ts len p).kind, .string ⟨(tokAt ts len p).text.toArray⟩, .int .i64 (tokAt ts len p).num, .int .i64 (tokAt ts len p).pos] 92 (0, 0))
 have hb3 := hb1.trans (hbt.mono hb1.size)
 have hs1' := hb1.size
 have hz3 := (HH.out.keep hB2).keep hb3
 have HZ3 := Aside0.mk hz3
 have HBP := Aside0.mk (blk_below nb hb3)
 have HRES := Aside0.mk (blk_below nr hb3)
 have HK3 := Aside0.mk (KeepR.of_below (hB2.trans (hb3.mono hB2.size)) hbw)
 have hsz3 := (hb3).size
 have q0 := fun ob => cellA (v := .pointer (some ⟨b, 0, none⟩)) (blk_cell (blk_below nb hb1) 0) ob
 have n1 : w.heap.size ≠ w1.heap.size := by omega
 clear nb nr hB2 hb1 hbt hb3 hz3 s1
 have hr := HR.out
 unfold tkV
 simp only [valP] at hr
 by_cases h8 : (tokAt ts len p).kind = 8
 · rw [if_pos h8] at hr
   injection hr with hr
   subst hr
   have hpl : p < ts.length := tok_lt (by rw [h8]; decide)
   have HK := Aside0.mk h8
   clear h8
   generalize ht : tokAt ts len p = t at *
   have HT := Aside0.mk ht
   clear ht
   have k8 : ((t.kind : Int) == 8) = true := by simp; have := HK.out; omega
   have k7 : ((t.kind : Int) == 7) = false := by simp; have := HK.out; omega
   have k9 : ((t.kind : Int) == 9) = false := by simp; have := HK.out; omega
   go_wp2_with fail
   generalize w1.alloc (.cells #[.int .i64 t.kind, .string ⟨t.text.toArray⟩, .int .i64 t.num, .int .i64 t.pos] 92) = W3 at *
   have hN := next_ok ts len G HG.out g b p o W3 HZ3.out hpl hl
   rw [HT.out, HK.out] at hN
   refine hN.mono ?_
   clear hN
   rintro e w4 ⟨rfl, hz4, hk4⟩
   unfold tkV
   have hr4 := (hk4.2.2 (w.heap.size + 1) (by omega) (by omega)).trans HRES.out
   have d0 : w4.cell? ⟨w.heap.size + 1, 0, none⟩ = some (.int .i64 0) := blk_cell hr4 0
   have d1 : w4.cell? ⟨w.heap.size + 1, 1, none⟩ = some (.int .i64 0) := blk_cell hr4 1
   have d2 : w4.cell? ⟨w.heap.size + 1, 2, none⟩ = some (.string ⟨#[]⟩) := blk_cell hr4 2
   have d3 : w4.cell? ⟨w.heap.size + 1, 3, none⟩ = some (.slice none 0 0) := blk_cell hr4 3
   have d4 : w4.cell? ⟨w.heap.size + 1, 4, none⟩ = some (.slice none 0 0) := blk_cell hr4 4
   have fd : ∀ j, w4.frozen? ⟨w.heap.size + 1, j, none⟩ = false := blk_frozen hr4
   have HR4 := Aside0.mk hr4
   have HV := Aside0.mk (VQ_put (o := o) (r := w.heap.size + 1) (v := ⟨3, t.num, ⟨#[]⟩, [], []⟩) HK3.out hbw hgw (by omega) (by omega) hk4 hz4 (Kd.R_nil _ _ _ _ _) (Kd.R_nil _ _ _ _ _))
   clear hr4 hk4 hz4
   go_wp2
   exact bodyPost_ret (res_value _ _ (w.heap.size + 1) _ _ _ _ _ rfl (blk_set5 HR4.out _ _ _ _ _)) rfl HV.out
 · rw [if_neg h8] at hr
   by_cases h7 : (tokAt ts len p).kind = 7
   · rw [if_pos h7] at hr
     injection hr with hr
     subst hr
     have hpl : p < ts.length := tok_lt (by rw [h7]; decide)
     have HK := Aside0.mk h7
     clear h7
     generalize ht : tokAt ts len p = t at *
     have HT := Aside0.mk ht
     clear ht
     have k8 : ((t.kind : Int) == 8) = false := by simp; have := HK.out; omega
     have k7 : ((t.kind : Int) == 7) = true := by simp; have := HK.out; omega
     have k9 : ((t.kind : Int) == 9) = false := by simp; have := HK.out; omega
     go_wp2_with fail
     generalize w1.alloc (.cells #[.int .i64 t.kind, .string ⟨t.text.toArray⟩, .int .i64 t.num, .int .i64 t.pos] 92) = W3 at *
     have hN := next_ok ts len G HG.out g b p o W3 HZ3.out hpl hl
     rw [HT.out, HK.out] at hN
     refine hN.mono ?_
     clear hN
     rintro e w4 ⟨rfl, hz4, hk4⟩
     unfold tkV
     have hr4 := (hk4.2.2 (w.heap.size + 1) (by omega) (by omega)).trans HRES.out
     have d0 : w4.cell? ⟨w.heap.size + 1, 0, none⟩ = some (.int .i64 0) := blk_cell hr4 0
     have d1 : w4.cell? ⟨w.heap.size + 1, 1, none⟩ = some (.int .i64 0) := blk_cell hr4 1
     have d2 : w4.cell? ⟨w.heap.size + 1, 2, none⟩ = some (.string ⟨#[]⟩) := blk_cell hr4 2
     have d3 : w4.cell? ⟨w.heap.size + 1, 3, none⟩ = some (.slice none 0 0) := blk_cell hr4 3
     have d4 : w4.cell? ⟨w.heap.size + 1, 4, none⟩ = some (.slice none 0 0) := blk_cell hr4 4
     have fd : ∀ j, w4.frozen? ⟨w.heap.size + 1, j, none⟩ = false := blk_frozen hr4
     have HR4 := Aside0.mk hr4
     have HV := Aside0.mk (VQ_put (o := o) (r := w.heap.size + 1) (v := ⟨4, 0, toB t.text, [], []⟩) HK3.out hbw hgw (by omega) (by omega) hk4 hz4 (Kd.R_nil _ _ _ _ _) (Kd.R_nil _ _ _ _ _))
     clear hr4 hk4 hz4
     go_wp2
     exact bodyPost_ret (res_value _ _ (w.heap.size + 1) _ _ _ _ _ rfl (blk_set5 HR4.out _ _ _ _ _)) rfl HV.out
   · rw [if_neg h7] at hr
     by_cases h9 : (tokAt ts len p).kind = 9
     · rw [if_pos h9] at hr
       injection hr with hr
       subst hr
       have hpl : p < ts.length := tok_lt (by rw [h9]; decide)
       have HK := Aside0.mk h9
       clear h9
       generalize ht : tokAt ts len p = t at *
       have HT := Aside0.mk ht
       clear ht
       have k8 : ((t.kind : Int) == 8) = false := by simp; have := HK.out; omega
       have k7 : ((t.kind : Int) == 7) = false := by simp; have := HK.out; omega
       have k9 : ((t.kind : Int) == 9) = true := by simp; have := HK.out; omega
       go_wp2_with fail
       generalize w1.alloc (.cells #[.int .i64 t.kind, .string ⟨t.text.toArray⟩, .int .i64 t.num, .int .i64 t.pos] 92) = W3 at *
       have hN := next_ok ts len G HG.out g b p o W3 HZ3.out hpl hl
       rw [HT.out, HK.out] at hN
       refine hN.mono ?_
       clear hN
       rintro e w4 ⟨rfl, hz4, hk4⟩
       unfold tkV
       go_wp2_with fail
       refine (word_calls t.text w4).mono ?_
       rintro e w5 ⟨rfl, hb5⟩
       have hk5 : KeepR b _ w5 := hk4.trans (KeepR.of_below hb5 (by have := hk4.2.1; omega))
       have hz5 := hz4.keep hb5
       clear hb5 hz4
       unfold leafV
       have hr4 := (hk5.2.2 (w.heap.size + 1) (by omega) (by omega)).trans HRES.out
       have d0 : w5.cell? ⟨w.heap.size + 1, 0, none⟩ = some (.int .i64 0) := blk_cell hr4 0
       have d1 : w5.cell? ⟨w.heap.size + 1, 1, none⟩ = some (.int .i64 0) := blk_cell hr4 1
       have d2 : w5.cell? ⟨w.heap.size + 1, 2, none⟩ = some (.string ⟨#[]⟩) := blk_cell hr4 2
       have d3 : w5.cell? ⟨w.heap.size + 1, 3, none⟩ = some (.slice none 0 0) := blk_cell hr4 3
       have d4 : w5.cell? ⟨w.heap.size + 1, 4, none⟩ = some (.slice none 0 0) := blk_cell hr4 4
       have fd : ∀ j, w5.frozen? ⟨w.heap.size + 1, j, none⟩ = false := blk_frozen hr4
       have HR4 := Aside0.mk hr4
       have HV := Aside0.mk (VQ_put (o := o) (r := w.heap.size + 1) (v := wordV t.text) HK3.out hbw hgw (by omega) (by omega) hk5 hz5 (by rw [wordV_f3]; exact Kd.R_nil _ _ _ _ _) (by rw [wordV_f4]; exact Kd.R_nil _ _ _ _ _))
       clear hr4 hk4 hk5 hz5
       generalize wordV t.text = v at *
       go_wp2
       exact bodyPost_ret (res_value _ _ (w.heap.size + 1) _ _ _ _ _ rfl (blk_set5 HR4.out _ _ _ _ _)) rfl HV.out
     · rw [if_neg h9] at hr
       by_cases h3 : (tokAt ts len p).kind = 3
       · rw [if_pos h3] at hr
         have HK := Aside0.mk h3
         clear h8 h7 h9 h3
         obtain ⟨r', hr', hrr⟩ : ∃ r', (o < 8 → arrP ts len n (o + 1) (p + 1) [] = some r') ∧ r = (if o = 8 then .bad 21 (tokAt ts len p).pos else r') := by
          by_cases ho8 : o = 8
          · rw [if_pos ho8] at hr
            injection hr with hr
            exact ⟨.bad 0 0, fun h => by omega, by rw [if_pos ho8]; exact hr.symm⟩
          · rw [if_neg ho8] at hr
            exact ⟨r, fun _ => hr, by rw [if_neg ho8]⟩
         have HR' := Aside0.mk hr'
         have HRR := Aside0.mk hrr
         clear hr hr' HR hrr
         generalize ht : tokAt ts len p = t at *
         have HT := Aside0.mk ht
         clear ht
         have k8 : ((t.kind : Int) == 8) = false := by simp; have := HK.out; omega
         have k7 : ((t.kind : Int) == 7) = false := by simp; have := HK.out; omega
         have k9 : ((t.kind : Int) == 9) = false := by simp; have := HK.out; omega
         have k3 : ((t.kind : Int) == 3) = true := by simp; have := HK.out; omega
         have k1 : ((t.kind : Int) == 1) = false := by simp; have := HK.out; omega
         go_wp2_with fail
         generalize w1.alloc (.cells #[.int .i64 t.kind, .string ⟨t.text.toArray⟩, .int .i64 t.num, .int .i64 t.pos] 92) = W3 at *
         have hW := within_calls ts len G HG.out 85 #[.pointer (some ⟨w.heap.size, 0, none⟩)] val1_enters g b o p r' W3 HZ3.out ho (fun ho1 w2 hk2 hz2 => by
          have hq2 := (hk2.2.2 w.heap.size (by omega) (by omega)).trans HBP.out
          exact val1_calls ts len G g b (o + 1) p w.heap.size r' w2 hz2 hq2 (fun w5 hb5 => array_calls ts len G HG.out hl n HIH.out g b (o + 1) p r' w5 (by omega) (by rw [HT.out]; exact HK.out) (HR'.out ho1) (hz2.keep hb5)))
         rw [HT.out, ← HRR.out] at hW
         refine hW.mono ?_
         clear hW
         rintro e w4 ⟨hk4, h4⟩
         cases r with
         | bad c a =>
          obtain rfl := h4
          exact ⟨rfl, HK3.out.trans hk4, rfl⟩
         | ok v p1 =>
          obtain ⟨⟨v3, v4, rfl, h3, h4⟩, hz4⟩ := h4
          obtain ⟨A3, c3, rfl⟩ := Kd.R_slice h3
          obtain ⟨A4, c4, rfl⟩ := Kd.R_slice h4
          have hr4 := (hk4.2.2 (w.heap.size + 1) (by omega) (by omega)).trans HRES.out
          have d0 : w4.cell? ⟨w.heap.size + 1, 0, none⟩ = some (.int .i64 0) := blk_cell hr4 0
          have d1 : w4.cell? ⟨w.heap.size + 1, 1, none⟩ = some (.int .i64 0) := blk_cell hr4 1
          have d2 : w4.cell? ⟨w.heap.size + 1, 2, none⟩ = some (.string ⟨#[]⟩) := blk_cell hr4 2
          have d3 : w4.cell? ⟨w.heap.size + 1, 3, none⟩ = some (.slice none 0 0) := blk_cell hr4 3
          have d4 : w4.cell? ⟨w.heap.size + 1, 4, none⟩ = some (.slice none 0 0) := blk_cell hr4 4
          have fd : ∀ j, w4.frozen? ⟨w.heap.size + 1, j, none⟩ = false := blk_frozen hr4
          have HR4 := Aside0.mk hr4
          have HV := Aside0.mk (VQ_put (o := o) (r := w.heap.size + 1) HK3.out hbw hgw (by omega) (by omega) hk4 hz4 h3 h4)
          clear hr4 hk4 hz4 h3 h4
          go_wp2
          exact bodyPost_ret (res_value _ _ (w.heap.size + 1) _ _ _ _ _ rfl (blk_set5 HR4.out _ _ _ _ _)) rfl HV.out
       · rw [if_neg h3] at hr
         by_cases h1 : (tokAt ts len p).kind = 1
         · rw [if_pos h1] at hr
           have HK := Aside0.mk h1
           clear h8 h7 h9 h3 h1
           obtain ⟨r', hr', hrr⟩ : ∃ r', (o < 8 → mapP ts len n (o + 1) (p + 1) [] [] = some r') ∧ r = (if o = 8 then .bad 21 (tokAt ts len p).pos else r') := by
            by_cases ho8 : o = 8
            · rw [if_pos ho8] at hr
              injection hr with hr
              exact ⟨.bad 0 0, fun h => by omega, by rw [if_pos ho8]; exact hr.symm⟩
            · rw [if_neg ho8] at hr
              exact ⟨r, fun _ => hr, by rw [if_neg ho8]⟩
           have HR' := Aside0.mk hr'
           have HRR := Aside0.mk hrr
           clear hr hr' HR hrr
           generalize ht : tokAt ts len p = t at *
           have HT := Aside0.mk ht
           clear ht
           have k8 : ((t.kind : Int) == 8) = false := by simp; have := HK.out; omega
           have k7 : ((t.kind : Int) == 7) = false := by simp; have := HK.out; omega
           have k9 : ((t.kind : Int) == 9) = false := by simp; have := HK.out; omega
           have k3 : ((t.kind : Int) == 3) = false := by simp; have := HK.out; omega
           have k1 : ((t.kind : Int) == 1) = true := by simp; have := HK.out; omega
           go_wp2_with fail
           generalize w1.alloc (.cells #[.int .i64 t.kind, .string ⟨t.text.toArray⟩, .int .i64 t.num, .int .i64 t.pos] 92) = W3 at *
           have hW := within_calls ts len G HG.out 87 #[.pointer (some ⟨w.heap.size, 0, none⟩)] val2_enters g b o p r' W3 HZ3.out ho (fun ho1 w2 hk2 hz2 => by
            have hq2 := (hk2.2.2 w.heap.size (by omega) (by omega)).trans HBP.out
            exact val2_calls ts len G g b (o + 1) p w.heap.size r' w2 hz2 hq2 (fun w5 hb5 => named_calls ts len G HG.out hl n HIH.out g b (o + 1) p r' w5 (by omega) (by rw [HT.out]; exact HK.out) (HR'.out ho1) (hz2.keep hb5)))
           rw [HT.out, ← HRR.out] at hW
           refine hW.mono ?_
           clear hW
           rintro e w4 ⟨hk4, h4⟩
           cases r with
           | bad c a =>
            obtain rfl := h4
            exact ⟨rfl, HK3.out.trans hk4, rfl⟩
           | ok v p1 =>
            obtain ⟨⟨v3, v4, rfl, h3, h4⟩, hz4⟩ := h4
            obtain ⟨A3, c3, rfl⟩ := Kd.R_slice h3
            obtain ⟨A4, c4, rfl⟩ := Kd.R_slice h4
            have hr4 := (hk4.2.2 (w.heap.size + 1) (by omega) (by omega)).trans HRES.out
            have d0 : w4.cell? ⟨w.heap.size + 1, 0, none⟩ = some (.int .i64 0) := blk_cell hr4 0
            have d1 : w4.cell? ⟨w.heap.size + 1, 1, none⟩ = some (.int .i64 0) := blk_cell hr4 1
            have d2 : w4.cell? ⟨w.heap.size + 1, 2, none⟩ = some (.string ⟨#[]⟩) := blk_cell hr4 2
            have d3 : w4.cell? ⟨w.heap.size + 1, 3, none⟩ = some (.slice none 0 0) := blk_cell hr4 3
            have d4 : w4.cell? ⟨w.heap.size + 1, 4, none⟩ = some (.slice none 0 0) := blk_cell hr4 4
            have fd : ∀ j, w4.frozen? ⟨w.heap.size + 1, j, none⟩ = false := blk_frozen hr4
            have HR4 := Aside0.mk hr4
            have HV := Aside0.mk (VQ_put (o := o) (r := w.heap.size + 1) HK3.out hbw hgw (by omega) (by omega) hk4 hz4 h3 h4)
            clear hr4 hk4 hz4 h3 h4
            go_wp2
            exact bodyPost_ret (res_value _ _ (w.heap.size + 1) _ _ _ _ _ rfl (blk_set5 HR4.out _ _ _ _ _)) rfl HV.out
         · rw [if_neg h1] at hr
           injection hr with hr
           subst hr
           generalize ht : tokAt ts len p = t at *
           have HT := Aside0.mk ht
           clear ht
           have k8 : ((t.kind : Int) == 8) = false := by simp; omega
           have k7 : ((t.kind : Int) == 7) = false := by simp; omega
           have k9 : ((t.kind : Int) == 9) = false := by simp; omega
           have k3 : ((t.kind : Int) == 3) = false := by simp; omega
           have k1 : ((t.kind : Int) == 1) = false := by simp; omega
           clear h8 h7 h9 h3 h1
           go_wp2_with fail
           generalize w1.alloc (.cells #[.int .i64 t.kind, .string ⟨t.text.toArray⟩, .int .i64 t.num, .int .i64 t.pos] 92) = W3 at *
           refine (refuse_calls ts len G HG.out g b p o 20 _ HZ3.out).mono ?_
           rintro e w4 ⟨rfl, hb4⟩
           exact ⟨rfl, HK3.out.trans (KeepR.of_below hb4 (by omega)), by rw [HT.out]⟩
end Go.Proofs.YtamcicojockhpaaGreatDoor.Tr
end
section
set_option linter.unusedVariables false
set_option linter.unusedSimpArgs false
namespace Go.Proofs.YtamcicojockhpaaGreatDoor.Tr
open Go.RowKit Go.Proofs.YtamcicojockhpaaGreatDoorW.PrintWords Go.Proofs.YtamcicojockhpaaGreatDoorW.PrintLast Go.Proofs.YtamcicojockhpaaGreatDoorW.PrintMore
open Go.Proofs.YtamcicojockhpaaGreatDoor.Lx Go.Proofs.YtamcicojockhpaaGreatDoor.PS
attribute [local go_sem high] fld0 fld1 fld2 fld3
theorem value_all (ts : List Tk) (len : Nat) (G : Obj) (hG : RowG ts len G) (hl : ts.length ≤ 1000000) (n : Nat) : ValC ts len G n := by
 induction n using Nat.strongRecOn with
 | _ n ih =>
  cases n with
  | zero =>
   intro g b o p r w ho hr h
   simp [valP] at hr
  | succ n => exact value_step ts len G hG hl n (fun f hf => ih f (by omega))
theorem fuel_all (ts : List Tk) (len : Nat) : ∀ f, (∀ o p, 2 * (ts.length - p) + 1 ≤ f → ∃ r, valP ts len f o p = some r) ∧ (∀ o p acc, 2 * (ts.length - p) + 2 ≤ f → ∃ r, arrP ts len f o p acc = some r) ∧ (∀ o p acc nm, 2 * (ts.length - p) + 2 ≤ f → ∃ r, mapP ts len f o p acc nm = some r)
 | 0 => ⟨fun _ _ h => by omega, fun _ _ _ h => by omega, fun _ _ _ _ h => by omega⟩
 | f + 1 => by
  obtain ⟨h1, h2, h3⟩ := fuel_all ts len f
  refine ⟨fun o p hf => ?_, fun o p acc hf => ?_, fun o p acc nm hf => ?_⟩
  · simp only [valP]
    split
    · exact ⟨_, rfl⟩
    · split
      · exact ⟨_, rfl⟩
      · split
        · exact ⟨_, rfl⟩
        · split
          · rename_i hk
            split
            · exact ⟨_, rfl⟩
            · have := tok_lt (ts := ts) (len := len) (p := p) (by rw [hk]; decide)
              exact h2 _ _ _ (by omega)
          · split
            · rename_i hk
              split
              · exact ⟨_, rfl⟩
              · have := tok_lt (ts := ts) (len := len) (p := p) (by rw [hk]; decide)
                exact h3 _ _ _ _ (by omega)
            · exact ⟨_, rfl⟩
  · simp only [arrP]
    split
    · exact ⟨_, rfl⟩
    · obtain ⟨r, hr⟩ := h1 o p (by omega)
      rw [hr]
      cases r with
      | bad c a => exact ⟨_, rfl⟩
      | ok v p1 =>
       have hlt := valP_lt' hr
       simp only
       split
       · exact ⟨_, rfl⟩
       · split
         · exact ⟨_, rfl⟩
         · rename_i hk
           split
           · exact ⟨_, rfl⟩
           · have := tok_lt (ts := ts) (len := len) (p := p1) (by rw [Decidable.not_not.1 hk]; decide)
             exact h2 _ _ _ (by omega)
  · simp only [mapP]
    split
    · exact ⟨_, rfl⟩
    · split
      · exact ⟨_, rfl⟩
      · split
        · exact ⟨_, rfl⟩
        · split
          · exact ⟨_, rfl⟩
          · obtain ⟨r, hr⟩ := h1 o (p + 2) (by omega)
            rw [hr]
            cases r with
            | bad c a => exact ⟨_, rfl⟩
            | ok v p1 =>
             have hlt := valP_lt' hr
             simp only
             split
             · exact ⟨_, rfl⟩
             · split
               · exact ⟨_, rfl⟩
               · rename_i hk
                 split
                 · exact ⟨_, rfl⟩
                 · have := tok_lt (ts := ts) (len := len) (p := p1) (by rw [Decidable.not_not.1 hk]; decide)
                   exact h3 _ _ _ _ (by omega)
theorem tksCs_get : ∀ (ts : List Tk) (i j : Nat) (t : Tk), ts[i]? = some t → j < 4 → (tksCs ts)[4 * i + j]? = (tkCs t)[j]?
 | [], i, j, t, h, _ => by simp at h
 | x :: ts, 0, j, t, h, hj => by
  simp at h
  subst h
  have : tksCs (x :: ts) = tkCs x ++ tksCs ts := by simp [tksCs]
  rw [this, Nat.mul_zero, Nat.zero_add, List.getElem?_append_left (by simpa [tkCs] using hj)]
 | x :: ts, i + 1, j, t, h, hj => by
  have : tksCs (x :: ts) = tkCs x ++ tksCs ts := by simp [tksCs]
  rw [this, List.getElem?_append_right (by simp [tkCs]; omega)]
  have e : 4 * (i + 1) + j - (tkCs x).length = 4 * i + j := by simp [tkCs]; omega
  rw [e]
  exact tksCs_get ts i j t (by simpa using h) hj
theorem rowG_of {ts : List Tk} {len : Nat} {w : World} {base : Nat} {v : Value} (h : w.ownsRow base 92 4 v (ts.length + 1) (tksCs ts ++ tkCs ⟨0, [], 0, len⟩)) :
 ∃ g c G, v = .slice (some ⟨g, 0, none⟩) (ts.length + 1) c ∧ base ≤ g ∧ w.heap[g]? = some G ∧ RowG ts len G ∧ ts.length + 1 ≤ c := by
 rcases h.2 with ⟨_, h2⟩ | ⟨g, c, cur, hv, hg, hh, r1, r2, r3, r4⟩
 · omega
 · refine ⟨g, c, _, hv, hg, hh, ⟨cur, rfl, fun i hi => ?_⟩, r1⟩
   have hget : ∀ j, j < 4 → cur[4 * i + j]? = (tkCs (tokAt ts len i))[j]? := by
    intro j hj
    have e1 : cur[4 * i + j]? = (cur.toList.take ((ts.length + 1) * 4))[4 * i + j]? := by
     rw [List.getElem?_take, if_pos (by omega)]
     simp
    rw [e1, r4]
    have e2 : tksCs ts ++ tkCs ⟨0, [], 0, len⟩ = tksCs (ts ++ [⟨0, [], 0, len⟩]) := tksCs_snoc _ _
    rw [e2]
    refine tksCs_get _ _ _ _ ?_ hj
    unfold tokAt
    rcases Nat.lt_or_ge i ts.length with h1 | h1
    · rw [List.getElem?_append_left h1, List.getD_eq_getElem?_getD, List.getElem?_eq_getElem h1]
      rfl
    · obtain rfl : i = ts.length := by omega
      rw [List.getElem?_append_right (Nat.le_refl _), List.getD_eq_getElem?_getD, List.getElem?_eq_none (Nat.le_refl _)]
      simp
   exact ⟨hget 0 (by omega), hget 1 (by omega), hget 2 (by omega), hget 3 (by omega)⟩
end Go.Proofs.YtamcicojockhpaaGreatDoor.Tr
end
section
set_option linter.unusedVariables false
set_option linter.unusedSimpArgs false
namespace Go.Proofs.YtamcicojockhpaaGreatDoor.Lx
open Go
theorem toksR_len' (l : List UInt8) : ∀ (f i : Nat) (acc ts : List Tk), toksR l f i acc = .inl ts → ts.length + i ≤ acc.length + max i l.length
 | 0, _, _, _, h => by cases h
 | f + 1, i, acc, ts, h => by
  rw [toksR] at h
  split at h
  · cases h
    omega
  · split at h
    · cases h
    · rename_i tk a2 hx
      have hst := nextR_step hx
      have := toksR_len' l f _ _ ts h
      rw [List.length_append] at this
      simp only [List.length_cons, List.length_nil] at this
      omega
end Go.Proofs.YtamcicojockhpaaGreatDoor.Lx
end
section
set_option linter.unusedVariables false
set_option linter.unusedSimpArgs false
namespace Go.Proofs.YtamcicojockhpaaGreatDoor.Lx
open Go
def writtenR (k : Int) (t : List UInt8) (n : Int) : Option (List UInt8) :=
 if 1 ≤ k ∧ k ≤ 6 then some [singles.getD (k.toNat - 1) 0] else if k = 10 then some [10] else if k = 7 then some (quoteR t) else if k = 8 then some (Lib.itoa n) else if k = 9 ∧ isWord t = true then some t else none
structure JT where
 k : Int
 t : List UInt8
 n : Int
 a : Int
theorem isWord_cases {t : List UInt8} (h : isWord t = true) : t = wTrue ∨ t = wFalse ∨ t = wNull := by
 unfold isWord at h
 simp only [Bool.or_eq_true, beq_iff_eq] at h
 rcases h with (h | h) | h
 · exact .inl h
 · exact .inr (.inl h)
 · exact .inr (.inr h)
def bareT (t : Tk) : Nat × List UInt8 × Int := (t.kind, t.text, t.num)
def bareJ (x : JT) : Nat × List UInt8 × Int := (x.k.toNat, if x.k = 7 ∨ x.k = 9 then x.t else [], if x.k = 8 then x.n else 0)
def tkJ (t : Tk) : JT := ⟨t.kind, t.text, t.num, t.pos⟩
theorem singles_at (c : UInt8) (h : 0 ≤ Lib.indexByte singles c) : (Lib.indexByte singles c).toNat + 1 ≤ 6 := by
 have key : ∀ n : Nat, n < 256 → 0 ≤ Lib.indexByte singles (UInt8.ofNat n) → (Lib.indexByte singles (UInt8.ofNat n)).toNat + 1 ≤ 6 := by decide +kernel
 have := key c.toNat (UInt8.toNat_lt c)
 rw [UInt8.ofNat_toNat] at this
 exact this h
theorem runeB_len (n : Nat) : (runeB n).length ≤ 3 := by
 unfold runeB
 split
 · simp
 · split <;> simp
theorem escR_len {l : List UInt8} {a : Nat} {o : List UInt8} {a2 : Nat} (h : escR l a = some (o, a2)) : o.length ≤ 3 := by
 unfold escR at h
 split at h
 · cases h
 · split at h
   · cases h; simp
   · split at h
     · cases h
     · split at h
       · cases h
       · split at h
         · cases h
         · cases h
           exact runeB_len _
theorem textR_len {l : List UInt8} : ∀ {f a : Nat} {acc o : List UInt8} {a2 : Nat}, textR l f a acc = some (o, a2) → o.length ≤ acc.length + 3 * f
 | 0, _, _, _, _, h => by cases h
 | f + 1, a, acc, o, a2, h => by
  rw [textR] at h
  split at h
  · cases h
  · split at h
    · cases h; omega
    · split at h
      · cases h
      · split at h
        · split at h
          · cases h
          · rename_i o1 a3 he
            have := textR_len h
            have := escR_len he
            rw [List.length_append] at *
            omega
        · have := textR_len h
          rw [List.length_append] at this
          simp at this
          omega
def TkOk (L : Nat) (t : Tk) : Prop := (writtenR t.kind t.text t.num).isSome = true ∧ (-9223372036854775808 ≤ t.num ∧ t.num ≤ 9223372036854775807) ∧ bareJ (tkJ t) = bareT t ∧ t.kind ≤ 10 ∧ t.text.length ≤ 3 * (L + 1)
theorem numR_range {neg : Bool} {ds : List UInt8} {v : Int} (hd : ∀ c ∈ ds, isDigit c = true) (h : numR neg ds = some v) : -9223372036854775808 ≤ v ∧ v ≤ 9223372036854775807 := by
 rw [numR_eq neg ds hd] at h
 (repeat' split at h) <;> first | (cases h; omega) | cases h
theorem takeWhile_mem (p : UInt8 → Bool) (l : List UInt8) : ∀ c ∈ l.takeWhile p, p c = true := by
 intro c hc
 induction l with
 | nil => cases hc
 | cons a l ih =>
  rw [List.takeWhile_cons] at hc
  split at hc
  · rcases List.mem_cons.1 hc with rfl | hc
    · assumption
    · exact ih hc
  · cases hc
theorem nextR_ok {l : List UInt8} {a : Nat} {t : Tk} {a2 : Nat} (h : nextR l a = some (t, a2)) : TkOk l.length t ∧ t.pos = a := by
 unfold nextR at h
 split at h
 · cases h
 · rename_i c hc
   split at h
   · rename_i q
     cases h
     have := singles_at c q
     have hk : (1 : Int) ≤ (((Lib.indexByte singles c).toNat + 1 : Nat) : Int) ∧ (((Lib.indexByte singles c).toNat + 1 : Nat) : Int) ≤ 6 := by omega
     refine ⟨⟨?_, by simp, ?_, by simp only; omega, by simp⟩, rfl⟩
     · show (writtenR (((Lib.indexByte singles c).toNat + 1 : Nat) : Int) _ _).isSome = true
       unfold writtenR
       rw [if_pos hk]
       rfl
     · unfold bareJ bareT tkJ
       simp only [Int.toNat_natCast, ite_self]
   · split at h
     · cases h
       exact ⟨⟨by rfl, by simp, by rfl, by simp, by simp⟩, rfl⟩
     · split at h
       · obtain ⟨x, h1, h2⟩ := Option.map_eq_some_iff.1 h
         cases h2
         have := textR_len (a2 := x.2) h1
         simp at this
         refine ⟨⟨by rfl, by simp, by rfl, by simp, by simpa using this⟩, rfl⟩
       · split at h
         · obtain ⟨v, h1, h2⟩ := Option.map_eq_some_iff.1 h
           cases h2
           exact ⟨⟨by rfl, numR_range (takeWhile_mem _ _) h1, by rfl, by simp, by simp⟩, rfl⟩
         · split at h
           · obtain ⟨v, h1, h2⟩ := Option.map_eq_some_iff.1 h
             cases h2
             exact ⟨⟨by rfl, numR_range (takeWhile_mem _ _) h1, by rfl, by simp, by simp⟩, rfl⟩
           · split at h
             · rename_i q
               cases h
               have hw : ∀ t : List UInt8, isWord t = true → (writtenR 9 t 0).isSome = true ∧ t.length ≤ 5 := fun t ht => by
                unfold writtenR
                rw [if_neg (by decide), if_neg (by decide), if_neg (by decide), if_neg (by decide), if_pos ⟨rfl, ht⟩]
                refine ⟨rfl, ?_⟩
                rcases isWord_cases ht with rfl | rfl | rfl <;> decide
               obtain ⟨w1, w2⟩ := hw _ q
               by_cases hz : 1 ≤ l.length
               · exact ⟨⟨w1, by simp, by rfl, by simp, by simp only; omega⟩, rfl⟩
               · have := (List.getElem?_eq_some_iff.1 hc).1
                 omega
             · cases h
theorem toksR_ok (l : List UInt8) : ∀ (f i : Nat) (acc ts : List Tk), toksR l f i acc = .inl ts → ∃ rs, ts = acc ++ rs ∧ (∀ x ∈ rs, TkOk l.length x ∧ i ≤ x.pos ∧ x.pos < l.length) ∧ (∀ j (h : j + 1 < rs.length), rs[j].pos < rs[j + 1].pos)
 | 0, _, _, _, h => by cases h
 | f + 1, i, acc, ts, h => by
  rw [toksR] at h
  split at h
  · cases h
    exact ⟨[], by simp, by simp, by simp⟩
  · split at h
    · cases h
    · rename_i tk a2 hx
      have hst := nextR_step hx
      obtain ⟨ho, hp⟩ := nextR_ok hx
      obtain ⟨rs, h1, h2, h3⟩ := toksR_ok l f _ _ ts h
      refine ⟨tk :: rs, by rw [h1]; simp, ?_, ?_⟩
      · intro x hxm
        rcases List.mem_cons.1 hxm with rfl | hxm
        · exact ⟨ho, by omega, by omega⟩
        · obtain ⟨g1, g2, g3⟩ := h2 x hxm
          exact ⟨g1, by omega, g3⟩
      · intro j hj
        cases j with
        | zero =>
         have hl : 0 < rs.length := by simpa using hj
         have := (h2 (rs[0]) (List.getElem_mem hl)).2.1
         simp only [List.getElem_cons_zero, List.getElem_cons_succ, Nat.zero_add]
         omega
        | succ j =>
         simp only [List.getElem_cons_succ]
         exact h3 j (by simpa using hj)
theorem tokensR_ok {l : List UInt8} {ts : List Tk} {p : Nat} (h : tokensR l = (ts, 0, p)) : (∀ x ∈ ts, TkOk l.length x ∧ x.pos < l.length) ∧ (∀ j (h : j + 1 < ts.length), ts[j].pos < ts[j + 1].pos) ∧ l.length ≤ 65536 := by
 unfold tokensR at h
 split at h
 · cases h
 · split at h
   · rename_i rs hr
     cases h
     obtain ⟨qs, h1, h2, h3⟩ := toksR_ok l _ _ _ _ hr
     have : ts = qs := by simpa using h1
     subst this
     exact ⟨fun x hx => ⟨(h2 x hx).1, (h2 x hx).2.2⟩, h3, by omega⟩
   · cases h
end Go.Proofs.YtamcicojockhpaaGreatDoor.Lx
end
section
set_option linter.unusedVariables false
set_option linter.unusedSimpArgs false
namespace Go.Proofs.YtamcicojockhpaaGreatDoor.Tr
open Go Go.Proofs.YtamcicojockhpaaGreatDoor.Lx Go.Proofs.YtamcicojockhpaaGreatDoor.PS
theorem fb_true : Lib.formatBool true = wTru := by decide +kernel
theorem fb_false : Lib.formatBool false = wFalse := by decide +kernel
theorem bareV_kind {x : V} (h : bareV x = true) : 1 ≤ x.f0 ∧ x.f0 ≤ 6 := by
 unfold bareV bareR at h
 (repeat' split at h) <;> first | omega | cases h
theorem sound_bare {d : Nat} {x : V} (h : soundR d x = true) : bareV x = true := by
 cases d <;> simp only [soundR, Bool.and_eq_true] at h
 · exact h.1.2
 · exact h.1.1
def Has (ts : List Tk) (p : Nat) (J : List JT) : Prop := J.map bareJ <+: (ts.map bareT).drop p
theorem Has.right {ts : List Tk} {p : Nat} {a b : List JT} (h : Has ts p (a ++ b)) : Has ts (p + a.length) b := by
 unfold Has at *
 obtain ⟨m, hm⟩ := h
 refine ⟨m, ?_⟩
 rw [← List.drop_drop, ← hm, List.map_append, List.append_assoc, List.drop_left' (by simp)]
theorem Has.cons {ts : List Tk} {p : Nat} {a : JT} {b : List JT} (h : Has ts p (a :: b)) : Has ts (p + 1) b := Has.right (a := [a]) h
theorem Has.at {ts : List Tk} {p : Nat} {a : JT} {b : List JT} (h : Has ts p (a :: b)) (len : Nat) : (tokAt ts len p).kind = a.k.toNat ∧ (tokAt ts len p).text = (if a.k = 7 ∨ a.k = 9 then a.t else []) ∧ (tokAt ts len p).num = (if a.k = 8 then a.n else 0) := by
 obtain ⟨m, hm⟩ := h
 have h1 : (ts.map bareT)[p]? = some (bareJ a) := by
  have : ((ts.map bareT).drop p)[0]? = some (bareJ a) := by rw [← hm]; rfl
  rw [List.getElem?_drop] at this
  exact this
 rw [List.getElem?_map] at h1
 obtain ⟨t, ht, e⟩ := Option.map_eq_some_iff.1 h1
 have e2 : tokAt ts len p = t := by simp [tokAt, ht]
 rw [e2]
 unfold bareT bareJ at e
 simp only [Prod.mk.injEq] at e
 exact e
theorem toB_list (a : ByteArray) : toB a.data.toList = a := by cases a; rfl
theorem bareV_leaf {x : V} (h : bareV x = true) (h5 : x.f0 ≠ 5) (h6 : x.f0 ≠ 6) : x.f3 = [] ∧ x.f4 = [] := by
 unfold bareV bareR at h
 rw [if_neg h5, if_neg h6] at h
 have : x.f3.length + x.f4.length = 0 := by
  repeat' split at h
  all_goals simp at h
  all_goals simp [h]
 exact ⟨List.length_eq_zero_iff.1 (by omega), List.length_eq_zero_iff.1 (by omega)⟩
def numsR : Nat → V → Prop
 | 0, x => -9223372036854775808 ≤ x.f1 ∧ x.f1 ≤ 9223372036854775807
 | d + 1, x => (-9223372036854775808 ≤ x.f1 ∧ x.f1 ≤ 9223372036854775807) ∧ ∀ y ∈ x.f3, numsR d y
end Go.Proofs.YtamcicojockhpaaGreatDoor.Tr
end
section
set_option linter.unusedVariables false
set_option linter.unusedSimpArgs false
namespace Go.Proofs.YtamcicojockhpaaGreatDoor.Tr
open Go Go.Proofs.YtamcicojockhpaaGreatDoor.Lx Go.Proofs.YtamcicojockhpaaGreatDoor.PS
structure Ok (d : Nat) (x : V) : Prop where
 s : soundR d x = true
 n : numsR d x
 f : fitsR d x
theorem ok_leaf (d : Nat) (x : V) (hb : bareV x = true) (h5 : x.f0 ≠ 5) (h6 : x.f0 ≠ 6) (hn : -9223372036854775808 ≤ x.f1 ∧ x.f1 ≤ 9223372036854775807) : Ok d x := by
 obtain ⟨h3, h4⟩ := bareV_leaf hb h5 h6
 have e5 : (x.f0 == 5) = false := beq_eq_false_iff_ne.2 h5
 have e6 : (x.f0 == 6) = false := beq_eq_false_iff_ne.2 h6
 cases d with
 | zero => exact ⟨by simp [soundR, hb, e5, e6, h4], hn, by simp [fitsR, h3, h4]⟩
 | succ d => exact ⟨by simp [soundR, hb, h3, h4], ⟨hn, by simp [h3]⟩, by simp [fitsR, h3, h4]⟩
theorem ok_arr (d : Nat) (l : List V) (hl : l.length ≤ 1000000000000) (h : ∀ y ∈ l, Ok d y) : Ok (d + 1) ⟨5, 0, ⟨#[]⟩, l, []⟩ := by
 refine ⟨?_, ⟨⟨by show (-9223372036854775808 : Int) ≤ 0; decide, by show (0 : Int) ≤ 9223372036854775807; decide⟩, fun y hy => (h y hy).n⟩, ⟨hl, by simp, fun y hy => (h y hy).f⟩⟩
 simp only [soundR, Bool.and_eq_true, List.all_eq_true]
 exact ⟨⟨rfl, by simp⟩, fun y hy => (h y hy).s⟩
theorem ok_map (d : Nat) (l : List V) (nm : List ByteArray) (hl : l.length ≤ 1000000000000) (hm : nm.length = l.length) (hnd : nm.Nodup) (h : ∀ y ∈ l, Ok d y) : Ok (d + 1) ⟨6, 0, ⟨#[]⟩, l, nm⟩ := by
 refine ⟨?_, ⟨⟨by show (-9223372036854775808 : Int) ≤ 0; decide, by show (0 : Int) ≤ 9223372036854775807; decide⟩, fun y hy => (h y hy).n⟩, ⟨hl, by show nm.length ≤ _; omega, fun y hy => (h y hy).f⟩⟩
 simp only [soundR, Bool.and_eq_true, List.all_eq_true, decide_eq_true_eq]
 refine ⟨⟨?_, hnd⟩, fun y hy => (h y hy).s⟩
 simp [bareV, bareR, hm]
theorem word_bare (t : List UInt8) : bareV (wordV t) = true ∧ (wordV t).f0 ≠ 5 ∧ (wordV t).f0 ≠ 6 ∧ (-9223372036854775808 ≤ (wordV t).f1 ∧ (wordV t).f1 ≤ 9223372036854775807) := by
 unfold wordV
 split
 · exact ⟨rfl, by decide, by decide, by decide, by decide⟩
 · split
   · exact ⟨rfl, by decide, by decide, by decide, by decide⟩
   · exact ⟨rfl, by decide, by decide, by decide, by decide⟩
theorem tok_in {ts : List Tk} {len p : Nat} (h : (tokAt ts len p).kind ≠ 0) : p < ts.length := by
 rcases Nat.lt_or_ge p ts.length with h1 | h1
 · exact h1
 · exfalso
   apply h
   unfold tokAt
   rw [List.getD_eq_getElem?_getD, List.getElem?_eq_none h1]
   rfl
theorem hasN_mem {t : List UInt8} {nm : List ByteArray} (h : ¬ hasN t nm = true) : toB t ∉ nm := by
 intro hm
 apply h
 unfold hasN
 rw [List.any_eq_true]
 exact ⟨toB t, hm, by simp [toB]⟩
structure TsOk (ts : List Tk) (len : Nat) : Prop where
 l : ts.length ≤ 1000000
 n : ∀ p, -9223372036854775808 ≤ (tokAt ts len p).num ∧ (tokAt ts len p).num ≤ 9223372036854775807
 p : ∀ p, (tokAt ts len p).pos ≤ len
def RES (ts : List Tk) (len d p : Nat) : PRes → Prop
 | .ok v p1 => Ok d v ∧ p < p1 ∧ p1 ≤ ts.length
 | .bad c a => c ≠ 0 ∧ a ≤ len
def RESA (ts : List Tk) (len d p : Nat) : PRes → Prop
 | .ok v p1 => (∃ l, v = ⟨5, 0, ⟨#[]⟩, l, []⟩ ∧ (∀ y ∈ l, Ok d y) ∧ l.length ≤ p1) ∧ p < p1 ∧ p1 ≤ ts.length
 | .bad c a => c ≠ 0 ∧ a ≤ len
def RESM (ts : List Tk) (len d p : Nat) : PRes → Prop
 | .ok v p1 => (∃ l nm, v = ⟨6, 0, ⟨#[]⟩, l, nm⟩ ∧ (∀ y ∈ l, Ok d y) ∧ l.length ≤ p1 ∧ nm.length = l.length ∧ nm.Nodup) ∧ p < p1 ∧ p1 ≤ ts.length
 | .bad c a => c ≠ 0 ∧ a ≤ len
theorem arr_ok {ts : List Tk} {len n d o : Nat} (T : TsOk ts len) (hrow : ∀ f', f' ≤ n → ∀ p r, valP ts len f' o p = some r → RES ts len d p r) : ∀ (f : Nat), f ≤ n → ∀ (p : Nat) (acc : List V) (r : PRes),
 (∀ y ∈ acc, Ok d y) → acc.length ≤ p → arrP ts len f o p acc = some r → RESA ts len d p r
 | 0, _, p, acc, r, _, _, e => by simp [arrP] at e
 | f + 1, hf, p, acc, r, ha, hl, e => by
  simp only [arrP] at e
  split at e
  · rename_i q
    have := tok_in (ts := ts) (len := len) (p := p) (by omega)
    cases e
    exact ⟨⟨acc, rfl, ha, by omega⟩, by omega, by omega⟩
  · cases hv : valP ts len f o p with
    | none => rw [hv] at e; cases e
    | some r1 =>
     rw [hv] at e
     have h1 := hrow f (by omega) p r1 hv
     cases r1 with
     | bad c a =>
      cases e
      exact h1
     | ok v p1 =>
      obtain ⟨k1, k2, k3⟩ := h1
      have ha2 : ∀ y ∈ acc ++ [v], Ok d y := by
       intro y hy
       rcases List.mem_append.1 hy with hy | hy
       · exact ha y hy
       · rw [List.mem_singleton.1 hy]; exact k1
      simp only at e
      split at e
      · rename_i q
        have := tok_in (ts := ts) (len := len) (p := p1) (by omega)
        cases e
        exact ⟨⟨acc ++ [v], rfl, ha2, by simp; omega⟩, by omega, by omega⟩
      · split at e
        · cases e
          exact ⟨by decide, T.p _⟩
        · split at e
          · cases e
            exact ⟨by decide, T.p _⟩
          · have := arr_ok T hrow f (by omega) (p1 + 1) (acc ++ [v]) r ha2 (by simp; omega) e
            cases r with
            | bad c a => exact this
            | ok v' p' => exact ⟨this.1, by have := this.2.1; omega, this.2.2⟩
theorem map_ok {ts : List Tk} {len n d o : Nat} (T : TsOk ts len) (hrow : ∀ f', f' ≤ n → ∀ p r, valP ts len f' o p = some r → RES ts len d p r) : ∀ (f : Nat), f ≤ n → ∀ (p : Nat) (acc : List V) (nm : List ByteArray) (r : PRes),
 (∀ y ∈ acc, Ok d y) → acc.length ≤ p → nm.length = acc.length → nm.Nodup → mapP ts len f o p acc nm = some r → RESM ts len d p r
 | 0, _, p, acc, nm, r, _, _, _, _, e => by simp [mapP] at e
 | f + 1, hf, p, acc, nm, r, ha, hl, hm, hnd, e => by
  simp only [mapP] at e
  split at e
  · rename_i q
    have := tok_in (ts := ts) (len := len) (p := p) (by omega)
    cases e
    exact ⟨⟨acc, nm, rfl, ha, by omega, hm, hnd⟩, by omega, by omega⟩
  · split at e
    · cases e
      exact ⟨by decide, T.p _⟩
    · split at e
      · cases e
        exact ⟨by decide, T.p _⟩
      · rename_i qn
        split at e
        · cases e
          exact ⟨by decide, T.p _⟩
        · cases hv : valP ts len f o (p + 2) with
          | none => rw [hv] at e; cases e
          | some r1 =>
           rw [hv] at e
           have h1 := hrow f (by omega) (p + 2) r1 hv
           cases r1 with
           | bad c a =>
            cases e
            exact h1
           | ok v p1 =>
            obtain ⟨k1, k2, k3⟩ := h1
            have ha2 : ∀ y ∈ acc ++ [v], Ok d y := by
             intro y hy
             rcases List.mem_append.1 hy with hy | hy
             · exact ha y hy
             · rw [List.mem_singleton.1 hy]; exact k1
            have hnd2 : (nm ++ [toB (tokAt ts len p).text]).Nodup := by
             rw [List.nodup_append]
             exact ⟨hnd, by simp, fun a ha b hb => by
              rw [List.mem_singleton.1 hb]
              rintro rfl
              exact hasN_mem qn ha⟩
            simp only at e
            split at e
            · rename_i q
              have := tok_in (ts := ts) (len := len) (p := p1) (by omega)
              cases e
              exact ⟨⟨acc ++ [v], _, rfl, ha2, by simp; omega, by simp [hm], hnd2⟩, by omega, by omega⟩
            · split at e
              · cases e
                exact ⟨by decide, T.p _⟩
              · split at e
                · cases e
                  exact ⟨by decide, T.p _⟩
                · have := map_ok T hrow f (by omega) (p1 + 1) (acc ++ [v]) _ r ha2 (by simp; omega) (by simp [hm]) hnd2 e
                  cases r with
                  | bad c a => exact this
                  | ok v' p' => exact ⟨this.1, by have := this.2.1; omega, this.2.2⟩
theorem val_ok {ts : List Tk} {len : Nat} (T : TsOk ts len) : ∀ (n f o p : Nat) (r : PRes), f ≤ n → o ≤ 8 → valP ts len f o p = some r → RES ts len (8 - o) p r
 | n, 0, o, p, r, _, _, e => by simp [valP] at e
 | 0, f + 1, o, p, r, hn, _, e => by omega
 | n + 1, f + 1, o, p, r, hn, ho, e => by
  simp only [valP] at e
  split at e
  · have := tok_in (ts := ts) (len := len) (p := p) (by omega)
    cases e
    exact ⟨ok_leaf _ _ (by simp [bareV, bareR]) (by show (3 : Int) ≠ 5; decide) (by show (3 : Int) ≠ 6; decide) (T.n p), by omega, by omega⟩
  · split at e
    · have := tok_in (ts := ts) (len := len) (p := p) (by omega)
      cases e
      exact ⟨ok_leaf _ _ (by simp [bareV, bareR]) (by show (4 : Int) ≠ 5; decide) (by show (4 : Int) ≠ 6; decide) ⟨by show (-9223372036854775808 : Int) ≤ 0; decide, by show (0 : Int) ≤ 9223372036854775807; decide⟩, by omega, by omega⟩
    · split at e
      · have := tok_in (ts := ts) (len := len) (p := p) (by omega)
        cases e
        obtain ⟨h1, h2, h3, h4⟩ := word_bare (tokAt ts len p).text
        exact ⟨ok_leaf _ _ h1 h2 h3 h4, by omega, by omega⟩
      · split at e
        · split at e
          · cases e
            exact ⟨by decide, T.p _⟩
          · rename_i h8
            have hd : 8 - o = (8 - (o + 1)) + 1 := by omega
            have := arr_ok T (fun f' h p r e => val_ok T n f' (o + 1) p r h (by omega) e) f (by omega) (p + 1) [] r (by simp) (by simp) e
            cases r with
            | bad c a => exact this
            | ok v p1 =>
             obtain ⟨⟨l, rfl, h1, h2⟩, h3, h4⟩ := this
             have := T.l
             exact ⟨hd ▸ ok_arr _ l (by omega) h1, by omega, h4⟩
        · split at e
          · split at e
            · cases e
              exact ⟨by decide, T.p _⟩
            · rename_i h8
              have hd : 8 - o = (8 - (o + 1)) + 1 := by omega
              have := map_ok T (fun f' h p r e => val_ok T n f' (o + 1) p r h (by omega) e) f (by omega) (p + 1) [] [] r (by simp) (by simp) rfl (by simp) e
              cases r with
              | bad c a => exact this
              | ok v p1 =>
               obtain ⟨⟨l, nm, rfl, h1, h2, h5, h6⟩, h3, h4⟩ := this
               have := T.l
               exact ⟨hd ▸ ok_map _ l nm (by omega) h5 h6 h1, by omega, h4⟩
          · cases e
            exact ⟨by decide, T.p _⟩
theorem tsOk_of {l : List UInt8} {ts : List Tk} {p : Nat} (h : tokensR l = (ts, 0, p)) : TsOk ts l.length := by
 obtain ⟨h1, h2, h3⟩ := tokensR_ok h
 have hg : ∀ q, (∃ t ∈ ts, tokAt ts l.length q = t) ∨ tokAt ts l.length q = ⟨0, [], 0, l.length⟩ := by
  intro q
  unfold tokAt
  rw [List.getD_eq_getElem?_getD]
  rcases Nat.lt_or_ge q ts.length with hq | hq
  · rw [List.getElem?_eq_getElem hq]
    exact .inl ⟨ts[q], List.getElem_mem _, rfl⟩
  · rw [List.getElem?_eq_none hq]
    exact .inr rfl
 refine ⟨?_, fun q => ?_, fun q => ?_⟩
 · have hh : ts.length ≤ l.length := by
    unfold tokensR at h
    rw [if_neg (by omega)] at h
    cases hx : toksR l (l.length + 1) 0 [] with
    | inl y =>
     rw [hx] at h
     have := toksR_len' l _ _ _ _ hx
     simp only [Prod.mk.injEq] at h
     rw [← h.1]
     simpa using this
    | inr y => rw [hx] at h; simp at h
   omega
 · rcases hg q with ⟨t, ht, e⟩ | e
   · rw [e]; exact (h1 t ht).1.2.1
   · rw [e]; exact ⟨by show (-9223372036854775808 : Int) ≤ 0; decide, by show (0 : Int) ≤ 9223372036854775807; decide⟩
 · rcases hg q with ⟨t, ht, e⟩ | e
   · rw [e]; exact Nat.le_of_lt (h1 t ht).2
   · rw [e]; exact Nat.le_refl _
theorem tokensR_fault {l : List UInt8} {ts : List Tk} {c p : Nat} (h : tokensR l = (ts, c, p)) : (c = 0 ∧ p = 0) ∨ p ≤ l.length := by
 unfold tokensR at h
 split at h
 · cases h
   exact .inr (by omega)
 · split at h
   · cases h
     exact .inl ⟨rfl, rfl⟩
   · rename_i a ha
     cases h
     refine .inr ?_
     have : ∀ (f i : Nat) (acc : List Tk) (a : Nat), i ≤ l.length → toksR l f i acc = .inr a → a ≤ l.length := by
      intro f
      induction f with
      | zero => intro i acc a hi h; cases h; exact hi
      | succ f ih =>
       intro i acc a hi h
       rw [toksR] at h
       have htw := takeWhile_len isBlank l i hi
       split at h
       · cases h
       · split at h
         · cases h
           exact htw
         · rename_i t a2 hx
           exact ih a2 _ a (nextR_step hx).2 h
     exact this _ 0 [] _ (Nat.zero_le _) ha
theorem parse_cases (s : List UInt8) (v : V) (c a : Nat) (h : parseR s = (v, c, a)) : (c = 0 ∧ a = 0 ∧ Ok 8 v) ∨ (c ≠ 0 ∧ v = zV ∧ a ≤ s.length) := by
 unfold parseR at h
 split at h
 · rename_i ts p ht
   have T := tsOk_of ht
   obtain ⟨r, hr⟩ := (fuel_all ts s.length (2 * ts.length + 2)).1 0 0 (by omega)
   rw [hr] at h
   have := val_ok T _ _ 0 0 r (Nat.le_refl _) (by omega) hr
   cases r with
   | bad c' a' =>
    simp only [Prod.mk.injEq] at h
    obtain ⟨rfl, rfl, rfl⟩ := h
    exact .inr ⟨this.1, rfl, this.2⟩
   | ok v' p' =>
    simp only at h
    split at h
    · cases h
      exact .inl ⟨rfl, rfl, this.1⟩
    · cases h
      exact .inr ⟨by decide, rfl, T.p _⟩
 · rename_i ts c' a' hne ht
   have hc : c' ≠ 0 := hne
   rcases tokensR_fault ht with ⟨e, _⟩ | e
   · exact absurd e hc
   · cases h
     exact .inr ⟨hc, rfl, e⟩
end Go.Proofs.YtamcicojockhpaaGreatDoor.Tr
end
