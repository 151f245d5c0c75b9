/- page.Page: the walk. -/
import Derived.Test.YtllgcpoljdjjnaaGreatWr
import Derived.Laws.EntriesVeiled
set_option linter.unusedVariables false
set_option linter.unusedSimpArgs false
namespace Go.Proofs.YtllgcpoljdjjnaaGreat.Pg
open Go.RowKit Go.Proofs.YtllgcpoljdjjnaaGreatW.PrintWords Go.Proofs.YtllgcpoljdjjnaaGreatW.PrintLast Go.Proofs.YtllgcpoljdjjnaaGreatW.PrintMore

theorem strCells_list' (l : List UInt8) : Lib.strCells ⟨l.toArray⟩ = Lib.byteCells l := by
  rw [Lib.strCells_eq]
/-- What the page's closures leave: all blocks but the builder's box and rows of bytes. -/
def Keep (b : Nat) (w w' : World) : Prop := Below b w w' ∧ ∀ k cs t fz, w.heap[k]? = some (.cells cs t fz) → k ≠ b → t ≠ 5 → w'.heap[k]? = some (.cells cs t fz)
theorem Keep.refl (b : Nat) (w : World) : Keep b w w := ⟨Below.refl _ _, fun _ _ _ _ h _ _ => h⟩
theorem Keep.trans {b : Nat} {w w1 w2 : World} (h1 : Keep b w w1) (h2 : Keep b w1 w2) : Keep b w w2 := ⟨h1.1.trans h2.1, fun k cs t fz h hk ht => h2.2 k cs t fz (h1.2 k cs t fz h hk ht) hk ht⟩
theorem Keep.of_below {b : Nat} {w w' : World} (h : Below w.heap.size w w') (hb : b ≤ w.heap.size) : Keep b w w' := ⟨h.mono hb, fun k _ _ _ hk _ _ => (h.block k (blk_lt hk)).trans hk⟩
theorem Kept.keep {Br b : Nat} {v : Value} {bs : List Value} {w w' : World} (h : Kept b v w w') (hB : BAt Br b v bs w) : Keep b w w' := by
  refine ⟨h.1, fun k cs t fz hk hkb ht => (h.2 k (blk_lt hk) hkb fun e => ?_).trans hk⟩
  rcases hB.row.2 with ⟨hv, _⟩ | ⟨g, cap, cur, hv, _, hg, _⟩
  · rw [hv] at e; cases e
  · rw [hv] at e
    have e2 : g = k := Option.some.inj e
    rw [e2, hk] at hg
    injection hg with hg
    injection hg with _ h2 _
    exact ht h2
theorem BAt.below {Br b : Nat} {v : Value} {bs : List Value} {w w' : World} (h : BAt Br b v bs w) (hb : Below w.heap.size w w') : BAt Br b v bs w' := h.move fun k hk _ => hb.block k hk

/-- A closure without arguments writes x onto the builder. -/
def Puts (Br b : Nat) (f : FuncId) (caps : Array Value) (x : List UInt8) (w : World) : Prop :=
  ∀ v acc, BAt Br b v (Lib.byteCells acc) w → acc.length + x.length ≤ 140737488355328 → Br ≤ w.heap.size →
    Calls Tryz.prog f caps w fun e w' => e = .returned (.tuple #[]) ∧ ∃ v', BAt Br b v' (Lib.byteCells (acc ++ x)) w' ∧ Keep b w w'

theorem bs_size (a b c : List UInt8) : (ByteArray.mk a.toArray ++ ByteArray.mk b.toArray ++ ByteArray.mk c.toArray).size = a.length + b.length + c.length := by
  simp [ByteArray.size_append, ByteArray.size, Nat.add_assoc]
theorem bs_cells (a b c : List UInt8) : Lib.strCells (ByteArray.mk a.toArray ++ ByteArray.mk b.toArray ++ ByteArray.mk c.toArray) = Lib.byteCells (a ++ b ++ c) := by
  rw [Lib.strCells_eq]
  congr 1
set_option maxRecDepth 100000 in
set_option maxHeartbeats 2000000 in
theorem within_calls (Br b : Nat) (nm : List UInt8) (f : FuncId) (caps : Array Value) (x : List UInt8) (w : World) (v : Value) (acc : List UInt8) (he : ∀ args w, (callFunc f args).run Tryz.prog w = .ok (.enter f args) w)
    (hB : BAt Br b v (Lib.byteCells acc) w) (hp : ∀ w1, Keep b w w1 → Puts Br b f caps x w1) (hlen : acc.length + (nm.length + 2) + x.length + (nm.length + 3) ≤ 140737488355328) (hBr : Br ≤ w.heap.size) :
    Calls Tryz.prog 26 #[.string ⟨nm.toArray⟩, .func (.func f) #[] caps, .pointer (some ⟨b, 0, none⟩)] w fun e w' => e = .returned (.tuple #[]) ∧ ∃ v', BAt Br b v' (Lib.byteCells (acc ++ ([60] ++ nm ++ [62] ++ x ++ ([60, 47] ++ nm ++ [62])))) w' ∧ Keep b w w' := by
  have H := Aside0.mk hB
  clear hB
  go_enter Tryz.func26, Tryz.ntmps26
  go_wp2_with fail
  refine (Write_calls Br b v _ _ w H.out (by rw [Lib.byteCells_length, bs_size]; simp only [List.length_cons, List.length_nil]; omega) hBr).mono ?_
  rintro e w2 ⟨rfl, v2, h2, hk2⟩
  have HK2 := Aside0.mk (hk2.keep H.out)
  rw [bs_cells, ← Lib.byteCells_append] at h2
  have hp2 := hp w2 HK2.out v2 _ h2 (by simp only [List.length_append, List.length_cons, List.length_nil]; omega) (by have := hk2.1.size; omega)
  clear h2 hk2
  go_wp2_with fail
  refine hp2.mono ?_
  rintro e w3 ⟨rfl, v3, h3, hk3⟩
  have HB3 := Aside0.mk h3
  have HK3 := Aside0.mk (HK2.out.trans hk3)
  clear h3 hk3 hp2
  go_wp2_with fail
  have hs3 := HK3.out.1.size
  refine (Write_calls Br b v3 _ _ w3 HB3.out (by rw [Lib.byteCells_length, bs_size]; simp only [List.length_append, List.length_cons, List.length_nil]; omega) (by omega)).mono ?_
  rintro e w4 ⟨rfl, v4, h4, hk4⟩
  have HK4 := Aside0.mk (HK3.out.trans (hk4.keep HB3.out))
  rw [bs_cells, ← Lib.byteCells_append] at h4
  have HB4 := Aside0.mk h4
  clear h4 hk4
  go_wp2
  go_end0
  exact ⟨rfl, v4, by simpa [List.append_assoc] using HB4.out, HK4.out⟩

def tagged (nm x : List UInt8) : List UInt8 := [60] ++ nm ++ [62] ++ x ++ ([60, 47] ++ nm ++ [62])
theorem tagged_len (nm x : List UInt8) : (tagged nm x).length = (nm.length + 2) + x.length + (nm.length + 3) := by
  simp only [tagged, List.length_append, List.length_cons, List.length_nil]
  omega
theorem text_calls (b : Nat) (l : List UInt8) (w : World) :
    Calls Tryz.prog 27 #[.string ⟨l.toArray⟩, .pointer (some ⟨b, 0, none⟩)] w fun e w' => e = .returned (.func (.func 28) #[] #[.pointer (some ⟨b, 0, none⟩), .pointer (some ⟨w.heap.size, 0, none⟩)]) ∧ w' = w.alloc (.cells #[.string ⟨l.toArray⟩] 9) := by
  go_enter Tryz.func27, Tryz.ntmps27
  go_wp2
  go_ret
  exact ⟨rfl, rfl⟩
theorem text_enters (args : Array Value) (w : World) : (callFunc 28 args).run Tryz.prog w = .ok (.enter 28 args) w := enters_ Tryz.func28 (by kernel_rfl) (by kernel_rfl) args w
set_option maxRecDepth 100000 in
set_option maxHeartbeats 2000000 in
theorem puts_text (Br b sb : Nat) (l : List UInt8) (w : World) (hs : w.heap[sb]? = some (.cells #[.string ⟨l.toArray⟩] 9 (0, 0))) (hl : l.length ≤ 1000000000000) :
    Puts Br b 28 #[.pointer (some ⟨b, 0, none⟩), .pointer (some ⟨sb, 0, none⟩)] (escL l) w := by
  intro v acc hB hlen hBr
  have H := Aside0.mk hB
  have cs : w.cell? ⟨sb, 0, none⟩ = some (.string ⟨l.toArray⟩) := blk_cell hs 0
  clear hB hs
  go_enter Tryz.func28, Tryz.ntmps28
  go_wp2_with fail
  refine (Escape_calls l w hl).mono ?_
  rintro e w1 ⟨rfl, h1⟩
  have HB1 := Aside0.mk (H.out.below h1)
  have HK1 := Aside0.mk (Keep.of_below h1 (Nat.le_of_lt H.out.blt))
  have hs1 := h1.size
  clear h1 cs
  go_wp2_with fail
  refine (Write_calls Br b v _ _ w1 HB1.out (by rw [Lib.byteCells_length]; simpa [ByteArray.size] using hlen) (by omega)).mono ?_
  rintro e w2 ⟨rfl, v2, h2, hk2⟩
  rw [strCells_list', ← Lib.byteCells_append] at h2
  have HB2 := Aside0.mk h2
  have HK2 := Aside0.mk (HK1.out.trans (hk2.keep HB1.out))
  clear h2 hk2
  go_wp2
  go_end0
  exact ⟨rfl, v2, HB2.out, HK2.out⟩

/-- The page's boxes: the title, the lines, the two closures; the builder's is b. -/
structure PEnv (b k0 kl k1 k2 : Nat) (t : List UInt8) (ls : List (List UInt8)) (A : Option Addr) (n c : Nat) (w : World) : Prop where
  title : w.heap[k0]? = some (.cells #[.string ⟨t.toArray⟩] 9 (0, 0))
  lines : w.heap[kl]? = some (.cells #[.slice A n c] 23 (0, 0))
  wit : w.heap[k1]? = some (.cells #[.func (.func 26) #[] #[.pointer (some ⟨b, 0, none⟩)]] 55 (0, 0))
  txt : w.heap[k2]? = some (.cells #[.func (.func 27) #[] #[.pointer (some ⟨b, 0, none⟩)]] 56 (0, 0))
  len : n = ls.length
  row : ∀ w1, Below b w w1 → ∀ i (hi : i < ls.length), ∃ a, A = some a ∧ w1.cell? (a.add i) = some (.string ⟨ls[i].toArray⟩)
  ne0 : k0 ≠ b
  nel : kl ≠ b
  ne1 : k1 ≠ b
  ne2 : k2 ≠ b
theorem PEnv.keep {b k0 kl k1 k2 : Nat} {t : List UInt8} {ls : List (List UInt8)} {A : Option Addr} {n c : Nat} {w w' : World} (h : PEnv b k0 kl k1 k2 t ls A n c w) (hk : Keep b w w') : PEnv b k0 kl k1 k2 t ls A n c w' where
  title := hk.2 _ _ _ _ h.title h.ne0 (by decide)
  lines := hk.2 _ _ _ _ h.lines h.nel (by decide)
  wit := hk.2 _ _ _ _ h.wit h.ne1 (by decide)
  txt := hk.2 _ _ _ _ h.txt h.ne2 (by decide)
  len := h.len
  row := fun w1 hb => h.row w1 (hk.1.trans hb)
  ne0 := h.ne0
  nel := h.nel
  ne1 := h.ne1
  ne2 := h.ne2

def nTitle : List UInt8 := [116, 105, 116, 108, 101]
def nHead : List UInt8 := [104, 101, 97, 100]
def nBody : List UInt8 := [98, 111, 100, 121]
def nHtml : List UInt8 := [104, 116, 109, 108]
def nOl : List UInt8 := [111, 108]
def nLi : List UInt8 := [108, 105]

theorem text_step {Br b : Nat} {v : Value} {bs : List Value} {w w1 : World} {l : List UInt8} (hw : w1 = w.drew.alloc (.cells #[.string ⟨l.toArray⟩] 9)) (h : BAt Br b v bs w) :
    Keep b w w1 ∧ w1.heap[w.drew.heap.size]? = some (.cells #[.string ⟨l.toArray⟩] 9 (0, 0)) ∧ BAt Br b v bs w1 ∧ w1.heap.size = w.heap.size + 1 := by
  have hb : Below w.heap.size w w1 := by
    rw [hw]
    exact below_alloc (pg_below_drew (Below.refl _ _)) _
  refine ⟨Keep.of_below hb (Nat.le_of_lt h.blt), ?_, h.below hb, ?_⟩
  · rw [hw]
    exact blk_new _ _
  · rw [hw]
    simp
set_option maxRecDepth 100000 in
set_option maxHeartbeats 2000000 in
theorem puts_title (Br b k0 kl k1 k2 : Nat) (t : List UInt8) (ls : List (List UInt8)) (A : Option Addr) (n c : Nat) (w : World) (hE : PEnv b k0 kl k1 k2 t ls A n c w) (hl : t.length ≤ 1000000000000) :
    Puts Br b 30 #[.pointer (some ⟨k1, 0, none⟩), .pointer (some ⟨k2, 0, none⟩), .pointer (some ⟨k0, 0, none⟩)] (tagged nTitle (escL t)) w := by
  intro v acc hB hlen hBr
  have H := Aside0.mk hB
  have c0 : w.cell? ⟨k0, 0, none⟩ = some (.string ⟨t.toArray⟩) := blk_cell hE.title 0
  have c1 : w.cell? ⟨k1, 0, none⟩ = some (.func (.func 26) #[] #[.pointer (some ⟨b, 0, none⟩)]) := blk_cell hE.wit 0
  have c2 : w.cell? ⟨k2, 0, none⟩ = some (.func (.func 27) #[] #[.pointer (some ⟨b, 0, none⟩)]) := blk_cell hE.txt 0
  have HE := Aside0.mk hE
  rw [tagged_len] at hlen
  clear hB hE
  go_enter Tryz.func30, Tryz.ntmps30
  go_wp2_with fail
  refine start_ (n := 5) (S := fun w' => w'.cell? ⟨k1, 0, none⟩ = some (.func (.func 26) #[] #[.pointer (some ⟨b, 0, none⟩)]) ∧ w'.cell? ⟨k2, 0, none⟩ = some (.func (.func 27) #[] #[.pointer (some ⟨b, 0, none⟩)]) ∧ w'.cell? ⟨k0, 0, none⟩ = some (.string ⟨t.toArray⟩)) (ds := [4]) #[false, false, false, false, false] (by kernel_rfl) rfl rfl ⟨c1, c2, c0⟩ (fun hHeld => ?_)
  refine take_ (i := 0) (N := some 3) (v := ?_) (a' := ?_) #[true, false, false, false, false] rfl rfl (by kernel_rfl) (fun _ _ _ h => h) (Or.inl ⟨by rfl, ?_⟩) hHeld ?_ ?_
  rotate_left
  · rintro w' ⟨s1, s2, s0⟩
    go_simp
    with_reducible rfl
  rotate_left
  · simp only [Act.put, List.setIfInBounds_toArray, List.set_cons_zero, List.set_cons_succ, i64_w, i32_w]
    rfl
  refine take_ (i := 1) (N := some 4) (v := ?_) (a' := ?_) #[true, true, false, false, false] rfl rfl (by kernel_rfl) (fun _ _ _ h => h) (Or.inl ⟨by rfl, ?_⟩) hHeld ?_ ?_
  rotate_left
  · rintro w' ⟨s1, s2, s0⟩
    go_simp
    with_reducible rfl
  rotate_left
  · simp only [Act.put, List.setIfInBounds_toArray, List.set_cons_zero, List.set_cons_succ, i64_w, i32_w]
    rfl
  refine take_ (i := 2) (N := some 5) (v := ?_) (a' := ?_) #[true, true, true, false, false] rfl rfl (by kernel_rfl) (fun _ _ _ h => h) (Or.inl ⟨by rfl, ?_⟩) hHeld ?_ ?_
  rotate_left
  · rintro w' ⟨s1, s2, s0⟩
    go_simp
    with_reducible rfl
  rotate_left
  · simp only [Act.put, List.setIfInBounds_toArray, List.set_cons_zero, List.set_cons_succ, i64_w, i32_w]
    rfl
  refine one_ (i := 3) (N := some 6) #[true, true, true, true, false] rfl rfl (by kernel_rfl) (by decide) (fun K hK => ?_)
  refine call_ 27 #[.string ⟨t.toArray⟩, .pointer (some ⟨b, 0, none⟩)] (by rfl) rfl (by
    have he := enters_ Tryz.func27 (by kernel_rfl) (by kernel_rfl) #[.string ⟨t.toArray⟩, .pointer (some ⟨b, 0, none⟩)] w.drew
    unfold execOp
    simp [resolve, Deferred.ofValue, invoke, Act.eval, he]) ?_
  refine (text_calls b t w.drew).mono ?_
  rintro e w1 ⟨rfl, hw1⟩
  obtain ⟨k1', k2', k3', k4'⟩ := text_step hw1 H.out
  have HE1 := Aside0.mk (HE.out.keep k1')
  have HK1 := Aside0.mk k1'
  have HS1 := Aside0.mk k2'
  have HB1 := Aside0.mk k3'
  refine ⟨_, rfl, hK.out _ _ ⟨blk_cell HE1.out.wit 0, blk_cell HE1.out.txt 0, blk_cell HE1.out.title 0⟩ fun _ => ?_⟩
  clear hK K hw1 k1' k2' k3'
  refine norm_ (a' := ?_) ?_ ?_
  rotate_left
  · simp only [Act.put, List.setIfInBounds_toArray, List.set_cons_zero, List.set_cons_succ]
    rfl
  refine last_ (i := 4) (N := some 7) #[true, true, true, true, true] rfl rfl (by kernel_rfl) (by decide) (fun K hK => ?_)
  refine call_ 26 #[.string ⟨nTitle.toArray⟩, .func (.func 28) #[] #[.pointer (some ⟨b, 0, none⟩), .pointer (some ⟨w.drew.heap.size, 0, none⟩)], .pointer (some ⟨b, 0, none⟩)] (by rfl) rfl (by
    have he := enters_ Tryz.func26 (by kernel_rfl) (by kernel_rfl) #[.string ⟨nTitle.toArray⟩, .func (.func 28) #[] #[.pointer (some ⟨b, 0, none⟩), .pointer (some ⟨w.drew.heap.size, 0, none⟩)], .pointer (some ⟨b, 0, none⟩)] w1
    unfold nTitle at he ⊢
    unfold execOp
    simp [resolve, Deferred.ofValue, invoke, Act.eval, he]) ?_
  refine (within_calls Br b nTitle _ _ (escL t) w1 v acc text_enters HB1.out (fun w2 hk2 => puts_text Br b _ t w2 (hk2.2 _ _ _ _ HS1.out (by have := H.out.blt; show w.heap.size ≠ b; omega) (by decide)) hl) (by omega) (by omega)).mono ?_
  rintro e w2 ⟨rfl, v2, h2, hk2⟩
  have HB2 := Aside0.mk h2
  have HK2 := Aside0.mk (HK1.out.trans hk2)
  refine ⟨_, rfl, hK.out _ _ ?_⟩
  clear hK K h2 hk2
  refine done_ (by kernel_rfl) ?_
  go_wp2
  go_end0
  exact ⟨rfl, v2, HB2.out, HK2.out⟩

def lisOf (ls : List (List UInt8)) : List UInt8 := ls.flatMap fun l => tagged nLi (escL l)
theorem lisOf_append (a b : List (List UInt8)) : lisOf (a ++ b) = lisOf a ++ lisOf b := by simp [lisOf]
theorem lis_step (ls : List (List UInt8)) (k : Nat) (h : k < ls.length) : lisOf (ls.take (k + 1)) = lisOf (ls.take k) ++ tagged nLi (escL ls[k]) := by
  rw [List.take_succ_eq_append_getElem h, lisOf_append]
  simp [lisOf]
theorem lis_le (ls : List (List UInt8)) (k : Nat) : (lisOf (ls.take k)).length ≤ (lisOf ls).length := by
  have h := congrArg (fun x => (lisOf x).length) (List.take_append_drop k ls)
  simp only [lisOf_append, List.length_append] at h
  omega
theorem lis_ge (ls : List (List UInt8)) : ls.length ≤ (lisOf ls).length := by
  induction ls with
  | nil => simp [lisOf]
  | cons l r ih =>
    have e : lisOf (l :: r) = tagged nLi (escL l) ++ lisOf r := rfl
    rw [e, List.length_append, tagged_len, List.length_cons]
    omega
theorem title_enters (args : Array Value) (w : World) : (callFunc 30 args).run Tryz.prog w = .ok (.enter 30 args) w := enters_ Tryz.func30 (by kernel_rfl) (by kernel_rfl) args w
theorem lines_enters (args : Array Value) (w : World) : (callFunc 32 args).run Tryz.prog w = .ok (.enter 32 args) w := enters_ Tryz.func32 (by kernel_rfl) (by kernel_rfl) args w
theorem body_enters (args : Array Value) (w : World) : (callFunc 31 args).run Tryz.prog w = .ok (.enter 31 args) w := enters_ Tryz.func31 (by kernel_rfl) (by kernel_rfl) args w
theorem html_enters (args : Array Value) (w : World) : (callFunc 29 args).run Tryz.prog w = .ok (.enter 29 args) w := enters_ Tryz.func29 (by kernel_rfl) (by kernel_rfl) args w
set_option maxRecDepth 100000 in
set_option maxHeartbeats 2000000 in
theorem puts_lines (Br b k0 kl k1 k2 : Nat) (t : List UInt8) (ls : List (List UInt8)) (A : Option Addr) (n c : Nat) (w : World) (hE : PEnv b k0 kl k1 k2 t ls A n c w) (hl : t.length ≤ 1000000000000) (hll : ∀ l, l ∈ ls → l.length ≤ 1000000000000) :
    Puts Br b 32 #[.pointer (some ⟨kl, 0, none⟩), .pointer (some ⟨k1, 0, none⟩), .pointer (some ⟨k2, 0, none⟩)] (lisOf ls) w := by
  intro v acc hB hlen hBr
  have H := Aside0.mk hB
  have c0 : w.cell? ⟨k0, 0, none⟩ = some (.string ⟨t.toArray⟩) := blk_cell hE.title 0
  have cl : w.cell? ⟨kl, 0, none⟩ = some (.slice A n c) := blk_cell hE.lines 0
  have c1 : w.cell? ⟨k1, 0, none⟩ = some (.func (.func 26) #[] #[.pointer (some ⟨b, 0, none⟩)]) := blk_cell hE.wit 0
  have c2 : w.cell? ⟨k2, 0, none⟩ = some (.func (.func 27) #[] #[.pointer (some ⟨b, 0, none⟩)]) := blk_cell hE.txt 0
  have HE := Aside0.mk hE
  have hn := hE.len
  have HLL := Aside0.mk hll
  clear hB hE hll
  go_enter Tryz.func32, Tryz.ntmps32
  go_wp2
  go_loopg [4, 7] ls.length (fun kq v4 v7 w2 => ∃ (k : Nat), k + kq = ls.length ∧ v7 = .int .i64 k ∧ Aside0 (Keep b w w2) ∧ ∃ vr, Aside0 (BAt Br b vr (Lib.byteCells (acc ++ lisOf (ls.take k))) w2))
  case atStart => exact ⟨0, by simp, rfl, Aside0.mk (Keep.refl _ _), v, Aside0.mk (by simpa [lisOf] using H.out)⟩
  case round =>
    obtain ⟨k, hk, rfl, HKr, vr, HBr⟩ := hrel
    have hlt0 := lis_le ls k
    have hlg := lis_ge ls
    cases gk with
    | zero =>
      have hkl : k = ls.length := by omega
      subst hkl
      have hge : ¬ ((ls.length : Int) < (ls.length : Int)) := by omega
      go_wp2
      go_end0
      exact ⟨rfl, ⟨vr, by rw [List.take_of_length_le (Nat.le_refl _)] at HBr; exact HBr.out⟩, HKr.out⟩
    | succ kq1 =>
      have hlt : (k : Int) < (ls.length : Int) := by omega
      have hltn : k < ls.length := by omega
      have HEr := Aside0.mk (HE.out.keep HKr.out)
      have hsr := HKr.out.1.size
      obtain ⟨a, rfl, hca⟩ := HEr.out.row wr (Below.refl _ _) k hltn
      obtain ⟨x, hxe⟩ : ∃ x, x = ls[k] := ⟨_, rfl⟩
      rw [← hxe] at hca
      have hx : x ∈ ls := by rw [hxe]; exact List.getElem_mem _
      have hstep := lis_step ls k hltn
      rw [← hxe] at hstep
      have hlt1 := lis_le ls (k + 1)
      rw [hstep, List.length_append, tagged_len] at hlt1
      have d1 : wr.cell? ⟨k1, 0, none⟩ = some (.func (.func 26) #[] #[.pointer (some ⟨b, 0, none⟩)]) := blk_cell HEr.out.wit 0
      have d2 : wr.cell? ⟨k2, 0, none⟩ = some (.func (.func 27) #[] #[.pointer (some ⟨b, 0, none⟩)]) := blk_cell HEr.out.txt 0
      have HST := Aside0.mk hstep
      clear hxe hstep c0 cl c1 c2
      go_wp2
      refine start_ (n := 5) (S := fun w' => w'.cell? ⟨k1, 0, none⟩ = some (.func (.func 26) #[] #[.pointer (some ⟨b, 0, none⟩)]) ∧ w'.cell? ⟨k2, 0, none⟩ = some (.func (.func 27) #[] #[.pointer (some ⟨b, 0, none⟩)])) (ds := [4]) #[false, false, false, false, false] (by kernel_rfl) rfl rfl ⟨d1, d2⟩ (fun hHeld => ?_)
      refine take_ (i := 0) (N := some 11) (v := ?_) (a' := ?_) #[true, false, false, false, false] rfl rfl (by kernel_rfl) (fun _ _ _ h => h) (Or.inl ⟨by rfl, ?_⟩) hHeld ?_ ?_
      rotate_left
      · rintro w' ⟨s1, s2⟩
        go_simp
        with_reducible rfl
      rotate_left
      · simp only [Act.put, List.setIfInBounds_toArray, List.set_cons_zero, List.set_cons_succ, i64_w, i32_w]
        rfl
      refine take_ (i := 1) (N := some 12) (v := ?_) (a' := ?_) #[true, true, false, false, false] rfl rfl (by kernel_rfl) (fun _ _ _ h => h) (Or.inl ⟨by rfl, ?_⟩) hHeld ?_ ?_
      rotate_left
      · rintro w' ⟨s1, s2⟩
        go_simp
        with_reducible rfl
      rotate_left
      · simp only [Act.put, List.setIfInBounds_toArray, List.set_cons_zero, List.set_cons_succ, i64_w, i32_w]
        rfl
      refine pure_ (i := 2) (N := some 13) (v := ?_) (a' := ?_) #[true, true, true, false, false] rfl rfl (by kernel_rfl) (fun _ _ _ h => h) (Or.inl ⟨by rfl, ?_⟩) ?_ ?_
      rotate_left
      · intro w'
        go_simp
        with_reducible rfl
      rotate_left
      · simp only [Act.put, List.setIfInBounds_toArray, List.set_cons_zero, List.set_cons_succ, i64_w, i32_w]
        rfl
      refine one_ (i := 3) (N := some 14) #[true, true, true, true, false] rfl rfl (by kernel_rfl) (by decide) (fun K hK => ?_)
      refine call_ 27 #[.string ⟨x.toArray⟩, .pointer (some ⟨b, 0, none⟩)] (by rfl) rfl (by
        have he := enters_ Tryz.func27 (by kernel_rfl) (by kernel_rfl) #[.string ⟨x.toArray⟩, .pointer (some ⟨b, 0, none⟩)] wr.drew
        unfold execOp
        simp [resolve, Deferred.ofValue, invoke, Act.eval, he]) ?_
      refine (text_calls b x wr.drew).mono ?_
      rintro e w1 ⟨rfl, hw1⟩
      obtain ⟨k1', k2', k3', k4'⟩ := text_step hw1 HBr.out
      have HE1 := Aside0.mk (HEr.out.keep k1')
      have HK1 := Aside0.mk k1'
      have HS1 := Aside0.mk k2'
      have HB1 := Aside0.mk k3'
      refine ⟨_, rfl, hK.out _ _ ⟨blk_cell HE1.out.wit 0, blk_cell HE1.out.txt 0⟩ fun _ => ?_⟩
      clear hK K hw1 k1' k2' k3'
      refine norm_ (a' := ?_) ?_ ?_
      rotate_left
      · simp only [Act.put, List.setIfInBounds_toArray, List.set_cons_zero, List.set_cons_succ]
        rfl
      refine last_ (i := 4) (N := some 15) #[true, true, true, true, true] rfl rfl (by kernel_rfl) (by decide) (fun K hK => ?_)
      refine call_ 26 #[.string ⟨nLi.toArray⟩, .func (.func 28) #[] #[.pointer (some ⟨b, 0, none⟩), .pointer (some ⟨wr.drew.heap.size, 0, none⟩)], .pointer (some ⟨b, 0, none⟩)] (by rfl) rfl (by
        have he := enters_ Tryz.func26 (by kernel_rfl) (by kernel_rfl) #[.string ⟨nLi.toArray⟩, .func (.func 28) #[] #[.pointer (some ⟨b, 0, none⟩), .pointer (some ⟨wr.drew.heap.size, 0, none⟩)], .pointer (some ⟨b, 0, none⟩)] w1
        unfold nLi at he ⊢
        unfold execOp
        simp [resolve, Deferred.ofValue, invoke, Act.eval, he]) ?_
      refine (within_calls Br b nLi _ _ (escL x) w1 vr (acc ++ lisOf (ls.take k)) text_enters HB1.out (fun w2 hk2 => puts_text Br b _ x w2 (hk2.2 _ _ _ _ HS1.out (by have := HBr.out.blt; show wr.heap.size ≠ b; omega) (by decide)) (HLL.out x hx)) (by rw [List.length_append]; omega) (by omega)).mono ?_
      rintro e w2 ⟨rfl, v2, h2, hk2⟩
      have HB2 := Aside0.mk h2
      have HK2 := Aside0.mk (HKr.out.trans (HK1.out.trans hk2))
      refine ⟨_, rfl, hK.out _ _ ?_⟩
      clear hK K h2 hk2
      refine done_ (by kernel_rfl) ?_
      go_wp2
      go_roundg kq1
      case measure => omega
      case rel => exact ⟨k + 1, by omega, by go_num, HK2, v2, by rw [HST.out]; exact Aside0.mk (by simpa only [List.append_assoc, tagged] using HB2.out)⟩

set_option maxRecDepth 100000 in
set_option maxHeartbeats 2000000 in
theorem puts_body (Br b k0 kl k1 k2 : Nat) (t : List UInt8) (ls : List (List UInt8)) (A : Option Addr) (n c : Nat) (w : World) (hE : PEnv b k0 kl k1 k2 t ls A n c w) (hl : t.length ≤ 1000000000000) (hll : ∀ l, l ∈ ls → l.length ≤ 1000000000000) :
    Puts Br b 31 #[.pointer (some ⟨k1, 0, none⟩), .pointer (some ⟨kl, 0, none⟩), .pointer (some ⟨k2, 0, none⟩)] (tagged nOl (lisOf ls)) w := by
  intro v acc hB hlen hBr
  have H := Aside0.mk hB
  have c0 : w.cell? ⟨k0, 0, none⟩ = some (.string ⟨t.toArray⟩) := blk_cell hE.title 0
  have cl : w.cell? ⟨kl, 0, none⟩ = some (.slice A n c) := blk_cell hE.lines 0
  have c1 : w.cell? ⟨k1, 0, none⟩ = some (.func (.func 26) #[] #[.pointer (some ⟨b, 0, none⟩)]) := blk_cell hE.wit 0
  have c2 : w.cell? ⟨k2, 0, none⟩ = some (.func (.func 27) #[] #[.pointer (some ⟨b, 0, none⟩)]) := blk_cell hE.txt 0
  have HE := Aside0.mk hE
  have hn := hE.len
  have HLL := Aside0.mk hll
  clear hB hE hll
  go_enter Tryz.func31, Tryz.ntmps31
  rw [tagged_len] at hlen
  go_wp2_with fail
  refine (within_calls Br b nOl _ _ (lisOf ls) w v acc lines_enters H.out (fun w2 hk2 => puts_lines Br b k0 kl k1 k2 t ls A n c w2 (HE.out.keep hk2) hl HLL.out) (by omega) hBr).mono ?_
  rintro e w2 ⟨rfl, v2, h2, hk2⟩
  have HB2 := Aside0.mk h2
  have HK2 := Aside0.mk hk2
  clear h2 hk2
  go_wp2
  go_end0
  exact ⟨rfl, v2, HB2.out, HK2.out⟩

set_option maxRecDepth 100000 in
set_option maxHeartbeats 2000000 in
theorem puts_html (Br b k0 kl k1 k2 : Nat) (t : List UInt8) (ls : List (List UInt8)) (A : Option Addr) (n c : Nat) (w : World) (hE : PEnv b k0 kl k1 k2 t ls A n c w) (hl : t.length ≤ 1000000000000) (hll : ∀ l, l ∈ ls → l.length ≤ 1000000000000) :
    Puts Br b 29 #[.pointer (some ⟨k1, 0, none⟩), .pointer (some ⟨k2, 0, none⟩), .pointer (some ⟨k0, 0, none⟩), .pointer (some ⟨kl, 0, none⟩)] (tagged nHead (tagged nTitle (escL t)) ++ tagged nBody (tagged nOl (lisOf ls))) w := by
  intro v acc hB hlen hBr
  have H := Aside0.mk hB
  have c0 : w.cell? ⟨k0, 0, none⟩ = some (.string ⟨t.toArray⟩) := blk_cell hE.title 0
  have cl : w.cell? ⟨kl, 0, none⟩ = some (.slice A n c) := blk_cell hE.lines 0
  have c1 : w.cell? ⟨k1, 0, none⟩ = some (.func (.func 26) #[] #[.pointer (some ⟨b, 0, none⟩)]) := blk_cell hE.wit 0
  have c2 : w.cell? ⟨k2, 0, none⟩ = some (.func (.func 27) #[] #[.pointer (some ⟨b, 0, none⟩)]) := blk_cell hE.txt 0
  have HE := Aside0.mk hE
  have hn := hE.len
  have HLL := Aside0.mk hll
  clear hB hE hll
  go_enter Tryz.func29, Tryz.ntmps29
  rw [List.length_append, tagged_len nHead, tagged_len nBody] at hlen
  go_wp2_with fail
  refine (within_calls Br b nHead _ _ (tagged nTitle (escL t)) w v acc title_enters H.out (fun w2 hk2 => puts_title Br b k0 kl k1 k2 t ls A n c w2 (HE.out.keep hk2) hl) (by omega) hBr).mono ?_
  rintro e w2 ⟨rfl, v2, h2, hk2⟩
  have HB2 := Aside0.mk h2
  have HK2 := Aside0.mk hk2
  have HE2 := Aside0.mk (HE.out.keep hk2)
  have hs2 := hk2.1.size
  have d1 : w2.cell? ⟨k1, 0, none⟩ = some (.func (.func 26) #[] #[.pointer (some ⟨b, 0, none⟩)]) := blk_cell HE2.out.wit 0
  clear h2 hk2 c0 cl c1 c2
  go_wp2_with fail
  refine (within_calls Br b nBody _ _ (tagged nOl (lisOf ls)) w2 v2 _ body_enters HB2.out (fun w3 hk3 => puts_body Br b k0 kl k1 k2 t ls A n c w3 (HE2.out.keep hk3) hl HLL.out) (by rw [List.length_append, show ([60] ++ nHead ++ [62] ++ tagged nTitle (escL t) ++ ([60, 47] ++ nHead ++ [62])) = tagged nHead (tagged nTitle (escL t)) from rfl, tagged_len nHead]; omega) (by omega)).mono ?_
  rintro e w3 ⟨rfl, v3, h3, hk3⟩
  have HB3 := Aside0.mk h3
  have HK3 := Aside0.mk (HK2.out.trans hk3)
  clear h3 hk3
  go_wp2
  go_end0
  exact ⟨rfl, v3, by rw [← List.append_assoc]; exact HB3.out, HK3.out⟩

def pageL (t : List UInt8) (ls : List (List UInt8)) : List UInt8 :=
  [60, 33, 68, 79, 67, 84, 89, 80, 69, 32, 104, 116, 109, 108, 62, 10] ++ tagged nHtml (tagged nHead (tagged nTitle (escL t)) ++ tagged nBody (tagged nOl (lisOf ls))) ++ [10]
theorem fiveW (w : World) (o0 o1 o2 o3 o4 : Obj) : (((((w.alloc o0).alloc o1).alloc o2).alloc o3).alloc o4).heap[w.heap.size]? = some o0 ∧ (((((w.alloc o0).alloc o1).alloc o2).alloc o3).alloc o4).heap[w.heap.size + 1]? = some o1 ∧ (((((w.alloc o0).alloc o1).alloc o2).alloc o3).alloc o4).heap[w.heap.size + 1 + 1]? = some o2 ∧
    (((((w.alloc o0).alloc o1).alloc o2).alloc o3).alloc o4).heap[w.heap.size + 1 + 1 + 1]? = some o3 ∧ (((((w.alloc o0).alloc o1).alloc o2).alloc o3).alloc o4).heap[w.heap.size + 1 + 1 + 1 + 1]? = some o4 ∧ (((((w.alloc o0).alloc o1).alloc o2).alloc o3).alloc o4).heap.size = w.heap.size + 5 ∧ Below w.heap.size w (((((w.alloc o0).alloc o1).alloc o2).alloc o3).alloc o4) := by
  refine ⟨?_, ?_, ?_, ?_, ?_, ?_, below_alloc (below_alloc (below_alloc (below_alloc (below_alloc (Below.refl _ _) _) _) _) _) _⟩
  · show (((((w.heap.push o0).push o1).push o2).push o3).push o4)[w.heap.size]? = _
    rw [Array.getElem?_push, if_neg (by simp only [Array.size_push]; omega), Array.getElem?_push, if_neg (by simp only [Array.size_push]; omega), Array.getElem?_push, if_neg (by simp only [Array.size_push]; omega), Array.getElem?_push, if_neg (by simp only [Array.size_push]; omega), Array.getElem?_push, if_pos (by simp only [Array.size_push])]
  · show (((((w.heap.push o0).push o1).push o2).push o3).push o4)[w.heap.size + 1]? = _
    rw [Array.getElem?_push, if_neg (by simp only [Array.size_push]; omega), Array.getElem?_push, if_neg (by simp only [Array.size_push]; omega), Array.getElem?_push, if_neg (by simp only [Array.size_push]; omega), Array.getElem?_push, if_pos (by simp only [Array.size_push])]
  · show (((((w.heap.push o0).push o1).push o2).push o3).push o4)[w.heap.size + 1 + 1]? = _
    rw [Array.getElem?_push, if_neg (by simp only [Array.size_push]; omega), Array.getElem?_push, if_neg (by simp only [Array.size_push]; omega), Array.getElem?_push, if_pos (by simp only [Array.size_push])]
  · show (((((w.heap.push o0).push o1).push o2).push o3).push o4)[w.heap.size + 1 + 1 + 1]? = _
    rw [Array.getElem?_push, if_neg (by simp only [Array.size_push]; omega), Array.getElem?_push, if_pos (by simp only [Array.size_push])]
  · show (((((w.heap.push o0).push o1).push o2).push o3).push o4)[w.heap.size + 1 + 1 + 1 + 1]? = _
    rw [Array.getElem?_push, if_pos (by simp only [Array.size_push])]
  · show (((((w.heap.push o0).push o1).push o2).push o3).push o4).size = _
    simp
set_option maxRecDepth 100000 in
set_option maxHeartbeats 2000000 in
theorem Page_calls (t : List UInt8) (ls : List (List UInt8)) (A : Option Addr) (c : Nat) (w : World) (hl : t.length ≤ 1000000000000) (hll : ∀ l, l ∈ ls → l.length ≤ 1000000000000) (hp : (pageL t ls).length ≤ 140737488355328)
    (hrow : ∀ i (hi : i < ls.length), ∃ a, A = some a ∧ a.block < w.heap.size ∧ w.cell? (a.add i) = some (.string ⟨ls[i].toArray⟩)) :
    Calls Tryz.prog 14 #[.string ⟨t.toArray⟩, .slice A ls.length c] w fun e w' => e = .returned (.string ⟨(pageL t ls).toArray⟩) ∧ Below w.heap.size w w' := by
  have HR := Aside0.mk hrow
  have HLL := Aside0.mk hll
  obtain ⟨pg, hpg⟩ : ∃ pg, pg = pageL t ls := ⟨_, rfl⟩
  rw [← hpg] at hp ⊢
  have HPG := Aside0.mk hpg
  clear hrow hll hpg
  go_enter Tryz.func14, Tryz.ntmps14
  go_wp2_with fail
  obtain ⟨q0, q1, q2, q3, q4, qs, qb⟩ := fiveW w (.cells #[.string ⟨t.toArray⟩] 9) (.cells #[.slice A ls.length c] 23) (.cells #[.pointer none, .slice none 0 0] 43) (.cells #[.func (.func 26) #[] #[.pointer (some ⟨w.heap.size + 1 + 1, 0, none⟩)]] 55) (.cells #[.func (.func 27) #[] #[.pointer (some ⟨w.heap.size + 1 + 1, 0, none⟩)]] 56)
  generalize ((((((w.alloc (.cells #[.string ⟨t.toArray⟩] 9)).alloc (.cells #[.slice A ls.length c] 23)).alloc (.cells #[.pointer none, .slice none 0 0] 43)).alloc (.cells #[.func (.func 26) #[] #[.pointer (some ⟨w.heap.size + 1 + 1, 0, none⟩)]] 55)).alloc (.cells #[.func (.func 27) #[] #[.pointer (some ⟨w.heap.size + 1 + 1, 0, none⟩)]] 56))) = W at *
  have HQ := Aside0.mk (show BAt (w.heap.size + 1 + 1 + 1) (w.heap.size + 1 + 1) (.slice none 0 0) (Lib.byteCells []) W from ⟨.inl q2, own_nil _ _ _ _, by omega⟩)
  have HE := Aside0.mk (show PEnv (w.heap.size + 1 + 1) w.heap.size (w.heap.size + 1) (w.heap.size + 1 + 1 + 1) (w.heap.size + 1 + 1 + 1 + 1) t ls A ls.length c W from
    { title := q0, lines := q1, wit := q3, txt := q4, len := rfl, row := fun w1 hb i hi => by
        obtain ⟨a, ha, hlt, hc⟩ := HR.out i hi
        have ha2 : (a.add i).block = a.block := by unfold Addr.add; split <;> rfl
        exact ⟨a, ha, ((hb.mono (by omega)).cell (show (a.add i).block < w.heap.size by rw [ha2]; exact hlt)).trans ((qb.cell (show (a.add i).block < w.heap.size by rw [ha2]; exact hlt)).trans hc)⟩
      ne0 := by omega, nel := by omega, ne1 := by omega, ne2 := by omega })
  have HQB := Aside0.mk qb
  have hplen : pg.length = 16 + (nHtml.length + 2 + (tagged nHead (tagged nTitle (escL t)) ++ tagged nBody (tagged nOl (lisOf ls))).length + (nHtml.length + 3)) + 1 := by
    rw [HPG.out]
    unfold pageL
    rw [List.length_append, List.length_append, tagged_len]
    rfl
  clear q0 q1 q2 q3 q4 qb
  refine (Write_calls _ _ _ _ _ W HQ.out (by rw [Lib.byteCells_length]; simp [ByteArray.size]) (by omega)).mono ?_
  rintro e w2 ⟨rfl, v2, h2, hk2⟩
  rw [strCells_list', ← Lib.byteCells_append, List.nil_append] at h2
  have HB2 := Aside0.mk h2
  have HK2 := Aside0.mk (hk2.keep HQ.out)
  have HE2 := Aside0.mk (HE.out.keep HK2.out)
  have hs2 := hk2.1.size
  have d1 : w2.cell? ⟨w.heap.size + 1 + 1 + 1, 0, none⟩ = some (.func (.func 26) #[] #[.pointer (some ⟨w.heap.size + 1 + 1, 0, none⟩)]) := blk_cell HE2.out.wit 0
  clear h2 hk2
  go_wp2_with fail
  refine (within_calls _ _ nHtml _ _ (tagged nHead (tagged nTitle (escL t)) ++ tagged nBody (tagged nOl (lisOf ls))) w2 v2 _ html_enters HB2.out (fun w3 hk3 => puts_html _ _ w.heap.size (w.heap.size + 1) (w.heap.size + 1 + 1 + 1) (w.heap.size + 1 + 1 + 1 + 1) t ls A _ c w3 (HE2.out.keep hk3) hl HLL.out) (by simp only [List.length_cons, List.length_nil]; omega) (by omega)).mono ?_
  rintro e w3 ⟨rfl, v3, h3, hk3⟩
  have HB3 := Aside0.mk h3
  have HK3 := Aside0.mk (HK2.out.trans hk3)
  have hs3 := hk3.1.size
  clear h3 hk3
  go_wp2_with fail
  refine (WriteByte_calls _ _ v3 _ 10 w3 HB3.out (by
    rw [Lib.byteCells_length, List.length_append, show ([60] ++ nHtml ++ [62] ++ (tagged nHead (tagged nTitle (escL t)) ++ tagged nBody (tagged nOl (lisOf ls))) ++ ([60, 47] ++ nHtml ++ [62])) = tagged nHtml (tagged nHead (tagged nTitle (escL t)) ++ tagged nBody (tagged nOl (lisOf ls))) from rfl, tagged_len]
    simp only [List.length_cons, List.length_nil]
    omega) (by omega)).mono ?_
  rintro e w4 ⟨rfl, v4, h4, hk4⟩
  rw [show [Value.int .u8 (UInt8.toNat 10)] = Lib.byteCells [10] from rfl, ← Lib.byteCells_append] at h4
  have HB4 := Aside0.mk h4
  have HK4 := Aside0.mk (HK3.out.trans (hk4.keep HB3.out))
  have hs4 := hk4.1.size
  clear h4 hk4
  go_wp2_with fail
  have HB5 := Aside0.mk (show BAt (w.heap.size + 1 + 1 + 1) (w.heap.size + 1 + 1) v4 (Lib.byteCells pg) w4 by rw [HPG.out]; exact HB4.out)
  refine (Tryz.Builder_String_any (w.heap.size + 1 + 1) (w.heap.size + 1 + 1) pg w4 HB5.out.is (by omega)).mono ?_
  rintro e w5 ⟨rfl, h5⟩
  have H5 := Aside0.mk h5
  clear h5
  go_wp2
  go_ret
  exact ⟨rfl, HQB.out.trans ((HK4.out.1.trans H5.out).mono (by omega))⟩
end Go.Proofs.YtllgcpoljdjjnaaGreat.Pg
