/- What WireLines stands on, part 3. -/
import Derived.Test.YtamcicojockhpaaGreatDoorLN2
set_option linter.unusedVariables false
set_option linter.unusedSimpArgs false
section
set_option linter.unusedVariables false
set_option linter.unusedSimpArgs false
namespace Go.Proofs.YtamcicojockhpaaGreatDoor.Tr
open Go.RowKit Go.Proofs.YtamcicojockhpaaGreatDoorW.PrintWords Go.Proofs.YtamcicojockhpaaGreatDoorW.PrintLast Go.Proofs.YtamcicojockhpaaGreatDoorW.PrintMore
open Go.Proofs.YtamcicojockhpaaGreatDoor.Lx Go.Proofs.YtamcicojockhpaaGreatDoor.PS
def KeptT (w w' : World) : Prop := ∀ (k : Nat) (cs : Array Value), w.heap[k]? = some (.cells cs 51 (0, 0)) → w'.heap[k]? = some (.cells cs 51 (0, 0))
theorem KeptT.trans {w w1 w2 : World} (h : KeptT w w1) (k : KeptT w1 w2) : KeptT w w2 := fun j cs e => k j cs (h j cs e)
theorem KeptT.below {w w' : World} (h : Below w.heap.size w w') : KeptT w w' := fun k cs e => (h.block k (blk_lt e)).trans e
theorem KeptT.kept {Br b : Nat} {v : Value} {bs : List Value} {w w' : World} (h : BAt Br b v bs w) (hk : Kept b v w w') : KeptT w w' := by
 intro k cs e
 refine (hk.2 k (blk_lt e) ?_ ?_).trans e
 · rintro rfl
   rcases h.blk with hb | hb
   · rw [hb] at e
     injection e with e
     injection e with _ e _
     exact absurd e (by decide)
   · rw [hb] at e
     injection e with e
     injection e with _ e _
     exact absurd e (by decide)
 · intro ho
   rcases h.row.2 with ⟨rfl, _⟩ | ⟨g, cap, cur, rfl, _, hg, _⟩
   · simp [Value.ownBlock] at ho
   · have : g = k := by simpa [Value.ownBlock] using ho
     subst this
     rw [hg] at e
     injection e with e
     injection e with _ e _
     exact absurd e (by decide)
def WroteQ (Br b : Nat) (bs out : List UInt8) (w : World) (e : Ending) (w' : World) : Prop :=
 e = .returned (.tuple #[]) ∧ ∃ v', BAt Br b v' (Lib.byteCells (bs ++ out)) w' ∧ Below b w w' ∧ KeptT w w'
theorem byteCells_app (a c : List UInt8) : Lib.byteCells (a ++ c) = Lib.byteCells a ++ Lib.byteCells c := by simp [Lib.byteCells]
theorem byteCells_len (a : List UInt8) : (Lib.byteCells a).length = a.length := by simp [Lib.byteCells]
theorem bat_blw {Br b : Nat} {v : Value} {bs : List Value} {w w' : World} (h : BAt Br b v bs w) (hb : Below w.heap.size w w') : BAt Br b v bs w' := h.move fun k hk _ => hb.block k hk
theorem quote_ge (t : List UInt8) : t.length ≤ (quoteR t).length := by
 have h : t.length ≤ (t.flatMap quoteB).length := by
  induction t with
  | nil => simp
  | cons c t ih =>
   have hc : 1 ≤ (quoteB c).length := by
    unfold quoteB
    split
    · simp
    · split
      · simp
      · split
        · simp
        · split <;> simp
   simp only [List.flatMap_cons, List.length_append, List.length_cons]
   omega
 unfold quoteR
 simp only [List.length_cons, List.length_append, List.length_nil]
 omega
set_option maxRecDepth 100000 in
set_option maxHeartbeats 1000000 in
theorem write_1 (n : Int) (t : ByteArray) (A3 : Option Addr) (n3 c3 : Nat) (A4 : Option Addr) (n4 c4 : Nat) (w : World) (Br b : Nat) (v : Value) (bs : List UInt8) (hb : BAt Br b v (Lib.byteCells bs) w) (hBr : Br ≤ w.heap.size) (hl : bs.length + wNul.length ≤ 10000000000000) :
 Calls Tryz.prog 64 #[.pointer (some ⟨b, 0, none⟩), .agg #[.int .i64 1, .int .i64 n, .string t, .slice A3 n3 c3, .slice A4 n4 c4]] w (WroteQ Br b bs wNul w) := by
 have hba := (Below.refl w.heap.size w).alloc (Nat.le_refl _) (.cells #[.int .i64 1, .int .i64 n, .string t, .slice A3 n3 c3, .slice A4 n4 c4] 51 (0, 0))
 have HB1 := Aside0.mk (bat_blw hb hba)
 have HBA := Aside0.mk hba
 have hbl := hb.blt
 have hlb := hba.size
 clear hb hba
 go_enter Tryz.func64, Tryz.ntmps64
 go_wp2_with fail
 refine (Write_calls Br b v _ ⟨wNul.toArray⟩ _ HB1.out (by rw [byteCells_len]; simp [ByteArray.size, wNul] at hl ⊢; omega) (by omega)).mono ?_
 rintro e w1 ⟨rfl, v1, h1, k1⟩
 rw [strCells_list, ← byteCells_app] at h1
 have H1 := Aside0.mk h1
 have K1 := Aside0.mk k1
 clear h1 k1
 go_wp2
 go_end0
 exact ⟨rfl, v1, H1.out, (HBA.out.mono (by omega)).trans K1.out.1, (KeptT.below HBA.out).trans (KeptT.kept HB1.out K1.out)⟩
set_option maxRecDepth 100000 in
set_option maxHeartbeats 1000000 in
theorem write_2 (n : Int) (t : ByteArray) (A3 : Option Addr) (n3 c3 : Nat) (A4 : Option Addr) (n4 c4 : Nat) (w : World) (Br b : Nat) (v : Value) (bs : List UInt8) (hb : BAt Br b v (Lib.byteCells bs) w) (hBr : Br ≤ w.heap.size) (hl : bs.length + (Lib.formatBool (n == 1)).length ≤ 10000000000000) :
 Calls Tryz.prog 64 #[.pointer (some ⟨b, 0, none⟩), .agg #[.int .i64 2, .int .i64 n, .string t, .slice A3 n3 c3, .slice A4 n4 c4]] w (WroteQ Br b bs (Lib.formatBool (n == 1)) w) := by
 have hba := (Below.refl w.heap.size w).alloc (Nat.le_refl _) (.cells #[.int .i64 2, .int .i64 n, .string t, .slice A3 n3 c3, .slice A4 n4 c4] 51 (0, 0))
 have HB1 := Aside0.mk (bat_blw hb hba)
 have HBA := Aside0.mk hba
 have hbl := hb.blt
 have hlb := hba.size
 have HL := Aside0.mk hl
 clear hb hba hl
 go_enter Tryz.func64, Tryz.ntmps64
 go_wp2_with fail
 refine (Tryz.strconv_FormatBool (n == 1) _).mono ?_
 rintro e w1 ⟨rfl, rfl⟩
 generalize Lib.formatBool (n == 1) = out at *
 go_wp2_with fail
 refine (Write_calls Br b v _ ⟨out.toArray⟩ _ HB1.out (by have := HL.out; rw [byteCells_len]; simp [ByteArray.size] at this ⊢; omega) (by omega)).mono ?_
 rintro e w1 ⟨rfl, v1, h1, k1⟩
 rw [strCells_list, ← byteCells_app] at h1
 have H1 := Aside0.mk h1
 have K1 := Aside0.mk k1
 clear h1 k1
 go_wp2
 go_end0
 exact ⟨rfl, v1, H1.out, (HBA.out.mono (by omega)).trans K1.out.1, (KeptT.below HBA.out).trans (KeptT.kept HB1.out K1.out)⟩
set_option maxRecDepth 100000 in
set_option maxHeartbeats 1000000 in
theorem write_3 (n : Int) (hn : -9223372036854775808 ≤ n ∧ n ≤ 9223372036854775807) (t : ByteArray) (A3 : Option Addr) (n3 c3 : Nat) (A4 : Option Addr) (n4 c4 : Nat) (w : World) (Br b : Nat) (v : Value) (bs : List UInt8) (hb : BAt Br b v (Lib.byteCells bs) w) (hBr : Br ≤ w.heap.size) (hl : bs.length + (Lib.itoa n).length ≤ 10000000000000) (hlw : ∀ w1, Below w.heap.size w w1 → LW w1) :
 Calls Tryz.prog 64 #[.pointer (some ⟨b, 0, none⟩), .agg #[.int .i64 3, .int .i64 n, .string t, .slice A3 n3 c3, .slice A4 n4 c4]] w (WroteQ Br b bs (Lib.itoa n) w) := by
 have hba := (Below.refl w.heap.size w).alloc (Nat.le_refl _) (.cells #[.int .i64 3, .int .i64 n, .string t, .slice A3 n3 c3, .slice A4 n4 c4] 51 (0, 0))
 have HLW := Aside0.mk (hlw _ hba)
 have HB1 := Aside0.mk (bat_blw hb hba)
 have HBA := Aside0.mk hba
 have hbl := hb.blt
 have hlb := hba.size
 have HL := Aside0.mk hl
 have HN := Aside0.mk hn
 clear hb hba hl hn hlw
 go_enter Tryz.func64, Tryz.ntmps64
 go_wp2_with fail
 refine (Tryz.strconv_FormatInt_10 n HN.out.1 HN.out.2 _ HLW.out.p10).mono ?_
 rintro e W2 ⟨rfl, k, os, hw⟩
 have hb2 : Below (w.alloc (.cells #[.int .i64 3, .int .i64 n, .string t, .slice A3 n3 c3, .slice A4 n4 c4] 51 (0, 0))).heap.size (w.alloc (.cells #[.int .i64 3, .int .i64 n, .string t, .slice A3 n3 c3, .slice A4 n4 c4] 51 (0, 0))) W2 := by
  rw [hw]
  exact Lib.below_grow _ _ (Nat.le_refl _) _ _
 clear hw
 have HB2 := Aside0.mk (bat_blw HB1.out hb2)
 have HBB := Aside0.mk hb2
 have hs2 := hb2.size
 clear hb2
 generalize Lib.itoa n = out at *
 go_wp2_with fail
 refine (Write_calls Br b v _ ⟨out.toArray⟩ _ HB2.out (by have := HL.out; rw [byteCells_len]; simp [ByteArray.size] at this ⊢; omega) (by omega)).mono ?_
 rintro e w1 ⟨rfl, v1, h1, k1⟩
 rw [strCells_list, ← byteCells_app] at h1
 have H1 := Aside0.mk h1
 have K1 := Aside0.mk k1
 clear h1 k1
 go_wp2
 go_end0
 exact ⟨rfl, v1, H1.out, ((HBA.out.mono (by omega)).trans (HBB.out.mono (by omega))).trans K1.out.1, ((KeptT.below HBA.out).trans (KeptT.below HBB.out)).trans (KeptT.kept HB2.out K1.out)⟩
set_option maxRecDepth 100000 in
set_option maxHeartbeats 1000000 in
theorem write_4 (n : Int) (t : List UInt8) (A3 : Option Addr) (n3 c3 : Nat) (A4 : Option Addr) (n4 c4 : Nat) (w : World) (Br b : Nat) (v : Value) (bs : List UInt8) (hb : BAt Br b v (Lib.byteCells bs) w) (hBr : Br ≤ w.heap.size) (hl : bs.length + (quoteR t).length ≤ 10000000000000) (hlw : ∀ w1, Below w.heap.size w w1 → LW w1) :
 Calls Tryz.prog 64 #[.pointer (some ⟨b, 0, none⟩), .agg #[.int .i64 4, .int .i64 n, .string ⟨t.toArray⟩, .slice A3 n3 c3, .slice A4 n4 c4]] w (WroteQ Br b bs (quoteR t) w) := by
 have hba := (Below.refl w.heap.size w).alloc (Nat.le_refl _) (.cells #[.int .i64 4, .int .i64 n, .string ⟨t.toArray⟩, .slice A3 n3 c3, .slice A4 n4 c4] 51 (0, 0))
 have HQ := Aside0.mk (Quote_calls t (w.alloc (.cells #[.int .i64 4, .int .i64 n, .string ⟨t.toArray⟩, .slice A3 n3 c3, .slice A4 n4 c4] 51 (0, 0))) (by have := quote_ge t; omega) (fun w1 h1 => (hlw w1 (hba.trans (h1.mono hba.size))).deb))
 have HB1 := Aside0.mk (bat_blw hb hba)
 have HBA := Aside0.mk hba
 have hbl := hb.blt
 have hlb := hba.size
 have HL := Aside0.mk hl
 clear hb hba hl hlw
 go_enter Tryz.func64, Tryz.ntmps64
 go_wp2_with fail
 refine HQ.out.mono ?_
 rintro e W2 ⟨rfl, hb2⟩
 have HB2 := Aside0.mk (bat_blw HB1.out hb2)
 have HBB := Aside0.mk hb2
 have hs2 := hb2.size
 clear hb2 HQ
 generalize quoteR t = out at *
 go_wp2_with fail
 refine (Write_calls Br b v _ ⟨out.toArray⟩ _ HB2.out (by have := HL.out; rw [byteCells_len]; simp [ByteArray.size] at this ⊢; omega) (by omega)).mono ?_
 rintro e w1 ⟨rfl, v1, h1, k1⟩
 rw [strCells_list, ← byteCells_app] at h1
 have H1 := Aside0.mk h1
 have K1 := Aside0.mk k1
 clear h1 k1
 go_wp2
 go_end0
 exact ⟨rfl, v1, H1.out, ((HBA.out.mono (by omega)).trans (HBB.out.mono (by omega))).trans K1.out.1, ((KeptT.below HBA.out).trans (KeptT.below HBB.out)).trans (KeptT.kept HB2.out K1.out)⟩
end Go.Proofs.YtamcicojockhpaaGreatDoor.Tr
end
section
set_option linter.unusedVariables false
set_option linter.unusedSimpArgs false
namespace Go.Proofs.YtamcicojockhpaaGreatDoor.Tr
open Go.RowKit Go.Proofs.YtamcicojockhpaaGreatDoorW.PrintWords Go.Proofs.YtamcicojockhpaaGreatDoorW.PrintLast Go.Proofs.YtamcicojockhpaaGreatDoorW.PrintMore
open Go.Proofs.YtamcicojockhpaaGreatDoor.Lx Go.Proofs.YtamcicojockhpaaGreatDoor.PS
theorem elemsW_app (f : V → List UInt8) (m : Bool) : ∀ (a b : List V) (i : Nat) (ns : List ByteArray), elemsW f m i (a ++ b) ns = elemsW f m i a ns ++ elemsW f m (i + a.length) b (ns.drop a.length)
 | [], b, i, ns => by simp [elemsW]
 | y :: a, b, i, ns => by
  simp only [List.cons_append, elemsW, elemsW_app f m a b, List.append_assoc, List.length_cons]
  rw [List.drop_tail, show i + 1 + a.length = i + (a.length + 1) by omega]
theorem elemsW_len (f : V → List UInt8) (m : Bool) (l : List V) (ns : List ByteArray) (k : Nat) : (elemsW f m 0 (l.take k) ns).length ≤ (elemsW f m 0 l ns).length := by
 conv => rhs; rw [← List.take_append_drop k l]
 rw [elemsW_app, List.length_append]
 omega
theorem elemsW_next (f : V → List UInt8) (m : Bool) (l : List V) (ns : List ByteArray) (k : Nat) (h : k < l.length) :
 elemsW f m 0 (l.take (k + 1)) ns = elemsW f m 0 (l.take k) ns ++ ((if k = 0 then [] else [44]) ++ ((if m = true then quoteR (ns.getD k ByteArray.empty).data.toList ++ [58] else []) ++ f l[k])) := by
 rw [List.take_succ_eq_append_getElem h, elemsW_app]
 have e : (l.take k).length = k := by rw [List.length_take]; omega
 have e2 : (ns.drop k).headD ByteArray.empty = ns.getD k ByteArray.empty := by
  rw [List.headD_eq_head?_getD, List.head?_drop, List.getD_eq_getElem?_getD]
 rw [e, Nat.zero_add]
 simp only [elemsW, List.append_nil, List.append_assoc, e2]
def WriteC (d : Nat) : Prop := ∀ (x : V) (A3 : Option Addr) (c3 : Nat) (A4 : Option Addr) (c4 : Nat) (w0 w : World) (Br b : Nat) (v : Value) (bs : List UInt8), Ok d x → x.f3.length ≤ c3 → k51.C w0 A3 x.f3.length x.f3 → x.f4.length ≤ c4 → Kd.string.C w0 A4 x.f4.length x.f4 →
 Below w0.heap.size w0 w → w0.heap.size ≤ b → BAt Br b v (Lib.byteCells bs) w → Br ≤ w.heap.size → bs.length + (writeD d x).length ≤ 10000000000000 → (∀ w1, Below w0.heap.size w0 w1 → LW w1) →
 Calls Tryz.prog 64 #[.pointer (some ⟨b, 0, none⟩), vArg x A3 c3 A4 c4] w (WroteQ Br b bs (writeD d x) w)
set_option maxRecDepth 100000 in
set_option maxHeartbeats 2000000 in
theorem write_arr (d : Nat) (IH : WriteC d) (n : Int) (t : ByteArray) (rs : List V) (ns : List ByteArray) (A3 : Option Addr) (c3 : Nat) (A4 : Option Addr) (n4 c4 : Nat) (w0 w : World) (Br b : Nat) (v : Value) (bs : List UInt8) (hok : ∀ y ∈ rs, Ok d y) (hl3 : rs.length ≤ 1000000000000) (l3 : rs.length ≤ c3)
 (g3 : k51.C w0 A3 rs.length rs) (hb0 : Below w0.heap.size w0 w) (h0b : w0.heap.size ≤ b) (hb : BAt Br b v (Lib.byteCells bs) w) (hBr : Br ≤ w.heap.size) (hl : bs.length + (elemsW (writeD d) false 0 rs ns).length + 2 ≤ 10000000000000) (hlw : ∀ w1, Below w0.heap.size w0 w1 → LW w1) :
 Calls Tryz.prog 64 #[.pointer (some ⟨b, 0, none⟩), .agg #[.int .i64 5, .int .i64 n, .string t, .slice A3 rs.length c3, .slice A4 n4 c4]] w (WroteQ Br b bs ([91] ++ elemsW (writeD d) false 0 rs ns ++ [93]) w) := by
 have hba := (Below.refl w.heap.size w).alloc (Nat.le_refl _) (.cells #[.int .i64 5, .int .i64 n, .string t, .slice A3 rs.length c3, .slice A4 n4 c4] 51 (0, 0))
 have nv := blk_new w (.cells #[.int .i64 5, .int .i64 n, .string t, .slice A3 rs.length c3, .slice A4 n4 c4] 51 (0, 0))
 have HB1 := Aside0.mk (bat_blw hb hba)
 have HBA := Aside0.mk hba
 have hbl := hb.blt
 have hlb : (w.alloc (.cells #[.int .i64 5, .int .i64 n, .string t, .slice A3 rs.length c3, .slice A4 n4 c4] 51 (0, 0))).heap.size = w.heap.size + 1 := by simp
 have HL := Aside0.mk hl
 have HG := Aside0.mk g3
 have HB0 := Aside0.mk hb0
 have HOK := Aside0.mk hok
 have HLW := Aside0.mk hlw
 have HIH := Aside0.mk IH
 have NV := Aside0.mk nv
 clear hb hba hl g3 hb0 hok hlw IH nv
 go_enter Tryz.func64, Tryz.ntmps64
 go_wp2_with fail
 refine (Write_calls Br b v _ ⟨[91].toArray⟩ _ HB1.out (by have := HL.out; rw [byteCells_len]; simp [ByteArray.size] at this ⊢; omega) (by omega)).mono ?_
 rintro e w1 ⟨rfl, v1, h1, k1⟩
 rw [strCells_list, ← byteCells_app] at h1
 have hv1 := (KeptT.kept HB1.out k1) _ _ NV.out
 have x0 : w1.cell? ⟨w.heap.size, 0, none⟩ = some (.int .i64 5) := blk_cell hv1 0
 have x3 : w1.cell? ⟨w.heap.size, 3, none⟩ = some (.slice A3 rs.length c3) := blk_cell hv1 3
 have hs1 : w.heap.size + 1 ≤ w1.heap.size := by have := k1.1.size; omega
 have HH1 := Aside0.mk h1
 have HV1 := Aside0.mk hv1
 have HK1 := Aside0.mk ((KeptT.below HBA.out).trans (KeptT.kept HB1.out k1))
 have HW1 := Aside0.mk ((HBA.out.mono (show b ≤ w.heap.size by omega)).trans k1.1)
 clear h1 k1 hv1 hlb
 go_wp2_with fail
 go_loopg [5, 6, 48] rs.length (fun kq v5 v6 v48 w2 => ∃ (k : Nat) (v' : Value), k + kq = rs.length ∧ v48 = .int .i64 k ∧ w.heap.size + 1 ≤ w2.heap.size ∧ Aside0 (BAt Br b v' (Lib.byteCells (bs ++ [91] ++ elemsW (writeD d) false 0 (rs.take k) ns)) w2) ∧ Aside0 (Below b w w2) ∧ Aside0 (KeptT w w2) ∧ Aside0 (w2.heap[w.heap.size]? = some (.cells #[.int .i64 5, .int .i64 n, .string t, .slice A3 rs.length c3, .slice A4 n4 c4] 51 (0, 0))))
 case atStart => exact ⟨0, v1, by omega, rfl, hs1, Aside0.mk (by simpa [elemsW] using HH1.out), HW1, HK1, HV1⟩
 case round =>
  obtain ⟨k, v', hk, rfl, hsr, HR, HWR, HKR, HVR⟩ := hrel
  clear x0 x3 HH1 HV1 HK1 HW1 hs1
  cases gk with
  | zero =>
   have hge : ¬ ((k : Nat) : Int) < (rs.length : Int) := by omega
   have HE := Aside0.mk (show rs.take k = rs from List.take_of_length_le (by omega))
   go_wp2_with fail
   refine (Write_calls Br b v' _ ⟨[93].toArray⟩ _ HR.out (by have := HL.out; rw [byteCells_len, HE.out]; simp [ByteArray.size] at this ⊢; omega) (by omega)).mono ?_
   rintro e w3 ⟨rfl, v3, h3, k3⟩
   rw [strCells_list, ← byteCells_app, HE.out] at h3
   have H3 := Aside0.mk h3
   have K3 := Aside0.mk k3
   clear h3 k3
   go_wp2
   go_end0
   exact ⟨rfl, v3, by simpa using H3.out, HWR.out.trans K3.out.1, HKR.out.trans (KeptT.kept HR.out K3.out)⟩
  | succ k1 =>
   have hlt : ((k : Nat) : Int) < (rs.length : Int) := by omega
   have hlt' : k < rs.length := by omega
   obtain ⟨ad, B3, e3, B4, e4, e, r0, r1, r2, r3, r4, m3, g3, m4, g4⟩ := at_T51 HG.out k (by omega) hlt
   cases e
   have hrd : rd_T51 rs k = rs[k] := by simp [rd_T51, List.getD, List.getElem?_eq_getElem hlt']
   rw [hrd] at r0 r1 r2 r3 r4 m3 g3 m4 g4
   rw [Int.toNat_natCast] at r0 r1 r2 r3 r4
   have hbR : Below w0.heap.size w0 wr := HB0.out.trans (HWR.out.mono h0b)
   replace r0 := cell_below' hbR r0
   replace r1 := cell_below' hbR r1
   replace r2 := cell_below' hbR r2
   replace r3 := cell_below' hbR r3
   replace r4 := cell_below' hbR r4
   have HNX := Aside0.mk (elemsW_next (writeD d) false rs ns k hlt')
   have HLN := Aside0.mk (elemsW_len (writeD d) false rs ns (k + 1))
   have HOX := Aside0.mk (HOK.out rs[k] (List.getElem_mem _))
   have HC := Aside0.mk (And.intro m3 (And.intro g3 (And.intro m4 g4)))
   have HBR := Aside0.mk hbR
   clear hrd m3 g3 m4 g4 hbR
   generalize rs[k] = x at *
   have y0 : wr.cell? ⟨w.heap.size, 0, none⟩ = some (.int .i64 5) := blk_cell HVR.out 0
   have y0' := cellA y0
   have hb2 := (Below.refl wr.heap.size wr).alloc (Nat.le_refl _) (.cells #[.int .i64 x.f0, .int .i64 x.f1, .string x.f2, .slice B3 x.f3.length e3, .slice B4 x.f4.length e4] 51 (0, 0))
   have HR2 := Aside0.mk (bat_blw HR.out hb2)
   have NV2 := Aside0.mk (blk_new wr (.cells #[.int .i64 x.f0, .int .i64 x.f1, .string x.f2, .slice B3 x.f3.length e3, .slice B4 x.f4.length e4] 51 (0, 0)))
   have HV2 := Aside0.mk ((hb2.block _ (blk_lt HVR.out)).trans HVR.out)
   have HB2 := Aside0.mk hb2
   have hs2 := hb2.size
   clear hb2
   have HWL := Aside0.mk (show (elemsW (writeD d) false 0 (rs.take k) ns).length + (if k = 0 then 0 else 1) + (writeD d x).length = (elemsW (writeD d) false 0 (rs.take (k + 1)) ns).length by
    rw [HNX.out]
    simp only [List.length_append, if_neg (show ¬ (false = true) by decide), List.length_nil, Nat.zero_add]
    split <;> simp <;> omega)
   have HB02 := Aside0.mk (HBR.out.trans (HB2.out.mono HBR.out.size))
   have HSB := Aside0.mk (And.intro (show b ≤ wr.heap.size by omega) (show Br ≤ wr.heap.size by omega))
   by_cases hk0 : k = 0
   · have hgt : ¬ ((k : Nat) : Int) > 0 := by omega
     have HK0 := Aside0.mk hk0
     clear hk0
     go_wp2_with fail
     have H := Aside0.mk (HIH.out x B3 e3 B4 e4 w0 _ Br b v' _ HOX.out HC.out.1 HC.out.2.1 HC.out.2.2.1 HC.out.2.2.2 HB02.out h0b HR2.out (by have := HSB.out.2; omega) (by have h1 := HL.out; have h2 := HWL.out; have h3 := HLN.out; rw [if_pos HK0.out] at h2; simp only [List.length_append, List.length_cons, List.length_nil]; omega) HLW.out)
     unfold vArg at H
     refine H.out.mono ?_
     rintro e w5 ⟨rfl, v5, h5, b5, k5⟩
     have H5 := Aside0.mk h5
     have B5 := Aside0.mk (HWR.out.trans ((HB2.out.mono HSB.out.1).trans b5))
     have K5 := Aside0.mk (HKR.out.trans ((KeptT.below HB2.out).trans k5))
     have V5 := Aside0.mk (k5 _ _ HV2.out)
     have S5 := b5.size
     clear h5 b5 k5
     go_wp2
     go_roundg k1
     case measure => omega
     case rel => exact ⟨k + 1, v5, by omega, by go_num, by omega, Aside0.mk (by rw [HNX.out, if_pos HK0.out]; simpa using H5.out), B5, K5, V5⟩
   · have hgt : ((k : Nat) : Int) > 0 := by omega
     have HK0 := Aside0.mk hk0
     clear hk0
     go_wp2_with fail
     refine (WriteByte_calls Br b v' _ 44 _ HR2.out (by have h1 := HL.out; have h3 := elemsW_len (writeD d) false rs ns k; rw [byteCells_len]; simp only [List.length_append, List.length_cons, List.length_nil]; omega) (by have := HSB.out.2; omega)).mono ?_
     rintro e w4 ⟨rfl, v4, h4, k4⟩
     rw [byteCells_snoc] at h4
     have hv4 := KeptT.kept HR2.out k4 _ _ HV2.out
     have hx4 := KeptT.kept HR2.out k4 _ _ NV2.out
     have z0 : w4.cell? ⟨w.heap.size, 0, none⟩ = some (.int .i64 5) := blk_cell hv4 0
     have t0 : w4.cell? ⟨wr.heap.size, 0, none⟩ = some (.int .i64 x.f0) := blk_cell hx4 0
     have t1 : w4.cell? ⟨wr.heap.size, 1, none⟩ = some (.int .i64 x.f1) := blk_cell hx4 1
     have t2 : w4.cell? ⟨wr.heap.size, 2, none⟩ = some (.string x.f2) := blk_cell hx4 2
     have t3 : w4.cell? ⟨wr.heap.size, 3, none⟩ = some (.slice B3 x.f3.length e3) := blk_cell hx4 3
     have t4 : w4.cell? ⟨wr.heap.size, 4, none⟩ = some (.slice B4 x.f4.length e4) := blk_cell hx4 4
     have s4 := k4.1.size
     have HS4 := Aside0.mk s4
     have H4 := Aside0.mk h4
     have HB4 := Aside0.mk ((HB2.out.mono HSB.out.1).trans k4.1)
     have HK4 := Aside0.mk ((KeptT.below HB2.out).trans (KeptT.kept HR2.out k4))
     have HV4 := Aside0.mk hv4
     clear h4 k4 hv4 hx4 r0 r1 r2 r3 r4 y0 y0' s4
     go_wp2_with fail
     have H := Aside0.mk (HIH.out x B3 e3 B4 e4 w0 _ Br b v4 _ HOX.out HC.out.1 HC.out.2.1 HC.out.2.2.1 HC.out.2.2.2 (HBR.out.trans (HB4.out.mono h0b)) h0b H4.out (by have := HSB.out.2; have := HS4.out; omega) (by have h1 := HL.out; have h2 := HWL.out; have h3 := HLN.out; rw [if_neg HK0.out] at h2; simp only [List.length_append, List.length_cons, List.length_nil]; omega) HLW.out)
     unfold vArg at H
     refine H.out.mono ?_
     rintro e w5 ⟨rfl, v5, h5, b5, k5⟩
     have H5 := Aside0.mk h5
     have B5 := Aside0.mk (HWR.out.trans (HB4.out.trans b5))
     have K5 := Aside0.mk (HKR.out.trans (HK4.out.trans k5))
     have V5 := Aside0.mk (k5 _ _ HV4.out)
     have S5 := b5.size
     have S4 := HS4.out
     clear h5 b5 k5 z0 t0 t1 t2 t3 t4
     go_wp2
     go_roundg k1
     case measure => omega
     case rel => exact ⟨k + 1, v5, by omega, by go_num, by omega, Aside0.mk (by rw [HNX.out, if_neg HK0.out]; simpa using H5.out), B5, K5, V5⟩
end Go.Proofs.YtamcicojockhpaaGreatDoor.Tr
end
section
set_option linter.unusedVariables false
set_option linter.unusedSimpArgs false
namespace Go.Proofs.YtamcicojockhpaaGreatDoor.Tr
open Go.RowKit Go.Proofs.YtamcicojockhpaaGreatDoorW.PrintWords Go.Proofs.YtamcicojockhpaaGreatDoorW.PrintLast Go.Proofs.YtamcicojockhpaaGreatDoorW.PrintMore
open Go.Proofs.YtamcicojockhpaaGreatDoor.Lx Go.Proofs.YtamcicojockhpaaGreatDoor.PS
set_option maxRecDepth 100000 in
set_option maxHeartbeats 2000000 in
theorem write_map (d : Nat) (IH : WriteC d) (n : Int) (t : ByteArray) (rs : List V) (ns : List ByteArray) (A3 : Option Addr) (c3 : Nat) (A4 : Option Addr) (c4 : Nat) (w0 w : World) (Br b : Nat) (v : Value) (bs : List UInt8) (hok : ∀ y ∈ rs, Ok d y) (hl3 : rs.length ≤ 1000000000000) (l3 : rs.length ≤ c3)
 (g3 : k51.C w0 A3 rs.length rs) (hns : ns.length = rs.length) (l4 : ns.length ≤ c4) (g4 : Kd.string.C w0 A4 ns.length ns) (hb0 : Below w0.heap.size w0 w) (h0b : w0.heap.size ≤ b) (hb : BAt Br b v (Lib.byteCells bs) w) (hBr : Br ≤ w.heap.size) (hl : bs.length + (elemsW (writeD d) true 0 rs ns).length + 2 ≤ 10000000000000) (hlw : ∀ w1, Below w0.heap.size w0 w1 → LW w1) :
 Calls Tryz.prog 64 #[.pointer (some ⟨b, 0, none⟩), .agg #[.int .i64 6, .int .i64 n, .string t, .slice A3 rs.length c3, .slice A4 ns.length c4]] w (WroteQ Br b bs ([123] ++ elemsW (writeD d) true 0 rs ns ++ [125]) w) := by
 have hba := (Below.refl w.heap.size w).alloc (Nat.le_refl _) (.cells #[.int .i64 6, .int .i64 n, .string t, .slice A3 rs.length c3, .slice A4 ns.length c4] 51 (0, 0))
 have nv := blk_new w (.cells #[.int .i64 6, .int .i64 n, .string t, .slice A3 rs.length c3, .slice A4 ns.length c4] 51 (0, 0))
 have HB1 := Aside0.mk (bat_blw hb hba)
 have HBA := Aside0.mk hba
 have hbl := hb.blt
 have hlb : (w.alloc (.cells #[.int .i64 6, .int .i64 n, .string t, .slice A3 rs.length c3, .slice A4 ns.length c4] 51 (0, 0))).heap.size = w.heap.size + 1 := by simp
 have HL := Aside0.mk hl
 have HG := Aside0.mk g3
 have HG4 := Aside0.mk g4
 have HNS := Aside0.mk hns
 have HB0 := Aside0.mk hb0
 have HOK := Aside0.mk hok
 have HLW := Aside0.mk hlw
 have HIH := Aside0.mk IH
 have NV := Aside0.mk nv
 clear hb hba hl g3 g4 hns hb0 hok hlw IH nv
 go_enter Tryz.func64, Tryz.ntmps64
 go_wp2_with fail
 refine (Write_calls Br b v _ ⟨[123].toArray⟩ _ HB1.out (by have := HL.out; rw [byteCells_len]; simp [ByteArray.size] at this ⊢; omega) (by omega)).mono ?_
 rintro e w1 ⟨rfl, v1, h1, k1⟩
 rw [strCells_list, ← byteCells_app] at h1
 have hv1 := (KeptT.kept HB1.out k1) _ _ NV.out
 have x0 : w1.cell? ⟨w.heap.size, 0, none⟩ = some (.int .i64 6) := blk_cell hv1 0
 have x4 : w1.cell? ⟨w.heap.size, 4, none⟩ = some (.slice A4 ns.length c4) := blk_cell hv1 4
 have x3 : w1.cell? ⟨w.heap.size, 3, none⟩ = some (.slice A3 rs.length c3) := blk_cell hv1 3
 have hs1 : w.heap.size + 1 ≤ w1.heap.size := by have := k1.1.size; omega
 have HH1 := Aside0.mk h1
 have HV1 := Aside0.mk hv1
 have HK1 := Aside0.mk ((KeptT.below HBA.out).trans (KeptT.kept HB1.out k1))
 have HW1 := Aside0.mk ((HBA.out.mono (show b ≤ w.heap.size by omega)).trans k1.1)
 clear h1 k1 hv1 hlb
 go_wp2_with fail
 go_loopg [5, 6, 48] rs.length (fun kq v5 v6 v48 w2 => ∃ (k : Nat) (v' : Value), k + kq = rs.length ∧ v48 = .int .i64 k ∧ w.heap.size + 1 ≤ w2.heap.size ∧ Aside0 (BAt Br b v' (Lib.byteCells (bs ++ [123] ++ elemsW (writeD d) true 0 (rs.take k) ns)) w2) ∧ Aside0 (Below b w w2) ∧ Aside0 (KeptT w w2) ∧ Aside0 (w2.heap[w.heap.size]? = some (.cells #[.int .i64 6, .int .i64 n, .string t, .slice A3 rs.length c3, .slice A4 ns.length c4] 51 (0, 0))))
 case atStart => exact ⟨0, v1, by omega, rfl, hs1, Aside0.mk (by simpa [elemsW] using HH1.out), HW1, HK1, HV1⟩
 case round =>
  obtain ⟨k, v', hk, rfl, hsr, HR, HWR, HKR, HVR⟩ := hrel
  clear x0 x3 x4 HH1 HV1 HK1 HW1 hs1
  cases gk with
  | zero =>
   have hge : ¬ ((k : Nat) : Int) < (rs.length : Int) := by omega
   have HE := Aside0.mk (show rs.take k = rs from List.take_of_length_le (by omega))
   go_wp2_with fail
   refine (Write_calls Br b v' _ ⟨[125].toArray⟩ _ HR.out (by have := HL.out; rw [byteCells_len, HE.out]; simp [ByteArray.size] at this ⊢; omega) (by omega)).mono ?_
   rintro e w3 ⟨rfl, v3, h3, k3⟩
   rw [strCells_list, ← byteCells_app, HE.out] at h3
   have H3 := Aside0.mk h3
   have K3 := Aside0.mk k3
   clear h3 k3
   go_wp2
   go_end0
   exact ⟨rfl, v3, by simpa using H3.out, HWR.out.trans K3.out.1, HKR.out.trans (KeptT.kept HR.out K3.out)⟩
  | succ k1 =>
   have hlt : ((k : Nat) : Int) < (rs.length : Int) := by omega
   have hlt' : k < rs.length := by omega
   obtain ⟨ad, B3, e3, B4, e4, e, r0, r1, r2, r3, r4, m3, g3, m4, g4⟩ := at_T51 HG.out k (by omega) hlt
   cases e
   have hrd : rd_T51 rs k = rs[k] := by simp [rd_T51, List.getD, List.getElem?_eq_getElem hlt']
   rw [hrd] at r0 r1 r2 r3 r4 m3 g3 m4 g4
   rw [Int.toNat_natCast] at r0 r1 r2 r3 r4
   have hbR : Below w0.heap.size w0 wr := HB0.out.trans (HWR.out.mono h0b)
   replace r0 := cell_below' hbR r0
   replace r1 := cell_below' hbR r1
   replace r2 := cell_below' hbR r2
   replace r3 := cell_below' hbR r3
   replace r4 := cell_below' hbR r4
   obtain ⟨ad4, cs4, e, _, hK4, hc4⟩ := Kd.C_get HG4.out ByteArray.empty (k : Int) (by omega) (by rw [HNS.out]; exact hlt)
   cases e
   have hK4' : cs4 = [.string (ns.getD k ByteArray.empty)] := by simpa [Kd.string, Kd.scalar] using hK4
   subst hK4'
   have q0 : w0.cell? (ad4.add k) = some (.string (ns.getD k ByteArray.empty)) := by
    have := hc4 0 _ rfl
    simpa [Kd.string, Kd.scalar] using this
   have Q0w := q0
   replace q0 := cell_below' hbR q0
   have hlt4 : ((k : Nat) : Int) < (ns.length : Int) := by have := HNS.out; omega
   clear hK4 hc4
   have HNX := Aside0.mk (elemsW_next (writeD d) true rs ns k hlt')
   have HLN := Aside0.mk (elemsW_len (writeD d) true rs ns (k + 1))
   have HOX := Aside0.mk (HOK.out rs[k] (List.getElem_mem _))
   have HC := Aside0.mk (And.intro m3 (And.intro g3 (And.intro m4 g4)))
   have HBR := Aside0.mk hbR
   clear hrd m3 g3 m4 g4 hbR
   generalize rs[k] = x at *
   rw [if_pos rfl] at HNX
   have hnm : ns.getD k ByteArray.empty = ⟨(ns.getD k ByteArray.empty).data.toList.toArray⟩ := by cases ns.getD k ByteArray.empty; rfl
   rw [hnm] at q0 Q0w
   have Q0 := Aside0.mk Q0w
   clear Q0w
   clear hnm
   generalize (ns.getD k ByteArray.empty).data.toList = nme at *
   have y0 : wr.cell? ⟨w.heap.size, 0, none⟩ = some (.int .i64 6) := blk_cell HVR.out 0
   have y0' := cellA y0
   have y4 : wr.cell? ⟨w.heap.size, 4, none⟩ = some (.slice (some ad4) ns.length c4) := blk_cell HVR.out 4
   have y4' := cellA y4
   have q0' := cellA q0
   have hb2 := (Below.refl wr.heap.size wr).alloc (Nat.le_refl _) (.cells #[.int .i64 x.f0, .int .i64 x.f1, .string x.f2, .slice B3 x.f3.length e3, .slice B4 x.f4.length e4] 51 (0, 0))
   have HR2 := Aside0.mk (bat_blw HR.out hb2)
   have NV2 := Aside0.mk (blk_new wr (.cells #[.int .i64 x.f0, .int .i64 x.f1, .string x.f2, .slice B3 x.f3.length e3, .slice B4 x.f4.length e4] 51 (0, 0)))
   have HV2 := Aside0.mk ((hb2.block _ (blk_lt HVR.out)).trans HVR.out)
   have HB2 := Aside0.mk hb2
   have hs2 := hb2.size
   clear hb2
   have HWL := Aside0.mk (show (elemsW (writeD d) true 0 (rs.take k) ns).length + (if k = 0 then 0 else 1) + ((quoteR nme).length + 1) + (writeD d x).length = (elemsW (writeD d) true 0 (rs.take (k + 1)) ns).length by
    rw [HNX.out]
    simp only [List.length_append, List.length_cons, List.length_nil]
    split <;> simp <;> omega)
   have HB02 := Aside0.mk (HBR.out.trans (HB2.out.mono HBR.out.size))
   have HSB := Aside0.mk (And.intro (show b ≤ wr.heap.size by omega) (show Br ≤ wr.heap.size by omega))
   by_cases hk0 : k = 0
   · have hgt : ¬ ((k : Nat) : Int) > 0 := by omega
     have HK0 := Aside0.mk hk0
     obtain ⟨T, hT⟩ : ∃ T, T = (bs ++ [123] ++ elemsW (writeD d) true 0 (rs.take k) ns) := ⟨_, rfl⟩
     have HTl := Aside0.mk (show T.length + ((quoteR nme).length + 1) + (writeD d x).length ≤ 10000000000000 by
      have h1 := HL.out
      have h2 := HWL.out
      have h3 := HLN.out
      rw [if_pos HK0.out] at h2
      rw [hT]
      simp only [List.length_append, List.length_cons, List.length_nil]
      omega)
     have HTE := Aside0.mk (show T ++ (quoteR nme ++ [58]) ++ writeD d x = bs ++ [123] ++ elemsW (writeD d) true 0 (rs.take (k + 1)) ns by
      rw [HNX.out, if_pos HK0.out, hT]
      simp)
     have HBT := Aside0.mk hT
     clear hT
     have HBc := Aside0.mk (show BAt Br b v' (Lib.byteCells T) _ by rw [HBT.out]; exact HR2.out)
     have HVc := HV2
     have HXc := NV2
     have HCb := Aside0.mk (HB2.out.mono HSB.out.1)
     have HCk := Aside0.mk (KeptT.below HB2.out)
     have HCs := Aside0.mk (show wr.heap.size + 1 ≤ (wr.alloc (.cells #[.int .i64 x.f0, .int .i64 x.f1, .string x.f2, .slice B3 x.f3.length e3, .slice B4 x.f4.length e4] 51 (0, 0))).heap.size by simp)
     clear hk0
     go_wp2_with fail
     refine (Quote_calls nme _ (by have h1 := HTl.out; have h4 := quote_ge nme; omega) (fun w1 h1 => (HLW.out w1 ((HBR.out.trans (HCb.out.mono h0b)).trans (h1.mono (Nat.le_trans HBR.out.size (Nat.le_trans (Nat.le_succ _) HCs.out))))).deb)).mono ?_
     rintro e w6 ⟨rfl, b6⟩
     have hv6 := (b6.block _ (blk_lt HVc.out)).trans HVc.out
     have hx6 := (b6.block _ (blk_lt HXc.out)).trans HXc.out
     have HR6 := Aside0.mk (bat_blw HBc.out b6)
     have HV6 := Aside0.mk hv6
     have HX6 := Aside0.mk hx6
     have HS6 := Aside0.mk (Nat.le_trans HCs.out b6.size)
     have HB6 := Aside0.mk (HCb.out.trans (b6.mono (Nat.le_trans HSB.out.1 (Nat.le_trans (Nat.le_succ _) HCs.out))))
     have HK6 := Aside0.mk (HCk.out.trans (KeptT.below b6))
     clear hv6 hx6 b6 r0 r1 r2 r3 r4 y0 y0' y4 y4' q0 q0' HBc HVc HXc HCb HCk HCs HNX HWL
     generalize quoteR nme = qn at *
     have hqs : qn.length < 10000000000001 := by have h1 := HTl.out; omega
     have c1 : (9223372036854775807 < (ByteArray.mk qn.toArray).size + 1) = False := eq_false (Nat.not_lt.2 (by simp only [ByteArray.size, List.size_toArray]; omega))
     have c2 : (9223372036854775807 < qn.length + 1) = False := eq_false (Nat.not_lt.2 (by omega))
     have HCAT := Aside0.mk (show (ByteArray.mk qn.toArray) ++ (ByteArray.mk #[58]) = ByteArray.mk (qn ++ [58]).toArray by apply ByteArray.ext; simp)
     have hws : (Lib.byteCells T).length + (ByteArray.mk (qn ++ [58]).toArray).size ≤ 140737488355328 := by
      have h1 := HTl.out
      rw [byteCells_len]
      simp only [ByteArray.size, List.size_toArray, List.length_append, List.length_cons, List.length_nil]
      omega
     have HWS := Aside0.mk hws
     clear hqs hws
     go_wp2_with fail
     rw [HCAT.out]
     clear c1 c2
     have hbw : Br ≤ w6.heap.size := Nat.le_trans HSB.out.2 (Nat.le_trans (Nat.le_succ _) HS6.out)
     have hr6 := HR6.out
     have hws := HWS.out
     have HTl2 := Aside0.mk (show T.length + (qn ++ [58]).length + (writeD d x).length ≤ 10000000000000 by have h1 := HTl.out; simp only [List.length_append, List.length_cons, List.length_nil]; omega)
     clear HCAT HTl HWS
     generalize qn ++ [58] = qs at *
     have HW7 := Write_calls Br b _ (Lib.byteCells T) ⟨qs.toArray⟩ w6 hr6 hws hbw
     clear hws hr6
     refine HW7.mono ?_
     clear HW7
     rintro e w7 ⟨rfl, v7, h7, k7⟩
     rw [strCells_list, ← byteCells_app] at h7
     have hv7 := KeptT.kept HR6.out k7 _ _ HV6.out
     have hx7 := KeptT.kept HR6.out k7 _ _ HX6.out
     have t0 : w7.cell? ⟨wr.heap.size, 0, none⟩ = some (.int .i64 x.f0) := blk_cell hx7 0
     have t1 : w7.cell? ⟨wr.heap.size, 1, none⟩ = some (.int .i64 x.f1) := blk_cell hx7 1
     have t2 : w7.cell? ⟨wr.heap.size, 2, none⟩ = some (.string x.f2) := blk_cell hx7 2
     have t3 : w7.cell? ⟨wr.heap.size, 3, none⟩ = some (.slice B3 x.f3.length e3) := blk_cell hx7 3
     have t4 : w7.cell? ⟨wr.heap.size, 4, none⟩ = some (.slice B4 x.f4.length e4) := blk_cell hx7 4
     have S7 := Aside0.mk (Nat.le_trans HS6.out k7.1.size)
     have H7 := Aside0.mk h7
     have HB7 := Aside0.mk (HB6.out.trans k7.1)
     have HK7 := Aside0.mk (HK6.out.trans (KeptT.kept HR6.out k7))
     have HV7 := Aside0.mk hv7
     have H := Aside0.mk (HIH.out x B3 e3 B4 e4 w0 w7 Br b v7 (T ++ qs) HOX.out HC.out.1 HC.out.2.1 HC.out.2.2.1 HC.out.2.2.2 (HBR.out.trans (HB7.out.mono h0b)) h0b H7.out (by have := HSB.out.2; have := S7.out; omega) (by have h1 := HTl2.out; rw [List.length_append]; omega) HLW.out)
     unfold vArg at H
     clear h7 k7 hv7 hx7
     go_wp2_with fail
     refine H.out.mono ?_
     rintro e w5 ⟨rfl, v5, h5, b5, k5⟩
     rw [HTE.out] at h5
     have H5 := Aside0.mk h5
     have B5 := Aside0.mk (HWR.out.trans (HB7.out.trans b5))
     have K5 := Aside0.mk (HKR.out.trans (HK7.out.trans k5))
     have V5 := Aside0.mk (k5 _ _ HV7.out)
     have S5 := Nat.le_trans S7.out b5.size
     clear h5 b5 k5 t0 t1 t2 t3 t4
     go_wp2
     go_roundg k1
     case measure => omega
     case rel => exact ⟨k + 1, v5, by omega, by go_num, by omega, H5, B5, K5, V5⟩
   · have hgt : ((k : Nat) : Int) > 0 := by omega
     have HK0 := Aside0.mk hk0
     have HCs2 := Aside0.mk (show wr.heap.size + 1 ≤ (wr.alloc (.cells #[.int .i64 x.f0, .int .i64 x.f1, .string x.f2, .slice B3 x.f3.length e3, .slice B4 x.f4.length e4] 51 (0, 0))).heap.size by simp)
     clear hk0
     go_wp2_with fail
     refine (WriteByte_calls Br b v' _ 44 _ HR2.out (by have h1 := HL.out; have h3 := elemsW_len (writeD d) true rs ns k; rw [byteCells_len]; simp only [List.length_append, List.length_cons, List.length_nil]; omega) (by have := HSB.out.2; omega)).mono ?_
     rintro e w4 ⟨rfl, v4, h4, k4⟩
     rw [byteCells_snoc] at h4
     obtain ⟨T, hT⟩ : ∃ T, T = (bs ++ [123] ++ elemsW (writeD d) true 0 (rs.take k) ns) ++ [44] := ⟨_, rfl⟩
     have HTl := Aside0.mk (show T.length + ((quoteR nme).length + 1) + (writeD d x).length ≤ 10000000000000 by
      have h1 := HL.out
      have h2 := HWL.out
      have h3 := HLN.out
      rw [if_neg HK0.out] at h2
      rw [hT]
      simp only [List.length_append, List.length_cons, List.length_nil]
      omega)
     have HTE := Aside0.mk (show T ++ (quoteR nme ++ [58]) ++ writeD d x = bs ++ [123] ++ elemsW (writeD d) true 0 (rs.take (k + 1)) ns by
      rw [HNX.out, if_neg HK0.out, hT]
      simp)
     have HBT := Aside0.mk hT
     clear hT
     have hv4 := KeptT.kept HR2.out k4 _ _ HV2.out
     have hx4 := KeptT.kept HR2.out k4 _ _ NV2.out
     have z0 : w4.cell? ⟨w.heap.size, 0, none⟩ = some (.int .i64 6) := blk_cell hv4 0
     have z4 : w4.cell? ⟨w.heap.size, 4, none⟩ = some (.slice (some ad4) ns.length c4) := blk_cell hv4 4
     have q4 := cell_below' (HBR.out.trans ((HB2.out.mono HBR.out.size).trans (k4.1.mono h0b))) Q0.out
     have HBc := Aside0.mk (show BAt Br b v4 (Lib.byteCells T) w4 by rw [HBT.out]; exact h4)
     have HVc := Aside0.mk hv4
     have HXc := Aside0.mk hx4
     have HCb := Aside0.mk ((HB2.out.mono HSB.out.1).trans k4.1)
     have HCk := Aside0.mk ((KeptT.below HB2.out).trans (KeptT.kept HR2.out k4))
     have HCs := Aside0.mk (Nat.le_trans HCs2.out k4.1.size)
     clear h4 k4 hv4 hx4
     clear q0
     have q0 := q4
     clear q4
     go_wp2_with fail
     refine (Quote_calls nme _ (by have h1 := HTl.out; have h4 := quote_ge nme; omega) (fun w1 h1 => (HLW.out w1 ((HBR.out.trans (HCb.out.mono h0b)).trans (h1.mono (Nat.le_trans HBR.out.size (Nat.le_trans (Nat.le_succ _) HCs.out))))).deb)).mono ?_
     rintro e w6 ⟨rfl, b6⟩
     have hv6 := (b6.block _ (blk_lt HVc.out)).trans HVc.out
     have hx6 := (b6.block _ (blk_lt HXc.out)).trans HXc.out
     have HR6 := Aside0.mk (bat_blw HBc.out b6)
     have HV6 := Aside0.mk hv6
     have HX6 := Aside0.mk hx6
     have HS6 := Aside0.mk (Nat.le_trans HCs.out b6.size)
     have HB6 := Aside0.mk (HCb.out.trans (b6.mono (Nat.le_trans HSB.out.1 (Nat.le_trans (Nat.le_succ _) HCs.out))))
     have HK6 := Aside0.mk (HCk.out.trans (KeptT.below b6))
     clear hv6 hx6 b6 r0 r1 r2 r3 r4 y0 y0' y4 y4' q0 q0' z0 z4 HBc HVc HXc HCb HCk HCs HNX HWL
     generalize quoteR nme = qn at *
     have hqs : qn.length < 10000000000001 := by have h1 := HTl.out; omega
     have c1 : (9223372036854775807 < (ByteArray.mk qn.toArray).size + 1) = False := eq_false (Nat.not_lt.2 (by simp only [ByteArray.size, List.size_toArray]; omega))
     have c2 : (9223372036854775807 < qn.length + 1) = False := eq_false (Nat.not_lt.2 (by omega))
     have HCAT := Aside0.mk (show (ByteArray.mk qn.toArray) ++ (ByteArray.mk #[58]) = ByteArray.mk (qn ++ [58]).toArray by apply ByteArray.ext; simp)
     have hws : (Lib.byteCells T).length + (ByteArray.mk (qn ++ [58]).toArray).size ≤ 140737488355328 := by
      have h1 := HTl.out
      rw [byteCells_len]
      simp only [ByteArray.size, List.size_toArray, List.length_append, List.length_cons, List.length_nil]
      omega
     have HWS := Aside0.mk hws
     clear hqs hws
     go_wp2_with fail
     rw [HCAT.out]
     clear c1 c2
     have hbw : Br ≤ w6.heap.size := Nat.le_trans HSB.out.2 (Nat.le_trans (Nat.le_succ _) HS6.out)
     have hr6 := HR6.out
     have hws := HWS.out
     have HTl2 := Aside0.mk (show T.length + (qn ++ [58]).length + (writeD d x).length ≤ 10000000000000 by have h1 := HTl.out; simp only [List.length_append, List.length_cons, List.length_nil]; omega)
     clear HCAT HTl HWS
     generalize qn ++ [58] = qs at *
     have HW7 := Write_calls Br b _ (Lib.byteCells T) ⟨qs.toArray⟩ w6 hr6 hws hbw
     clear hws hr6
     refine HW7.mono ?_
     clear HW7
     rintro e w7 ⟨rfl, v7, h7, k7⟩
     rw [strCells_list, ← byteCells_app] at h7
     have hv7 := KeptT.kept HR6.out k7 _ _ HV6.out
     have hx7 := KeptT.kept HR6.out k7 _ _ HX6.out
     have t0 : w7.cell? ⟨wr.heap.size, 0, none⟩ = some (.int .i64 x.f0) := blk_cell hx7 0
     have t1 : w7.cell? ⟨wr.heap.size, 1, none⟩ = some (.int .i64 x.f1) := blk_cell hx7 1
     have t2 : w7.cell? ⟨wr.heap.size, 2, none⟩ = some (.string x.f2) := blk_cell hx7 2
     have t3 : w7.cell? ⟨wr.heap.size, 3, none⟩ = some (.slice B3 x.f3.length e3) := blk_cell hx7 3
     have t4 : w7.cell? ⟨wr.heap.size, 4, none⟩ = some (.slice B4 x.f4.length e4) := blk_cell hx7 4
     have S7 := Aside0.mk (Nat.le_trans HS6.out k7.1.size)
     have H7 := Aside0.mk h7
     have HB7 := Aside0.mk (HB6.out.trans k7.1)
     have HK7 := Aside0.mk (HK6.out.trans (KeptT.kept HR6.out k7))
     have HV7 := Aside0.mk hv7
     have H := Aside0.mk (HIH.out x B3 e3 B4 e4 w0 w7 Br b v7 (T ++ qs) HOX.out HC.out.1 HC.out.2.1 HC.out.2.2.1 HC.out.2.2.2 (HBR.out.trans (HB7.out.mono h0b)) h0b H7.out (by have := HSB.out.2; have := S7.out; omega) (by have h1 := HTl2.out; rw [List.length_append]; omega) HLW.out)
     unfold vArg at H
     clear h7 k7 hv7 hx7
     go_wp2_with fail
     refine H.out.mono ?_
     rintro e w5 ⟨rfl, v5, h5, b5, k5⟩
     rw [HTE.out] at h5
     have H5 := Aside0.mk h5
     have B5 := Aside0.mk (HWR.out.trans (HB7.out.trans b5))
     have K5 := Aside0.mk (HKR.out.trans (HK7.out.trans k5))
     have V5 := Aside0.mk (k5 _ _ HV7.out)
     have S5 := Nat.le_trans S7.out b5.size
     clear h5 b5 k5 t0 t1 t2 t3 t4
     go_wp2
     go_roundg k1
     case measure => omega
     case rel => exact ⟨k + 1, v5, by omega, by go_num, by omega, H5, B5, K5, V5⟩
end Go.Proofs.YtamcicojockhpaaGreatDoor.Tr
end
section
set_option linter.unusedVariables false
set_option linter.unusedSimpArgs false
namespace Go.Proofs.YtamcicojockhpaaGreatDoor.Tr
open Go.RowKit Go.Proofs.YtamcicojockhpaaGreatDoorW.PrintWords Go.Proofs.YtamcicojockhpaaGreatDoorW.PrintLast Go.Proofs.YtamcicojockhpaaGreatDoorW.PrintMore
open Go.Proofs.YtamcicojockhpaaGreatDoor.Lx Go.Proofs.YtamcicojockhpaaGreatDoor.PS
theorem ok_n {d : Nat} {x : V} (h : Ok d x) : -9223372036854775808 ≤ x.f1 ∧ x.f1 ≤ 9223372036854775807 := by
 cases d with
 | zero => exact h.n
 | succ d => exact h.n.1
theorem writeD_leaf (d : Nat) (x : V) (h5 : x.f0 ≠ 5) (h6 : x.f0 ≠ 6) : writeD d x = leafW x := by
 cases d with
 | zero => rfl
 | succ d => simp only [writeD, if_neg h5, if_neg h6]
theorem write_leaf (d : Nat) (x : V) (A3 : Option Addr) (c3 : Nat) (A4 : Option Addr) (c4 : Nat) (w : World) (Br b : Nat) (v : Value) (bs : List UInt8) (hok : Ok d x) (h5 : x.f0 ≠ 5) (h6 : x.f0 ≠ 6) (hb : BAt Br b v (Lib.byteCells bs) w) (hBr : Br ≤ w.heap.size) (hl : bs.length + (writeD d x).length ≤ 10000000000000) (hlw : ∀ w1, Below w.heap.size w w1 → LW w1) :
 Calls Tryz.prog 64 #[.pointer (some ⟨b, 0, none⟩), vArg x A3 c3 A4 c4] w (WroteQ Br b bs (writeD d x) w) := by
 have hk := bareV_kind (sound_bare hok.s)
 have hn := ok_n hok
 rw [writeD_leaf d x h5 h6] at hl ⊢
 obtain ⟨k, n, t, rs, ns⟩ := x
 simp only at hk hn h5 h6
 unfold vArg
 simp only
 have hc : k = 1 ∨ k = 2 ∨ k = 3 ∨ k = 4 := by omega
 rcases hc with rfl | rfl | rfl | rfl
 · exact write_1 n t A3 _ c3 A4 _ c4 w Br b v bs hb hBr hl
 · exact write_2 n t A3 _ c3 A4 _ c4 w Br b v bs hb hBr hl
 · exact write_3 n hn t A3 _ c3 A4 _ c4 w Br b v bs hb hBr hl hlw
 · have := write_4 n t.data.toList A3 rs.length c3 A4 ns.length c4 w Br b v bs hb hBr hl hlw
   rw [show (ByteArray.mk t.data.toList.toArray) = t by cases t; rfl] at this
   exact this
theorem write_calls : ∀ d, WriteC d
 | 0 => by
  intro x A3 c3 A4 c4 w0 w Br b v bs hok l3 g3 l4 g4 hb0 h0b hb hBr hl hlw
  have hs := hok.s
  simp only [soundR, Bool.and_eq_true, Bool.not_eq_true', Bool.or_eq_false_iff, beq_eq_false_iff_ne] at hs
  exact write_leaf 0 x A3 c3 A4 c4 w Br b v bs hok hs.1.1.1 hs.1.1.2 hb hBr hl (fun w1 h1 => hlw w1 (hb0.trans (h1.mono hb0.size)))
 | d + 1 => by
  intro x A3 c3 A4 c4 w0 w Br b v bs hok l3 g3 l4 g4 hb0 h0b hb hBr hl hlw
  by_cases h5 : x.f0 = 5
  · have hs := hok.s
    simp only [soundR, Bool.and_eq_true, List.all_eq_true] at hs
    have hy : ∀ y ∈ x.f3, Ok d y := fun y hy => ⟨hs.2 y hy, hok.n.2 y hy, hok.f.2.2 y hy⟩
    obtain ⟨k, n, t, rs, ns⟩ := x
    simp only at h5
    subst h5
    simp only [writeD, if_pos] at hl ⊢
    exact write_arr d (write_calls d) n t rs ns A3 c3 A4 ns.length c4 w0 w Br b v bs hy hok.f.1 l3 g3 hb0 h0b hb hBr (by simp only [List.length_append, List.length_cons, List.length_nil] at hl; omega) hlw
  · by_cases h6 : x.f0 = 6
    · have hs := hok.s
      have hbv := sound_bare hs
      simp only [soundR, Bool.and_eq_true, List.all_eq_true] at hs
      have hy : ∀ y ∈ x.f3, Ok d y := fun y hy => ⟨hs.2 y hy, hok.n.2 y hy, hok.f.2.2 y hy⟩
      obtain ⟨k, n, t, rs, ns⟩ := x
      simp only at h6
      subst h6
      have hns : ns.length = rs.length := by
       simp [bareV, bareR] at hbv
       exact hbv.2
      simp only [writeD, if_neg (show ¬ (6 : Int) = 5 by decide), if_pos] at hl ⊢
      exact write_map d (write_calls d) n t rs ns A3 c3 A4 c4 w0 w Br b v bs hy hok.f.1 l3 g3 hns l4 g4 hb0 h0b hb hBr (by simp only [List.length_append, List.length_cons, List.length_nil] at hl; omega) hlw
    · exact write_leaf (d + 1) x A3 c3 A4 c4 w Br b v bs hok h5 h6 hb hBr hl (fun w1 h1 => hlw w1 (hb0.trans (h1.mono hb0.size)))
set_option maxRecDepth 100000 in
set_option maxHeartbeats 1000000 in
theorem Print_calls (x : V) (A3 : Option Addr) (c3 : Nat) (A4 : Option Addr) (c4 : Nat) (w : World) (fx : fitsR 8 x) (nx : numsR 8 x) (l3 : x.f3.length ≤ c3) (g3 : k51.C w A3 x.f3.length x.f3) (l4 : x.f4.length ≤ c4) (g4 : Kd.string.C w A4 x.f4.length x.f4)
 (hl : (writeD 8 x).length ≤ 10000000000000) (hlw : ∀ w1, Below w.heap.size w w1 → LW w1) :
 Calls Tryz.prog 30 #[vArg x A3 c3 A4 c4] w fun e w' => e = .returned (.tuple #[.string ⟨(printR x).1.toArray⟩, .int .i64 (printR x).2]) ∧ Below w.heap.size w w' := by
 have hba := (Below.refl w.heap.size w).alloc (Nat.le_refl _) (.cells #[.int .i64 x.f0, .int .i64 x.f1, .string x.f2, .slice A3 x.f3.length c3, .slice A4 x.f4.length c4] 51 (0, 0))
 have NV := Aside0.mk (blk_new w (.cells #[.int .i64 x.f0, .int .i64 x.f1, .string x.f2, .slice A3 x.f3.length c3, .slice A4 x.f4.length c4] 51 (0, 0)))
 have HS := Aside0.mk (sound_calls 8 (Nat.le_refl _))
 have HG := Aside0.mk (And.intro g3 g4)
 have HW := Aside0.mk hlw
 have HO := Aside0.mk (And.intro fx nx)
 have HL := Aside0.mk hl
 have HBA := Aside0.mk hba
 have HSA := Aside0.mk (show (w.alloc (.cells #[.int .i64 x.f0, .int .i64 x.f1, .string x.f2, .slice A3 x.f3.length c3, .slice A4 x.f4.length c4] 51 (0, 0))).heap.size = w.heap.size + 1 by simp)
 have HR := Aside0.mk (show printR x = if soundR 8 x = true then (writeD 8 x, 0) else ([], 1) from rfl)
 generalize printR x = pr at *
 unfold vArg at *
 clear g3 g4 hlw fx nx hl hba
 go_enter Tryz.func30, Tryz.ntmps30
 go_wp2_with fail
 refine (HS.out x A3 c3 A4 c4 _ HO.out.1 l3 (Kd.C_below HG.out.1 HBA.out) l4 (Kd.C_below HG.out.2 HBA.out)).mono ?_
 rintro e w1 ⟨rfl, hb1⟩
 have hv1 := (hb1.block _ (blk_lt NV.out)).trans NV.out
 have HV1 := Aside0.mk hv1
 have HB1 := Aside0.mk (HBA.out.trans (hb1.mono HBA.out.size))
 have HS1 := Aside0.mk (Nat.le_trans (Nat.le_of_eq HSA.out.symm) hb1.size)
 have x0 : w1.cell? ⟨w.heap.size, 0, none⟩ = some (.int .i64 x.f0) := blk_cell hv1 0
 have x1 : w1.cell? ⟨w.heap.size, 1, none⟩ = some (.int .i64 x.f1) := blk_cell hv1 1
 have x2 : w1.cell? ⟨w.heap.size, 2, none⟩ = some (.string x.f2) := blk_cell hv1 2
 have x3 : w1.cell? ⟨w.heap.size, 3, none⟩ = some (.slice A3 x.f3.length c3) := blk_cell hv1 3
 have x4 : w1.cell? ⟨w.heap.size, 4, none⟩ = some (.slice A4 x.f4.length c4) := blk_cell hv1 4
 clear hb1 HS hv1
 cases hs : soundR 8 x with
 | false =>
  have HQ := Aside0.mk (show pr = ([], 1) by rw [HR.out, hs]; rfl)
  clear hs
  go_wp2
  go_ret2
  rw [HQ.out]
  exact ⟨rfl, HB1.out⟩
 | true =>
  have HQ := Aside0.mk (show pr = (writeD 8 x, 0) by rw [HR.out, hs]; rfl)
  have HSS := Aside0.mk hs
  clear hs
  have y0 := cellA x0
  have y1 := cellA x1
  have y2 := cellA x2
  have y3 := cellA x3
  have y4 := cellA x4
  have hba2 := (Below.refl w1.heap.size w1).alloc (Nat.le_refl _) (.cells #[.pointer none, .slice none 0 0] 60)
  have HB2 := Aside0.mk hba2
  have H := Aside0.mk (write_calls 8 x A3 c3 A4 c4 w (w1.alloc (.cells #[.pointer none, .slice none 0 0] 60)) (w1.heap.size + 1) w1.heap.size (.slice none 0 0) [] ⟨HSS.out, HO.out.2, HO.out.1⟩ l3 HG.out.1 l4 HG.out.2 (HB1.out.trans (hba2.mono HB1.out.size)) HB1.out.size (BAt.new w1) (by simp) (by have := HL.out; simpa using this) HW.out)
  unfold vArg at H
  clear hba2
  go_wp2_with fail
  refine H.out.mono ?_
  rintro e w3 ⟨rfl, v3, h3, b3, k3⟩
  have HB3 := Aside0.mk (HB1.out.trans ((HB2.out.mono HB1.out.size).trans (b3.mono HB1.out.size)))
  have H3 := Aside0.mk h3
  clear h3 b3 k3 x0 x1 x2 x3 x4 y0 y1 y2 y3 y4 H
  go_wp2_with fail
  refine (Tryz.Builder_String_any w1.heap.size w1.heap.size _ _ H3.out.is (by have := H3.out.blt; omega)).mono ?_
  rintro e w4 ⟨rfl, hb4⟩
  have HB4 := Aside0.mk (HB3.out.trans (hb4.mono HB1.out.size))
  clear hb4
  go_wp2
  go_ret2
  rw [HQ.out]
  exact ⟨rfl, HB4.out⟩
end Go.Proofs.YtamcicojockhpaaGreatDoor.Tr
end
section
set_option linter.unusedVariables false
set_option linter.unusedSimpArgs false
namespace Go.Proofs.YtamcicojockhpaaGreatDoor.Tr
open Go.RowKit Go.Proofs.YtamcicojockhpaaGreatDoorW.PrintWords Go.Proofs.YtamcicojockhpaaGreatDoorW.PrintLast Go.Proofs.YtamcicojockhpaaGreatDoorW.PrintMore
open Go.Proofs.YtamcicojockhpaaGreatDoor.Lx Go.Proofs.YtamcicojockhpaaGreatDoor.PS
attribute [local go_sem high] fld0 fld1 fld2 fld3
theorem Tokens_all (l : List UInt8) (w : World) (hte : ∀ w1, Below w.heap.size w w1 → TE w1) : Calls Tryz.prog 51 #[.string ⟨l.toArray⟩] w fun e w' => ∃ v, e = .returned (.tuple #[v, .agg #[.int .i64 (tokensR l).2.1, .int .i64 (tokensR l).2.2]]) ∧
 w'.ownsRow w.heap.size 92 4 v (tokensR l).1.length (tksCs (tokensR l).1) ∧ Below w.heap.size w w' := by
 unfold tokensR
 by_cases hl : 65536 < l.length
 · rw [if_pos hl]
   refine (Tokens_long l w hl).mono ?_
   rintro e w' ⟨rfl, hb⟩
   exact ⟨_, rfl, World.ownsRow_nil _ _ _ _, hb⟩
 · rw [if_neg hl]
   refine (Tokens_short l w (by omega) hte).mono ?_
   rintro e w' ⟨hb, h1, h2⟩
   cases hx : toksR l (l.length + 1) 0 [] with
   | inl ts =>
    obtain ⟨v, rfl, ho⟩ := h1 ts hx
    exact ⟨v, rfl, ho, hb⟩
   | inr a =>
    have := h2 a hx
    subst this
    exact ⟨_, rfl, World.ownsRow_nil _ _ _ _, hb⟩
set_option maxRecDepth 100000 in
theorem next_end (ts : List Tk) (len : Nat) (G : Obj) (hG : RowG ts len G) (g b p o : Nat) (w : World) (h : Pz ts len G g b p o w) (hp : p = ts.length) (hl : ts.length ≤ 1000000) :
 Calls Tryz.prog 54 #[.pointer (some ⟨b, 0, none⟩), .int .i64 (tokAt ts len p).kind] w fun e w' => e = .returned (tkV (tokAt ts len p)) ∧ KeepR b w w' := by
 have HG := Aside0.mk hG
 have H := Aside0.mk h
 clear h hG
 go_enter Tryz.func54, Tryz.ntmps54
 go_wp2_with fail
 have hb0 : Below w.heap.size w (w.alloc (.cells #[.int .i64 0, .string ⟨#[]⟩, .int .i64 0, .int .i64 0] 92)) := (Below.refl _ _).alloc (Nat.le_refl _) _
 refine (peek_calls ts len G HG.out g b p o _ (H.out.keep hb0)).mono ?_
 rintro e w1 ⟨rfl, hb1⟩
 have HB1 := Aside0.mk (hb0.trans (hb1.mono (by simp)))
 have hx1 := blk_below (blk_new w (.cells #[.int .i64 0, .string ⟨#[]⟩, .int .i64 0, .int .i64 0] 92)) hb1
 have HX1 := Aside0.mk hx1
 have hsz1 : w.heap.size < w1.heap.size := blk_lt hx1
 obtain ⟨⟨c, hbk, hc⟩, hrow, hle, hne⟩ := H.out.keep HB1.out
 have HBK := Aside0.mk hbk
 have HROW := Aside0.mk hrow
 have c0 : w1.cell? ⟨b, 0, none⟩ = some (.slice (some ⟨g, 4 * p, none⟩) (ts.length + 1 - p) c) := blk_cell hbk 0
 have fb := fun j => blk_frozen hbk j
 have hbl : b < w.heap.size := by
  obtain ⟨⟨c, hbk, _⟩, _⟩ := H.out
  exact blk_lt hbk
 have d0 : w1.cell? ⟨w.heap.size, 0, none⟩ = some (.int .i64 0) := blk_cell hx1 0
 have d1 : w1.cell? ⟨w.heap.size, 1, none⟩ = some (.string ⟨#[]⟩) := blk_cell hx1 1
 have d2 : w1.cell? ⟨w.heap.size, 2, none⟩ = some (.int .i64 0) := blk_cell hx1 2
 have d3 : w1.cell? ⟨w.heap.size, 3, none⟩ = some (.int .i64 0) := blk_cell hx1 3
 have c0' := cellA c0
 have fb' : ∀ o j, (w1.alloc o).frozen? ⟨b, j, none⟩ = false := fun o j => blk_frozen (blkA hbk o) j
 have d0' := cellA d0
 have d1' := cellA d1
 have d2' := cellA d2
 have d3' := cellA d3
 have fd' : ∀ o j, (w1.alloc o).frozen? ⟨w.heap.size, j, none⟩ = false := fun o j => blk_frozen (blkA hx1 o) j
 have hn5 : 1 ≤ ts.length + 1 - p := by omega
 have hpl : ts.length + 1 - p = 1 := by omega
 rw [hpl] at c0 c0'
 have fd := fun j => blk_frozen hx1 j
 have hn1 : b ≠ w.heap.size := by omega
 have hn2 : b ≠ w1.heap.size := by omega
 have hn3 : w.heap.size ≠ w1.heap.size := by omega
 have hn2' : w1.heap.size ≠ b := by omega
 have hn1' : w.heap.size ≠ b := by omega
 have hn3' : w1.heap.size ≠ w.heap.size := by omega
 clear hb0 hb1 hx1 hbk hrow
 unfold tkV
 generalize ht : tokAt ts len p = t at *
 have HT := Aside0.mk ht
 clear ht
 rcases Nat.lt_or_ge 1 c with hc1 | hc1
 · go_wp2
   refine bodyPost_ret (v := .agg #[.int .i64 t.kind, .string ⟨t.text.toArray⟩, .int .i64 t.num, .int .i64 t.pos]) (res_next _ _ w.heap.size _ _ _ _ rfl (blk_set4 (far1 (blkA HX1.out _) hn1' _) _ _ _ _)) rfl ⟨by rw [HT.out]; rfl, ?_⟩
   exact keep4 ((KeepR.of_below (HB1.out.alloc (by omega) _) hbl).set 0 _) hbl (Nat.le_refl _) _ _ _ _
 · obtain rfl : c = 1 := by omega
   go_wp2
   refine bodyPost_ret (v := .agg #[.int .i64 t.kind, .string ⟨t.text.toArray⟩, .int .i64 t.num, .int .i64 t.pos]) (res_next _ _ w.heap.size _ _ _ _ rfl (blk_set4 (far1 (blkA HX1.out _) hn1' _) _ _ _ _)) rfl ⟨by rw [HT.out]; rfl, ?_⟩
   exact keep4 ((KeepR.of_below (HB1.out.alloc (by omega) _) hbl).set 0 _) hbl (Nat.le_refl _) _ _ _ _
theorem catch_idle (p q : Addr) (w : World) :
 CallsD Tryz.prog 52 #[.pointer (some p), .pointer (some q)] .returning w fun e u' w' => e = .returned (.tuple #[]) ∧ u' = .returning ∧ w' = w := by
 refine callsD_of_wpS Tryz.func52 rfl fun c₀ cs hu => ?_
 apply wpS_seq
 apply wpS_region
 simp [wpOpsS, go_sem, recoverD, hu, Tryz.ntmps52, Exit.thenS]
 apply wpS_seq
 apply wpS_region
 simp [wpOpsS, go_sem, Exit.thenS]
 refine wpS_cond (t := false) (by simp [Act.eval, Array.replicate]) ?_
 simp only [Bool.false_eq_true, if_false]
 refine wpS_of_wp (wp_skip ?_)
 cases c₀
 simp_all [bodyPostS, results, Tryz.results52]
end Go.Proofs.YtamcicojockhpaaGreatDoor.Tr
end
section
set_option linter.unusedVariables false
set_option linter.unusedSimpArgs false
namespace Go.Proofs.YtamcicojockhpaaGreatDoor.Tr
open Go.RowKit Go.Proofs.YtamcicojockhpaaGreatDoorW.PrintWords Go.Proofs.YtamcicojockhpaaGreatDoorW.PrintLast Go.Proofs.YtamcicojockhpaaGreatDoorW.PrintMore
open Go.Proofs.YtamcicojockhpaaGreatDoor.Lx Go.Proofs.YtamcicojockhpaaGreatDoor.PS
def zeroC : Array Value := #[.int .i64 0, .int .i64 0, .string ⟨#[]⟩, .slice none 0 0, .slice none 0 0]
set_option maxRecDepth 100000 in
set_option maxHeartbeats 400000 in
theorem catch_panicking (p q : Nat) (x0_ x1_ x2 x3 x4 y z : Value) (c a : Nat) (older : List PanicEntry) (w : World) (hpq : p ≠ q) (hp : w.heap[p]? = some (.cells #[x0_, x1_, x2, x3, x4] 51 (0, 0))) (hq : w.heap[q]? = some (.cells #[y, z] 26 (0, 0))) :
 CallsD Tryz.prog 52 #[.pointer (some ⟨p, 0, none⟩), .pointer (some ⟨q, 0, none⟩)] (.panicking ({ v := wrongV c a, recovered := false } :: older)) w fun e u' w' => e = .returned (.tuple #[]) ∧ u' = .panicking ({ v := wrongV c a, recovered := true } :: older) ∧
  w'.heap[p]? = some (.cells zeroC 51 (0, 0)) ∧ w'.heap[q]? = some (.cells #[.int .i64 c, .int .i64 a] 26 (0, 0)) ∧ (∀ B, B ≤ p → B ≤ q → B ≤ w.heap.size → Below B w w') := by
 have hpl := blk_lt hp
 have hql := blk_lt hq
 have hpq' : q ≠ p := fun e => hpq e.symm
 have hpn : p ≠ w.heap.size := by omega
 have hqn : q ≠ w.heap.size := by omega
 have hpn' : w.heap.size ≠ p := by omega
 have hqn' : w.heap.size ≠ q := by omega
 have HP := Aside0.mk hp
 have HQ := Aside0.mk hq
 clear hp hq
 refine callsD_of_wpS Tryz.func52 rfl fun c₀ cs hu => ?_
 apply wpS_seq
 apply wpS_region
 simp [wpOpsS, go_sem, recoverD, hu, Tryz.ntmps52, Exit.thenS]
 refine wpS_of_wp (Code.wp_mono (Q := EndQ fun w' => w'.heap[p]? = some (.cells zeroC 51 (0, 0)) ∧ w'.heap[q]? = some (.cells #[.int .i64 c, .int .i64 a] 26 (0, 0)) ∧ (∀ B, B ≤ p → B ≤ q → B ≤ w.heap.size → Below B w w')) ?_ ?_)
 · rintro e a' w' ⟨rfl, hd, h⟩
   cases c₀
   simp_all [bodyPostS, results, Tryz.results52]
 have e0 : ∀ v : Value, (#[Value.pointer (some ⟨p, 0, none⟩), .pointer (some ⟨q, 0, none⟩)] ++ ((Array.replicate 20 undef).setIfInBounds 3 v).setIfInBounds 0 v : Array Value) = #[.pointer (some ⟨p, 0, none⟩), .pointer (some ⟨q, 0, none⟩), v, undef, undef, v, undef, undef, undef, undef, undef, undef, undef, undef, undef, undef, undef, undef, undef, undef, undef, undef] := fun v => by kernel_rfl
 rw [e0]
 clear e0
 unfold wrongV
 have hta : ∀ W, (Instr.typeAssert (.iface 88 (.agg #[.int .i64 (c : Int), .int .i64 (a : Int)])) 20 88 true).run Tryz.prog W = .ok (.tuple #[.agg #[.int .i64 (c : Int), .int .i64 (a : Int)], .bool true]) W := fun _ => by kernel_rfl
 go_wp2_with fail
 have hx := blk_new w (.cells #[.int .i64 c, .int .i64 a] 88 (0, 0))
 have hp1 := blkA HP.out (.cells #[.int .i64 c, .int .i64 a] 88 (0, 0))
 have hq1 := blkA HQ.out (.cells #[.int .i64 c, .int .i64 a] 88 (0, 0))
 have HBW := Aside0.mk (show ∀ B, B ≤ w.heap.size → Below B w (w.alloc (.cells #[.int .i64 c, .int .i64 a] 88 (0, 0))) from fun B hB => (Below.refl B w).alloc hB _)
 generalize w.alloc (.cells #[.int .i64 c, .int .i64 a] 88 (0, 0)) = W1 at *
 have x0 : W1.drew.cell? ⟨w.heap.size, 0, none⟩ = some (.int .i64 c) := blk_cell (w := W1.drew) hx 0
 have x1 : W1.drew.cell? ⟨w.heap.size, 1, none⟩ = some (.int .i64 a) := blk_cell (w := W1.drew) hx 1
 refine start_ (n := 8) (S := fun w' => w'.cell? ⟨w.heap.size, 0, none⟩ = some (.int .i64 c) ∧ w'.cell? ⟨w.heap.size, 1, none⟩ = some (.int .i64 a)) (ds := [7]) #[fF, fF, fF, fF, fF, fF, fF, fF] (by kernel_rfl) rfl rfl ⟨x0, x1⟩ (fun hHeld => ?_)
 refine pure_ (i := 0) (N := some 16) (v := ?_) (a' := ?_) #[tT, fF, fF, fF, fF, fF, fF, fF] rfl rfl (by kernel_rfl) (fun _ _ _ h => h) (Or.inl ⟨by rfl, ?_⟩) ?_ ?_
 rotate_left
 · intro w'
   go_simp
   with_reducible rfl
 rotate_left
 · simp only [Act.put, sA, sZ, sS, i64_w, i32_w]
   rfl
 refine pure_ (i := 1) (N := some 17) (v := ?_) (a' := ?_) #[tT, tT, fF, fF, fF, fF, fF, fF] rfl rfl (by kernel_rfl) (fun _ _ _ h => h) (Or.inl ⟨by rfl, ?_⟩) ?_ ?_
 rotate_left
 · intro w'
   go_simp
   with_reducible rfl
 rotate_left
 · simp only [Act.put, sA, sZ, sS, i64_w, i32_w]
   rfl
 refine take_ (i := 2) (N := some 18) (v := ?_) (a' := ?_) #[tT, tT, tT, fF, fF, fF, fF, fF] rfl rfl (by kernel_rfl) (fun _ _ _ h => h) (Or.inl ⟨by rfl, ?_⟩) hHeld ?_ ?_
 rotate_left
 · rintro w' ⟨e1, e2⟩
   go_simp
   with_reducible rfl
 rotate_left
 · simp only [Act.put, sA, sZ, sS, i64_w, i32_w]
   rfl
 refine pure_ (i := 3) (N := some 19) (v := ?_) (a' := ?_) #[tT, tT, tT, tT, fF, fF, fF, fF] rfl rfl (by kernel_rfl) (fun _ _ _ h => h) (Or.inl ⟨by rfl, ?_⟩) ?_ ?_
 rotate_left
 · intro w'
   go_simp
   with_reducible rfl
 rotate_left
 · simp only [Act.put, sA, sZ, sS, i64_w, i32_w]
   rfl
 refine take_ (i := 4) (N := some 20) (v := ?_) (a' := ?_) #[tT, tT, tT, tT, tT, fF, fF, fF] rfl rfl (by kernel_rfl) (fun _ _ _ h => h) (Or.inl ⟨by rfl, ?_⟩) hHeld ?_ ?_
 rotate_left
 · rintro w' ⟨e1, e2⟩
   go_simp
   with_reducible rfl
 rotate_left
 · simp only [Act.put, sA, sZ, sS, i64_w, i32_w]
   rfl
 refine pure_ (i := 5) (N := some 21) (v := ?_) (a' := ?_) #[tT, tT, tT, tT, tT, tT, fF, fF] rfl rfl (by kernel_rfl) (fun _ _ _ h => h) (Or.inl ⟨by rfl, ?_⟩) ?_ ?_
 rotate_left
 · intro w'
   go_simp
   with_reducible rfl
 rotate_left
 · simp only [Act.put, sA, sZ, sS, i64_w, i32_w]
   rfl
 have pc0 : W1.cell? ⟨p, 0, none⟩ = some x0_ := blk_cell hp1 0
 have pc1 : W1.cell? ⟨p, 1, none⟩ = some x1_ := blk_cell hp1 1
 have pc2 : W1.cell? ⟨p, 2, none⟩ = some x2 := blk_cell hp1 2
 have pc3 : W1.cell? ⟨p, 3, none⟩ = some x3 := blk_cell hp1 3
 have pc4 : W1.cell? ⟨p, 4, none⟩ = some x4 := blk_cell hp1 4
 have pf : ∀ j, W1.frozen? ⟨p, j, none⟩ = false := blk_frozen hp1
 have qc0 : W1.cell? ⟨q, 0, none⟩ = some y := blk_cell hq1 0
 have qc1 : W1.cell? ⟨q, 1, none⟩ = some z := blk_cell hq1 1
 have qf : ∀ j, W1.frozen? ⟨q, j, none⟩ = false := blk_frozen hq1
 have w0 : W1.cell? ⟨w.heap.size, 0, none⟩ = some (.int .i64 c) := blk_cell hx 0
 have w1 : W1.cell? ⟨w.heap.size, 1, none⟩ = some (.int .i64 a) := blk_cell hx 1
 refine one_ (i := 6) (N := none) #[tT, tT, tT, tT, tT, tT, tT, fF] rfl rfl (by kernel_rfl) (by decide) (fun K hK => ?_)
 rw [if_pos (by rfl)]
 unfold Oper.wp
 go_simp
 refine hK.out _ _ ⟨by go_simp, by go_simp⟩ fun hHeld => ?_
 clear hK K
 refine last_ (i := 7) (N := none) #[tT, tT, tT, tT, tT, tT, tT, tT] rfl rfl (by kernel_rfl) (by decide) (fun K hK => ?_)
 rw [if_pos (by rfl)]
 unfold Oper.wp
 go_simp
 refine hK.out _ _ ?_
 clear hK K
 refine done_ (by kernel_rfl) ?_
 go_wp2
 have hs1 : w.heap.size ≤ W1.heap.size := (HBW.out 0 (Nat.zero_le _)).size
 have h5 := blk_set5 hp1 (.int .i64 0) (.int .i64 0) (.string ⟨#[]⟩) (.slice none 0 0) (.slice none 0 0)
 have hq5 := far5 hq1 hpq' (.int .i64 0) (.int .i64 0) (.string ⟨#[]⟩) (.slice none 0 0) (.slice none 0 0)
 have g1 := far1 (j := 1) (far1 (j := 0) h5 hpq (.int .i64 c)) hpq (.int .i64 a)
 have g2 := blk_put (blk_put hq5 0 (.int .i64 c) rfl) 1 (.int .i64 a) rfl
 have g3 : ∀ B, B ≤ p → B ≤ q → B ≤ w.heap.size → Below B w _ := fun B hB1 hB2 hB3 => ((below5 (HBW.out B hB3) hB1 (.int .i64 0) (.int .i64 0) (.string ⟨#[]⟩) (.slice none 0 0) (.slice none 0 0)).setCell (p := ⟨q, 0, none⟩) hB2 (.int .i64 c)).setCell (p := ⟨q, 1, none⟩) hB2 (.int .i64 a)
 generalize (((((((W1.setCell ⟨p, 0, none⟩ (.int .i64 0)).setCell ⟨p, 1, none⟩ (.int .i64 0)).setCell ⟨p, 2, none⟩ (.string ⟨#[]⟩)).setCell ⟨p, 3, none⟩ (.slice none 0 0)).setCell ⟨p, 4, none⟩ (.slice none 0 0)).setCell ⟨q, 0, none⟩ (.int .i64 c)).setCell ⟨q, 1, none⟩ (.int .i64 a)) = W9 at *
 refine ⟨rfl, rfl, g1, g2, fun B hB1 hB2 hB3 => ?_⟩
 obtain ⟨k1, k2, k3, k4, k5⟩ := g3 B hB1 hB2 hB3
 exact ⟨k1, k2, k3, k4, k5⟩
end Go.Proofs.YtamcicojockhpaaGreatDoor.Tr
end
section
set_option linter.unusedVariables false
set_option linter.unusedSimpArgs false
namespace Go.Proofs.YtamcicojockhpaaGreatDoor.Tr
open Go.RowKit Go.Proofs.YtamcicojockhpaaGreatDoorW.PrintWords Go.Proofs.YtamcicojockhpaaGreatDoorW.PrintLast Go.Proofs.YtamcicojockhpaaGreatDoorW.PrintMore
open Go.Proofs.YtamcicojockhpaaGreatDoor.Lx Go.Proofs.YtamcicojockhpaaGreatDoor.PS
attribute [local go_sem high] fld0 fld1 fld2 fld3
def ParQ (X : V × Nat × Nat) (w : World) (e : Ending) (w' : World) : Prop := Below w.heap.size w w' ∧ ∃ v3 v4, e = .returned (.tuple #[.agg #[.int .i64 X.1.f0, .int .i64 X.1.f1, .string X.1.f2, v3, v4], .agg #[.int .i64 X.2.1, .int .i64 X.2.2]]) ∧
 k51.R 51 w' w.heap.size (fun _ => True) v3 X.1.f3 ∧ Kd.string.R 9 w' w.heap.size (fun _ => True) v4 X.1.f4
theorem results_Parse (tmps : Array Value) (w : World) (p q : Nat) (x0 x1 x2 x3 x4 y z : Value) (h2 : tmps.getD 2 undef = .pointer (some ⟨p, 0, none⟩)) (h3 : tmps.getD 3 undef = .pointer (some ⟨q, 0, none⟩))
 (hp : w.heap[p]? = some (.cells #[x0, x1, x2, x3, x4] 51 (0, 0))) (hq : w.heap[q]? = some (.cells #[y, z] 26 (0, 0))) : (results Tryz.f20 tmps).run Tryz.prog w = .ok (.tuple #[.agg #[x0, x1, x2, x3, x4], .agg #[y, z]]) w := by
 have c0 := blk_cell hp 0
 have c1 := blk_cell hp 1
 have c2 := blk_cell hp 2
 have c3 := blk_cell hp 3
 have c4 := blk_cell hp 4
 have d0 := blk_cell hq 0
 have d1 := blk_cell hq 1
 rw [Array.getD_eq_getD_getElem?] at h2 h3
 simp [results, Tryz.results20, h2, h3, c0, c1, c2, c3, c4, d0, d1, go_sem]
theorem results_put (tmps : Array Value) (i : Nat) (v : Value) (h : 4 ≤ i) : results Tryz.f20 (tmps.setIfInBounds i v) = results Tryz.f20 tmps := by
 simp [results, Tryz.results20, Array.getElem?_setIfInBounds_ne (show i ≠ 2 by omega), Array.getElem?_setIfInBounds_ne (show i ≠ 3 by omega)]
theorem leaves_put (R : Ending → World → Prop) (tmps : Array Value) (i : Nat) (v : Value) (h : 4 ≤ i) : ∀ (ds : List Deferred) (u : FrameMode) (w : World),
 Leaves Tryz.prog Tryz.f20 (tmps.setIfInBounds i v) R ds u w → Leaves Tryz.prog Tryz.f20 tmps R ds u w
 | [], u, w, hl => by
  cases u with
  | run => exact hl
  | returning =>
   obtain ⟨x, hx, hr⟩ := hl
   rw [results_put tmps i v h] at hx
   exact ⟨x, hx, hr⟩
  | panicking c => exact hl
 | d :: ds, u, w, hl => by
  obtain ⟨h1, fv, cap, f, args, h2, h3, h4⟩ := hl
  refine ⟨h1, fv, cap, f, args, h2, h3, h4.mono fun e u' w' hh => ?_⟩
  cases e with
  | returned x => exact leaves_put R tmps i v h ds _ _ hh
  | panicked c => exact leaves_put R tmps i v h ds _ _ hh
  | outgrown => exact hh
theorem toksR_len (l : List UInt8) : ∀ (f a : Nat) (acc ts : List Tk), a ≤ l.length → acc.length ≤ a → toksR l f a acc = .inl ts → ts.length ≤ l.length
 | 0, a, acc, ts, ha, hl, h => by
  simp only [toksR] at h
  cases h
 | f + 1, a, acc, ts, ha, hl, h => by
  have hla : a + ((l.drop a).takeWhile isBlank).length ≤ l.length := takeWhile_len isBlank l a ha
  rw [show toksR l (f + 1) a acc = if a + ((l.drop a).takeWhile isBlank).length = l.length then .inl acc else
   match nextR l (a + ((l.drop a).takeWhile isBlank).length) with
   | none => .inr (a + ((l.drop a).takeWhile isBlank).length)
   | some (t, a2) => toksR l f a2 (acc ++ [t]) from rfl] at h
  split at h
  · cases h
    omega
  · cases hx : nextR l (a + ((l.drop a).takeWhile isBlank).length) with
    | none => rw [hx] at h; cases h
    | some q =>
     obtain ⟨t, a2⟩ := q
     rw [hx] at h
     have := nextR_step hx
     exact toksR_len l f a2 (acc ++ [t]) ts this.2 (by simp; omega) h
theorem tokens_len {l : List UInt8} {ts : List Tk} {c a : Nat} (h : tokensR l = (ts, c, a)) : ts.length ≤ 1000000 := by
 unfold tokensR at h
 split at h
 · cases h
   simp
 · split at h
   · rename_i h2
     cases h
     have := toksR_len l _ 0 [] _ (Nat.zero_le _) (by simp) h2
     omega
   · cases h
     simp
theorem parseR_bad {l : List UInt8} {ts : List Tk} {c a : Nat} (h : tokensR l = (ts, c, a)) (hc : c ≠ 0) : parseR l = (zV, c, a) := by
 unfold parseR
 rw [h]
 cases c with
 | zero => exact absurd rfl hc
 | succ c => rfl
set_option maxRecDepth 100000 in
set_option maxHeartbeats 1000000 in
theorem Parse_calls (l : List UInt8) (w : World) (hte : ∀ w1, Below w.heap.size w w1 → TE w1) :
 Calls Tryz.prog 20 #[.string ⟨l.toArray⟩] w (ParQ (parseR l) w) := by
 have hmf : ∀ (fn : Fn) (first cap : Array Value) (w : World), (Instr.makeFunc fn first cap).run Tryz.prog w = .ok (.func fn first cap) w := fun _ _ _ _ => rfl
 have HTE := Aside0.mk hte
 clear hte
 have s1 : (w.alloc (.cells #[.int .i64 0, .int .i64 0, .string ⟨#[]⟩, .slice none 0 0, .slice none 0 0] 51 (0, 0))).heap.size = w.heap.size + 1 := by simp
 have nr := blkA (blk_new w (.cells #[.int .i64 0, .int .i64 0, .string ⟨#[]⟩, .slice none 0 0, .slice none 0 0] 51 (0, 0))) (.cells #[.int .i64 0, .int .i64 0] 26 (0, 0))
 have nf := blk_new (w.alloc (.cells #[.int .i64 0, .int .i64 0, .string ⟨#[]⟩, .slice none 0 0, .slice none 0 0] 51 (0, 0))) (.cells #[.int .i64 0, .int .i64 0] 26 (0, 0))
 rw [s1] at nf
 have hs2 : ((w.alloc (.cells #[.int .i64 0, .int .i64 0, .string ⟨#[]⟩, .slice none 0 0, .slice none 0 0] 51 (0, 0))).alloc (.cells #[.int .i64 0, .int .i64 0] 26 (0, 0))).heap.size = w.heap.size + 2 := by simp
 have hB2 : Below w.heap.size w ((w.alloc (.cells #[.int .i64 0, .int .i64 0, .string ⟨#[]⟩, .slice none 0 0, .slice none 0 0] 51 (0, 0))).alloc (.cells #[.int .i64 0, .int .i64 0] 26 (0, 0))) := ((Below.refl _ _).alloc (Nat.le_refl _) _).alloc (by simp) _
 go_enter_defers Tryz.func20, Tryz.ntmps20
 go_wp2_with fail
 generalize (w.alloc (.cells #[.int .i64 0, .int .i64 0, .string ⟨#[]⟩, .slice none 0 0, .slice none 0 0] 51 (0, 0))).alloc (.cells #[.int .i64 0, .int .i64 0] 26 (0, 0)) = W2 at *
 refine (Tokens_all l W2 (fun w1 h1 => HTE.out w1 (hB2.trans (h1.mono (by omega))))).mono ?_
 rintro e w3 ⟨vt, rfl, hot, hb3⟩
 have HX := Aside0.mk (show parseR l = _ from rfl)
 have hr3 := blk_below nr hb3
 have hf3 := blk_below nf hb3
 have hs3 := hb3.size
 have HB3 := Aside0.mk (hB2.trans (hb3.mono (by omega)))
 have HOT := Aside0.mk (own_weaken hot (base' := w.heap.size + 2) (by omega))
 have HR3 := Aside0.mk hr3
 have HF3 := Aside0.mk hf3
 have r0 : w3.cell? ⟨w.heap.size, 0, none⟩ = some (.int .i64 0) := blk_cell hr3 0
 have r1 : w3.cell? ⟨w.heap.size, 1, none⟩ = some (.int .i64 0) := blk_cell hr3 1
 have r2 : w3.cell? ⟨w.heap.size, 2, none⟩ = some (.string ⟨#[]⟩) := blk_cell hr3 2
 have r3 : w3.cell? ⟨w.heap.size, 3, none⟩ = some (.slice none 0 0) := blk_cell hr3 3
 have r4 : w3.cell? ⟨w.heap.size, 4, none⟩ = some (.slice none 0 0) := blk_cell hr3 4
 have rf : ∀ j, w3.frozen? ⟨w.heap.size, j, none⟩ = false := blk_frozen hr3
 have f0 : w3.cell? ⟨w.heap.size + 1, 0, none⟩ = some (.int .i64 0) := blk_cell hf3 0
 have f1 : w3.cell? ⟨w.heap.size + 1, 1, none⟩ = some (.int .i64 0) := blk_cell hf3 1
 have ff : ∀ j, w3.frozen? ⟨w.heap.size + 1, j, none⟩ = false := blk_frozen hf3
 clear nr nf hB2 hb3 hot hr3 hf3 s1
 unfold parseR
 generalize hT : tokensR l = T at *
 obtain ⟨ts, c, a⟩ := T
 simp only
 by_cases hc : c = 0
 · subst hc
   have HTL := Aside0.mk (show ts.length ≤ 1000000 from tokens_len hT)
   have HT := Aside0.mk hT
   clear hT
   obtain ⟨At, ct, rfl⟩ := own_slice HOT.out
   try simp only at *
   have hrf : w.heap.size ≠ w.heap.size + 1 := by omega
   have hr5 := (far_set (w3.setCell ⟨w.heap.size + 1, 0, none⟩ (.int .i64 0)) (w.heap.size + 1) 1 (.int .i64 a) _ hrf).trans ((far_set w3 (w.heap.size + 1) 0 (.int .i64 0) _ hrf).trans HR3.out)
   have hf5 := blk_put (blk_put HF3.out 0 (.int .i64 0) rfl) 1 (.int .i64 a) rfl
   have ho5 := own_move HOT.out (w1 := (w3.setCell ⟨w.heap.size + 1, 0, none⟩ (.int .i64 0)).setCell ⟨w.heap.size + 1, 1, none⟩ (.int .i64 a)) fun k hk => (far_set _ _ _ _ _ (by have := own_base HOT.out k hk; omega)).trans (far_set _ _ _ _ _ (by have := own_base HOT.out k hk; omega))
   have hb5 := (HB3.out.setCell (p := ⟨w.heap.size + 1, 0, none⟩) (by simp) (.int .i64 0)).setCell (p := ⟨w.heap.size + 1, 1, none⟩) (by simp) (.int .i64 a)
   have hs5 : ((w3.setCell ⟨w.heap.size + 1, 0, none⟩ (.int .i64 0)).setCell ⟨w.heap.size + 1, 1, none⟩ (.int .i64 a)).heap.size = w3.heap.size := by simp [World.setCell]
   have HR5 := Aside0.mk hr5
   have HF5 := Aside0.mk hf5
   have HO5 := Aside0.mk ho5
   have HB5 := Aside0.mk hb5
   have HS5 := Aside0.mk hs5
   clear hr5 hf5 ho5 hb5 hs5
   go_wp2_with (first | (with_reducible refine gate_builtin (b := .append) (xs := #[.tmp 17, .tmp 21]) rfl ?_); at_builtin; refine print_append_cells (w0 := (w3.setCell ⟨w.heap.size + 1, 0, none⟩ (.int .i64 0)).setCell ⟨w.heap.size + 1, 1, none⟩ (.int .i64 a)) (w.heap.size + 2) rfl (.tmp 17) (.tmp 21) 84 92 (.agg #[(.int .i64 0), (.string ⟨#[]⟩), (.int .i64 0), (.int .i64 0)]) 4 40 rfl Tryz.underlying84 infoTok rfl (by decide) (by decide) (.slice At ts.length ct) ts.length (tksCs ts) (tkCs ⟨0, [], 0, l.length⟩) rfl (by first | (go_simp; done) | (go_simp; rfl)) rfl (by simp [tkCs, Value.oneCell']) HO5.out (Below.refl _ _) (by rw [HS5.out]; omega) (by have := HTL.out; omega) ?_; intro v1 w6 ho6 hb6 hg6 hat6; obtain ⟨g, c9, G, rfl, hgb, hG6, hRG, hc9⟩ := rowG_of ho6; have HG6 := Aside0.mk hG6; have HRG := Aside0.mk hRG; have HGR := Aside0.mk hg6; have HB6 := Aside0.mk hb6; clear ho6 hat6 hG6 hRG hg6 hb6)
   have h6s := HGR.out.size
   have hs5 := HS5.out
   have hgl : g < w6.heap.size := blk_lt HG6.out
   have hlt : ∀ k, k < w.heap.size + 2 → w6.heap[k]? = ((w3.setCell ⟨w.heap.size + 1, 0, none⟩ (.int .i64 0)).setCell ⟨w.heap.size + 1, 1, none⟩ (.int .i64 a)).heap[k]? := fun k hk => HGR.out.block k (by omega) (fun e => by have := own_base HO5.out k e.symm; omega)
   have hB6 : Below w.heap.size w w6 := ⟨HGR.out.os.trans HB5.out.os, HGR.out.tape.trans HB5.out.tape, HGR.out.output.trans HB5.out.output, Nat.le_trans HB5.out.size h6s, fun k hk => (hlt k (by omega)).trans (HB5.out.block k hk)⟩
   have hw6 : w.heap.size + 2 ≤ w6.heap.size := by omega
   have hba := (Below.refl w6.heap.size w6).alloc (Nat.le_refl _) (.cells #[.slice (some ⟨g, 0, none⟩) (ts.length + 1) c9, .int .i64 0] 94 (0, 0))
   have hs7 : (w6.alloc (.cells #[.slice (some ⟨g, 0, none⟩) (ts.length + 1) c9, .int .i64 0] 94 (0, 0))).heap.size = w6.heap.size + 1 := by simp
   have hr7 := blkA ((hlt w.heap.size (by omega)).trans HR5.out) (.cells #[.slice (some ⟨g, 0, none⟩) (ts.length + 1) c9, .int .i64 0] 94 (0, 0))
   have hf7 := blkA ((hlt (w.heap.size + 1) (by omega)).trans HF5.out) (.cells #[.slice (some ⟨g, 0, none⟩) (ts.length + 1) c9, .int .i64 0] 94 (0, 0))
   have hpz : Pz ts l.length G g w6.heap.size 0 0 (w6.alloc (.cells #[.slice (some ⟨g, 0, none⟩) (ts.length + 1) c9, .int .i64 0] 94 (0, 0))) := ⟨⟨c9, blk_new w6 _, by omega⟩, blkA HG6.out _, Nat.zero_le _, by omega⟩
   have HB7 := Aside0.mk (hB6.trans (hba.mono hB6.size))
   generalize w6.alloc (.cells #[.slice (some ⟨g, 0, none⟩) (ts.length + 1) c9, .int .i64 0] 94 (0, 0)) = W7 at *
   obtain ⟨r, hr⟩ := (fuel_all ts l.length (2 * ts.length + 2)).1 0 0 (by omega)
   refine (value_all ts l.length G HRG.out HTL.out (2 * ts.length + 2) g w6.heap.size 0 0 r W7 (by omega) hr hpz).mono ?_
   rintro e w8 ⟨hk8, h8⟩
   have hr8 := (hk8.2.2 w.heap.size (by omega) (by omega)).trans hr7
   have hf8 := (hk8.2.2 (w.heap.size + 1) (by omega) (by omega)).trans hf7
   have hs8 := hk8.2.1
   have hB8 : Below w.heap.size w w8 := HB7.out.trans (hk8.1.mono (by omega))
   cases r with
   | bad c a =>
    obtain rfl := h8
    have HP := Aside0.mk (show parseR l = (zV, c, a) by unfold parseR; rw [HT.out]; simp only [hr])
    show Leaves _ _ _ _ [_] _ _
    refine leaves_cons (f := 52) (args := #[.pointer (some ⟨w.heap.size, 0, none⟩), .pointer (some ⟨w.heap.size + 1, 0, none⟩)]) (by simp) (by simp [go_sem]) ?_
    refine (catch_panicking w.heap.size (w.heap.size + 1) _ _ _ _ _ _ _ c a [] w8 (by omega) hr8 hf8).mono ?_
    rintro e u' w9 ⟨rfl, rfl, h1, h2, h3⟩
    refine ⟨.tuple #[.agg zeroC, .agg #[.int .i64 (c : Nat), .int .i64 (a : Nat)]], results_Parse _ _ w.heap.size (w.heap.size + 1) _ _ _ _ _ _ _ rfl rfl h1 h2, ?_⟩
    rw [HP.out]
    exact ⟨hB8.trans (h3 _ (Nat.le_refl _) (by omega) (by omega)), _, _, rfl, Kd.R_nil _ _ _ _ _, Kd.R_nil _ _ _ _ _⟩
   | ok v p =>
    obtain ⟨⟨v3, v4, rfl, h3, h4⟩, hz8⟩ := h8
    obtain ⟨A3, c3, rfl⟩ := Kd.R_slice h3
    obtain ⟨A4, c4, rfl⟩ := Kd.R_slice h4
    have HR8 := Aside0.mk hr8
    have HF8 := Aside0.mk hf8
    have HB8 := Aside0.mk hB8
    have HZ8 := Aside0.mk hz8
    have H3 := Aside0.mk h3
    have H4 := Aside0.mk h4
    have HV := Aside0.mk hr
    have q0 : w8.cell? ⟨w.heap.size, 0, none⟩ = some (.int .i64 0) := blk_cell hr8 0
    have q1 : w8.cell? ⟨w.heap.size, 1, none⟩ = some (.int .i64 0) := blk_cell hr8 1
    have q2 : w8.cell? ⟨w.heap.size, 2, none⟩ = some (.string ⟨#[]⟩) := blk_cell hr8 2
    have q3 : w8.cell? ⟨w.heap.size, 3, none⟩ = some (.slice none 0 0) := blk_cell hr8 3
    have q4 : w8.cell? ⟨w.heap.size, 4, none⟩ = some (.slice none 0 0) := blk_cell hr8 4
    have qf : ∀ j, w8.frozen? ⟨w.heap.size, j, none⟩ = false := blk_frozen hr8
    clear hr8 hf8 hB8 hz8 h3 h4 hr hk8 hpz hr7 hf7 hba hB6 hlt r0 r1 r2 r3 r4 rf f0 f1 ff
    go_wp2_with fail
    have hr9 := blk_set5 HR8.out (.int .i64 v.f0) (.int .i64 v.f1) (.string v.f2) (.slice A3 v.f3.length c3) (.slice A4 v.f4.length c4)
    have hf9 := far5 HF8.out (show w.heap.size + 1 ≠ w.heap.size by omega) (.int .i64 v.f0) (.int .i64 v.f1) (.string v.f2) (.slice A3 v.f3.length c3) (.slice A4 v.f4.length c4)
    have hB9 := below5 HB8.out (Nat.le_refl w.heap.size) (.int .i64 v.f0) (.int .i64 v.f1) (.string v.f2) (.slice A3 v.f3.length c3) (.slice A4 v.f4.length c4)
    have hz9 : Pz ts l.length G g w6.heap.size p 0 (((((w8.setCell ⟨w.heap.size, 0, none⟩ (.int .i64 v.f0)).setCell ⟨w.heap.size, 1, none⟩ (.int .i64 v.f1)).setCell ⟨w.heap.size, 2, none⟩ (.string v.f2)).setCell ⟨w.heap.size, 3, none⟩ (.slice A3 v.f3.length c3)).setCell ⟨w.heap.size, 4, none⟩ (.slice A4 v.f4.length c4)) := HZ8.out.move (far5' (by omega) _ _ _ _ _) (far5' (by omega) _ _ _ _ _)
    have h39 := Kd.R_mono (Kd.R_step (Kd.R_bound H3.out) (w1 := ((((w8.setCell ⟨w.heap.size, 0, none⟩ (.int .i64 v.f0)).setCell ⟨w.heap.size, 1, none⟩ (.int .i64 v.f1)).setCell ⟨w.heap.size, 2, none⟩ (.string v.f2)).setCell ⟨w.heap.size, 3, none⟩ (.slice A3 v.f3.length c3)).setCell ⟨w.heap.size, 4, none⟩ (.slice A4 v.f4.length c4)) fun k hk1 _ => far5' (by have := hk1.2.1; omega) _ _ _ _ _) (ok' := fun k => W7.heap.size ≤ k) (fun k hk => hk.2.1)
    have h49 := Kd.R_mono (Kd.R_step (Kd.R_bound H4.out) (w1 := ((((w8.setCell ⟨w.heap.size, 0, none⟩ (.int .i64 v.f0)).setCell ⟨w.heap.size, 1, none⟩ (.int .i64 v.f1)).setCell ⟨w.heap.size, 2, none⟩ (.string v.f2)).setCell ⟨w.heap.size, 3, none⟩ (.slice A3 v.f3.length c3)).setCell ⟨w.heap.size, 4, none⟩ (.slice A4 v.f4.length c4)) fun k hk1 _ => far5' (by have := hk1.2.1; omega) _ _ _ _ _) (ok' := fun k => W7.heap.size ≤ k) (fun k hk => hk.2.1)
    have hs9 : (((((w8.setCell ⟨w.heap.size, 0, none⟩ (.int .i64 v.f0)).setCell ⟨w.heap.size, 1, none⟩ (.int .i64 v.f1)).setCell ⟨w.heap.size, 2, none⟩ (.string v.f2)).setCell ⟨w.heap.size, 3, none⟩ (.slice A3 v.f3.length c3)).setCell ⟨w.heap.size, 4, none⟩ (.slice A4 v.f4.length c4)).heap.size = w8.heap.size := by simp [World.setCell]
    generalize ((((w8.setCell ⟨w.heap.size, 0, none⟩ (.int .i64 v.f0)).setCell ⟨w.heap.size, 1, none⟩ (.int .i64 v.f1)).setCell ⟨w.heap.size, 2, none⟩ (.string v.f2)).setCell ⟨w.heap.size, 3, none⟩ (.slice A3 v.f3.length c3)).setCell ⟨w.heap.size, 4, none⟩ (.slice A4 v.f4.length c4) = W9 at *
    have hrf : w.heap.size ≠ w6.heap.size := by omega
    by_cases h0 : (tokAt ts l.length p).kind = 0
    · have hN : Calls Tryz.prog 54 #[.pointer (some ⟨w6.heap.size, 0, none⟩), .int .i64 0] W9 fun e w' => e = .returned (tkV (tokAt ts l.length p)) ∧ KeepR w6.heap.size W9 w' := by
       rcases Nat.lt_or_ge p ts.length with hpl | hpl
       · have hN := next_ok ts l.length G HRG.out g w6.heap.size p 0 W9 hz9 hpl HTL.out
         rw [h0] at hN
         exact hN.mono fun e w' h => ⟨h.1, h.2.2⟩
       · have hN := next_end ts l.length G HRG.out g w6.heap.size p 0 W9 hz9 (by have := hz9.le; omega) HTL.out
         rw [h0] at hN
         exact hN
      refine hN.mono ?_
      clear hN
      rintro e w10 ⟨rfl, hk10⟩
      have hr10 := (hk10.2.2 w.heap.size (by omega) (by omega)).trans hr9
      have hf10 := (hk10.2.2 (w.heap.size + 1) (by omega) (by omega)).trans hf9
      have hs10 := hk10.2.1
      have HB10 := Aside0.mk (hB9.trans (hk10.1.mono (by omega)))
      have H310 := Aside0.mk (Kd.R_step h39 fun k hk hk2 => hk10.2.2 k hk2 (by omega))
      have H410 := Aside0.mk (Kd.R_step h49 fun k hk hk2 => hk10.2.2 k hk2 (by omega))
      have HR10 := Aside0.mk hr10
      have HF10 := Aside0.mk hf10
      have HP := Aside0.mk (show parseR l = (v, 0, 0) by unfold parseR; rw [HT.out]; simp only [HV.out]; rw [if_pos h0])
      have t0 : w10.cell? ⟨w.heap.size, 0, none⟩ = some (.int .i64 v.f0) := blk_cell hr10 0
      have t1 : w10.cell? ⟨w.heap.size, 1, none⟩ = some (.int .i64 v.f1) := blk_cell hr10 1
      have t2 : w10.cell? ⟨w.heap.size, 2, none⟩ = some (.string v.f2) := blk_cell hr10 2
      have t3 : w10.cell? ⟨w.heap.size, 3, none⟩ = some (.slice A3 v.f3.length c3) := blk_cell hr10 3
      have t4 : w10.cell? ⟨w.heap.size, 4, none⟩ = some (.slice A4 v.f4.length c4) := blk_cell hr10 4
      have tf : ∀ j, w10.frozen? ⟨w.heap.size, j, none⟩ = false := blk_frozen hr10
      have u0 : w10.cell? ⟨w.heap.size + 1, 0, none⟩ = some (.int .i64 0) := blk_cell hf10 0
      have u1 : w10.cell? ⟨w.heap.size + 1, 1, none⟩ = some (.int .i64 a) := blk_cell hf10 1
      have uf : ∀ j, w10.frozen? ⟨w.heap.size + 1, j, none⟩ = false := blk_frozen hf10
      clear hr9 hf9 hB9 hz9 h39 h49 hk10 hr10 hf10 q0 q1 q2 q3 q4 qf
      unfold tkV
      go_wp2_with fail
      have g1 := blk_set5 HR10.out (.int .i64 v.f0) (.int .i64 v.f1) (.string v.f2) (.slice A3 v.f3.length c3) (.slice A4 v.f4.length c4)
      have g2 := far5 HF10.out (show w.heap.size + 1 ≠ w.heap.size by omega) (.int .i64 v.f0) (.int .i64 v.f1) (.string v.f2) (.slice A3 v.f3.length c3) (.slice A4 v.f4.length c4)
      have g3 := below5 HB10.out (Nat.le_refl w.heap.size) (.int .i64 v.f0) (.int .i64 v.f1) (.string v.f2) (.slice A3 v.f3.length c3) (.slice A4 v.f4.length c4)
      have g4 := Kd.R_step H310.out (w1 := ((((w10.setCell ⟨w.heap.size, 0, none⟩ (.int .i64 v.f0)).setCell ⟨w.heap.size, 1, none⟩ (.int .i64 v.f1)).setCell ⟨w.heap.size, 2, none⟩ (.string v.f2)).setCell ⟨w.heap.size, 3, none⟩ (.slice A3 v.f3.length c3)).setCell ⟨w.heap.size, 4, none⟩ (.slice A4 v.f4.length c4)) fun k hk _ => far5' (by omega) _ _ _ _ _
      have g5 := Kd.R_step H410.out (w1 := ((((w10.setCell ⟨w.heap.size, 0, none⟩ (.int .i64 v.f0)).setCell ⟨w.heap.size, 1, none⟩ (.int .i64 v.f1)).setCell ⟨w.heap.size, 2, none⟩ (.string v.f2)).setCell ⟨w.heap.size, 3, none⟩ (.slice A3 v.f3.length c3)).setCell ⟨w.heap.size, 4, none⟩ (.slice A4 v.f4.length c4)) fun k hk _ => far5' (by omega) _ _ _ _ _
      clear t0 t1 t2 t3 t4 tf u0 u1 uf
      generalize ((((w10.setCell ⟨w.heap.size, 0, none⟩ (.int .i64 v.f0)).setCell ⟨w.heap.size, 1, none⟩ (.int .i64 v.f1)).setCell ⟨w.heap.size, 2, none⟩ (.string v.f2)).setCell ⟨w.heap.size, 3, none⟩ (.slice A3 v.f3.length c3)).setCell ⟨w.heap.size, 4, none⟩ (.slice A4 v.f4.length c4) = W11 at *
      have hrr : w.heap.size ≠ w.heap.size + 1 := by omega
      have k1 := far1 (j := 1) (far1 (j := 0) g1 hrr (.int .i64 0)) hrr (.int .i64 0)
      have k2 := blk_put (blk_put g2 0 (.int .i64 0) rfl) 1 (.int .i64 0) rfl
      have k3 := (g3.setCell (p := ⟨w.heap.size + 1, 0, none⟩) (by simp) (.int .i64 0)).setCell (p := ⟨w.heap.size + 1, 1, none⟩) (by simp) (.int .i64 0)
      have k4 := Kd.R_step g4 (w1 := (W11.setCell ⟨w.heap.size + 1, 0, none⟩ (.int .i64 0)).setCell ⟨w.heap.size + 1, 1, none⟩ (.int .i64 0)) fun k hk _ => (far_set _ _ _ _ _ (by omega)).trans (far_set _ _ _ _ _ (by omega))
      have k5 := Kd.R_step g5 (w1 := (W11.setCell ⟨w.heap.size + 1, 0, none⟩ (.int .i64 0)).setCell ⟨w.heap.size + 1, 1, none⟩ (.int .i64 0)) fun k hk _ => (far_set _ _ _ _ _ (by omega)).trans (far_set _ _ _ _ _ (by omega))
      clear g1 g2 g3 g4 g5
      generalize (W11.setCell ⟨w.heap.size + 1, 0, none⟩ (.int .i64 0)).setCell ⟨w.heap.size + 1, 1, none⟩ (.int .i64 0) = W12 at *
      refine leaves_cons (f := 52) (args := #[.pointer (some ⟨w.heap.size, 0, none⟩), .pointer (some ⟨w.heap.size + 1, 0, none⟩)]) (by simp) (by simp [go_sem]) ?_
      refine (catch_idle _ _ _).mono ?_
      rintro e u' w13 ⟨rfl, rfl, rfl⟩
      refine ⟨.tuple #[.agg #[.int .i64 v.f0, .int .i64 v.f1, .string v.f2, .slice A3 v.f3.length c3, .slice A4 v.f4.length c4], .agg #[.int .i64 0, .int .i64 0]], results_Parse _ _ w.heap.size (w.heap.size + 1) _ _ _ _ _ _ _ rfl rfl k1 k2, ?_⟩
      rw [HP.out]
      exact ⟨k3, _, _, rfl, Kd.R_mono (Kd.R_lower k4 (by omega)) (fun _ _ => trivial), Kd.R_mono (Kd.R_lower k5 (by omega)) (fun _ _ => trivial)⟩
    · have HP := Aside0.mk (show parseR l = (zV, 20, (tokAt ts l.length p).pos) by unfold parseR; rw [HT.out]; simp only [HV.out]; rw [if_neg h0])
      refine (next_bad ts l.length G HRG.out g w6.heap.size p 0 0 W9 hz9 h0).mono ?_
      rintro e w10 ⟨rfl, hb10⟩
      have hr10 := blk_below hr9 hb10
      have hf10 := blk_below hf9 hb10
      have hs10 := hb10.size
      have hB10 := hB9.trans (hb10.mono (by omega))
      show Leaves _ _ _ _ [_] _ _
      refine leaves_cons (f := 52) (args := #[.pointer (some ⟨w.heap.size, 0, none⟩), .pointer (some ⟨w.heap.size + 1, 0, none⟩)]) (by simp) (by simp [go_sem]) ?_
      refine (catch_panicking w.heap.size (w.heap.size + 1) _ _ _ _ _ _ _ 20 (tokAt ts l.length p).pos [] w10 (by omega) hr10 hf10).mono ?_
      rintro e u' w11 ⟨rfl, rfl, h1, h2, h3⟩
      refine ⟨.tuple #[.agg zeroC, .agg #[.int .i64 (20 : Nat), .int .i64 ((tokAt ts l.length p).pos : Nat)]], results_Parse _ _ w.heap.size (w.heap.size + 1) _ _ _ _ _ _ _ rfl rfl h1 h2, ?_⟩
      rw [HP.out]
      exact ⟨hB10.trans (h3 _ (Nat.le_refl _) (by omega) (by omega)), _, _, rfl, Kd.R_nil _ _ _ _ _, Kd.R_nil _ _ _ _ _⟩
 · have HC := Aside0.mk hc
   have hcb : (((c : Nat) : Int) == 0) = false := by simp; omega
   clear hc
   go_wp2_with fail
   have hrf : w.heap.size ≠ w.heap.size + 1 := by omega
   have hr5 := (far_set (w3.setCell ⟨w.heap.size + 1, 0, none⟩ (.int .i64 c)) (w.heap.size + 1) 1 (.int .i64 a) _ hrf).trans ((far_set w3 (w.heap.size + 1) 0 (.int .i64 c) _ hrf).trans HR3.out)
   have hf5 := blk_put (blk_put HF3.out 0 (.int .i64 c) rfl) 1 (.int .i64 a) rfl
   have hb5 := (HB3.out.setCell (p := ⟨w.heap.size + 1, 0, none⟩) (by simp) (.int .i64 c)).setCell (p := ⟨w.heap.size + 1, 1, none⟩) (by simp) (.int .i64 a)
   generalize (w3.setCell ⟨w.heap.size + 1, 0, none⟩ (.int .i64 c)).setCell ⟨w.heap.size + 1, 1, none⟩ (.int .i64 a) = W5 at *
   clear r0 r1 r2 r3 r4 rf f0 f1 ff
   have r0 : W5.cell? ⟨w.heap.size, 0, none⟩ = some (.int .i64 0) := blk_cell hr5 0
   have r1 : W5.cell? ⟨w.heap.size, 1, none⟩ = some (.int .i64 0) := blk_cell hr5 1
   have r2 : W5.cell? ⟨w.heap.size, 2, none⟩ = some (.string ⟨#[]⟩) := blk_cell hr5 2
   have r3 : W5.cell? ⟨w.heap.size, 3, none⟩ = some (.slice none 0 0) := blk_cell hr5 3
   have r4 : W5.cell? ⟨w.heap.size, 4, none⟩ = some (.slice none 0 0) := blk_cell hr5 4
   have rf : ∀ j, W5.frozen? ⟨w.heap.size, j, none⟩ = false := blk_frozen hr5
   have f0 : W5.cell? ⟨w.heap.size + 1, 0, none⟩ = some (.int .i64 c) := blk_cell hf5 0
   have f1 : W5.cell? ⟨w.heap.size + 1, 1, none⟩ = some (.int .i64 a) := blk_cell hf5 1
   have ff : ∀ j, W5.frozen? ⟨w.heap.size + 1, j, none⟩ = false := blk_frozen hf5
   have HR5 := Aside0.mk hr5
   have HF5 := Aside0.mk hf5
   have HB5 := Aside0.mk hb5
   have HP := Aside0.mk (show parseR l = (zV, c, a) from parseR_bad hT HC.out)
   clear hr5 hf5 hb5
   refine start_ (n := 4) (S := fun w' => w'.cell? ⟨w.heap.size + 1, 0, none⟩ = some (.int .i64 c) ∧ w'.cell? ⟨w.heap.size + 1, 1, none⟩ = some (.int .i64 a)) (ds := [3]) #[fF, fF, fF, fF] (by kernel_rfl) rfl rfl ⟨f0, f1⟩ (fun hHeld => ?_)
   refine pure_ (i := 0) (N := some 14) (v := ?_) (a' := ?_) #[tT, fF, fF, fF] rfl rfl (by kernel_rfl) (fun _ _ _ h => leaves_put _ _ 14 _ (by omega) _ _ _ h) (Or.inl ⟨by rfl, ?_⟩) ?_ ?_
   rotate_left
   · intro w'
     go_simp
     with_reducible rfl
   rotate_left
   · simp only [Act.put, sA, sZ, sS, i64_w, i32_w]
     rfl
   refine take_ (i := 1) (N := some 15) (v := ?_) (a' := ?_) #[tT, tT, fF, fF] rfl rfl (by kernel_rfl) (fun _ _ _ h => leaves_put _ _ 15 _ (by omega) _ _ _ h) (Or.inl ⟨by rfl, ?_⟩) hHeld ?_ ?_
   rotate_left
   · rintro w' ⟨e1, e2⟩
     go_simp
     with_reducible rfl
   rotate_left
   · simp only [Act.put, sA, sZ, sS, i64_w, i32_w]
     rfl
   have n1 : w.heap.size + 1 ≠ w.heap.size := by omega
   refine one_ (i := 2) (N := none) #[tT, tT, tT, fF] rfl rfl (by kernel_rfl) (by decide) (fun K hK => ?_)
   rw [if_pos (by rfl)]
   unfold Oper.wp
   go_simp
   refine hK.out _ _ ⟨by go_simp, by go_simp⟩ fun hHeld => ?_
   clear hK K
   refine last_ (i := 3) (N := none) #[tT, tT, tT, tT] rfl rfl (by kernel_rfl) (by decide) (fun K hK => ?_)
   rw [if_pos (by rfl)]
   unfold Oper.wp
   go_simp
   refine hK.out _ _ ?_
   clear hK K
   refine done_ (by kernel_rfl) ?_
   have g1 := blk_set5 HR5.out (.int .i64 0) (.int .i64 0) (.string ⟨#[]⟩) (.slice none 0 0) (.slice none 0 0)
   have g2 := far5 HF5.out n1 (.int .i64 0) (.int .i64 0) (.string ⟨#[]⟩) (.slice none 0 0) (.slice none 0 0)
   have g3 := below5 HB5.out (Nat.le_refl w.heap.size) (.int .i64 0) (.int .i64 0) (.string ⟨#[]⟩) (.slice none 0 0) (.slice none 0 0)
   have k1 := far1 (j := 1) (far1 (j := 0) g1 hrf (.int .i64 c)) hrf (.int .i64 a)
   have k2 := blk_put (blk_put g2 0 (.int .i64 c) rfl) 1 (.int .i64 a) rfl
   have k3 := (g3.setCell (p := ⟨w.heap.size + 1, 0, none⟩) (by simp) (.int .i64 c)).setCell (p := ⟨w.heap.size + 1, 1, none⟩) (by simp) (.int .i64 a)
   clear g1 g2 g3 r0 r1 r2 r3 r4 rf f0 f1 ff hHeld
   generalize ((((((W5.setCell ⟨w.heap.size, 0, none⟩ (.int .i64 0)).setCell ⟨w.heap.size, 1, none⟩ (.int .i64 0)).setCell ⟨w.heap.size, 2, none⟩ (.string ⟨#[]⟩)).setCell ⟨w.heap.size, 3, none⟩ (.slice none 0 0)).setCell ⟨w.heap.size, 4, none⟩ (.slice none 0 0)).setCell ⟨w.heap.size + 1, 0, none⟩ (.int .i64 c)).setCell ⟨w.heap.size + 1, 1, none⟩ (.int .i64 a) = W9 at *
   have k1' : W9.drew.heap[w.heap.size]? = _ := k1
   have k2' : W9.drew.heap[w.heap.size + 1]? = _ := k2
   have k3' : Below w.heap.size w W9.drew := ⟨k3.os, k3.tape, k3.output, k3.size, k3.block⟩
   clear k1 k2 k3
   generalize W9.drew = W10 at *
   go_wp2
   refine ⟨.tuple #[.agg #[.int .i64 0, .int .i64 0, .string ⟨#[]⟩, .slice none 0 0, .slice none 0 0], .agg #[.int .i64 c, .int .i64 a]], results_Parse _ _ w.heap.size (w.heap.size + 1) _ _ _ _ _ _ _ rfl rfl k1' k2', ?_⟩
   rw [HP.out]
   exact ⟨k3', _, _, rfl, Kd.R_nil _ _ _ _ _, Kd.R_nil _ _ _ _ _⟩
end Go.Proofs.YtamcicojockhpaaGreatDoor.Tr
end
section
set_option linter.unusedVariables false
set_option linter.unusedSimpArgs false
namespace Go.Proofs.YtamcicojockhpaaGreatDoor.Tr
open Go.RowKit Go.Proofs.YtamcicojockhpaaGreatDoorW.PrintWords Go.Proofs.YtamcicojockhpaaGreatDoorW.PrintLast Go.Proofs.YtamcicojockhpaaGreatDoorW.PrintMore
open Go.Proofs.YtamcicojockhpaaGreatDoor.Lx Go.Proofs.YtamcicojockhpaaGreatDoor.PS
theorem infoStr' : (Tryz.prog.info? 9).map (fun i => (i.zero, i.size, i.bytes)) = some (some (.string ⟨#[]⟩), 1, 16) := by kernel_rfl
def CloQ {α : Type} (d : Kd α) (e : TypeId) (xs : List α) (w0 w : World) (E : Ending) (w' : World) : Prop :=
 ∃ v inner, E = .returned v ∧ w'.ownsRow w.heap.size e d.sz v xs.length inner ∧ Reps (d.K w0) d.sz xs inner ∧ Below w.heap.size w w'
set_option maxRecDepth 100000 in
set_option maxHeartbeats 1000000 in
theorem CloneV_calls (xs : List V) (A : Option Addr) (c : Nat) (w0 w : World) (hb : Below w0.heap.size w0 w) (hl : xs.length ≤ 1000000000000) (hc : xs.length ≤ c) (hC : Kd.C k51 w0 A xs.length xs) :
 Calls Tryz.prog 121 #[.slice A xs.length c] w (CloQ k51 51 xs w0 w) := by
 obtain ⟨i0, hi, hz0, hz1, hz2⟩ := info_parts infoVal'
 have qn : ∀ (w : World) (a : Option Addr) (n c n' c' : Nat), (binOp .eql 48 (.slice a n c) (.slice none n' c')).run Tryz.prog w = .ok (.bool a.isNone) w := fun w a n c n' c' => Lib.run_eql_slice_nil w _ _ a n c n' c' Tryz.underlying48
 have un : ∀ w, Sem.run Tryz.prog (underlying 48) w = .ok (TypeDesc.slice 51) w := run_underlying Tryz.underlying48
 cases A with
 | none =>
  have h0 : xs = [] := by
   cases xs with
   | nil => rfl
   | cons x xs =>
    obtain ⟨_, _, e, _⟩ := Kd.C_get hC zV 0 (by omega) (by simp)
    cases e
  subst h0
  clear hC hb
  go_enter Tryz.func121, Tryz.ntmps121
  go_wp2
  go_ret
  exact ⟨_, [], rfl, World.ownsRow_nil _ _ _ _, Reps.none _ _, Below.refl _ _⟩
 | some ad =>
  obtain ⟨inner, hr, hcells⟩ := ReadsRow.inner_ hC
  have HR := Aside0.mk hr
  have hil : inner.length = xs.length * 5 := hr.1
  have hone : ∀ u ∈ inner, u.oneCell' = true := Kd.reps_one hr (by decide) (fun p c h => Kd.K_one k51 h)
  have HCE := Aside0.mk (fun (j : Nat) (u : Value) (hj : inner[j]? = some u) => cell_below' hb (hcells j u hj))
  have HON := Aside0.mk hone
  have HIL := Aside0.mk hil
  clear hC hr hcells hone hil hb
  go_enter Tryz.func121, Tryz.ntmps121
  go_wp2_with (at_builtin; refine wpList_append_own _ rfl _ _ 48 rfl w.heap.size 51 i0 (.agg #[.int .i64 0, .int .i64 0, .string ⟨#[]⟩, .slice none 0 0, .slice none 0 0]) 5 80 Tryz.underlying48 hi hz0 hz1 hz2 rfl (by decide) _ _ _ rfl (World.ownsRow_made w #[] 0 (Nat.le_refl _) (Nat.zero_le _) rfl) ad xs.length c inner rfl ?qc1 ?qc2 ?qc3 ?qc4 ?qc5 ?qc6 ?_)
  case qc1 => rw [HIL.out]
  case qc2 =>
   intro j u hj
   exact Lib.cell?_alloc_some _ (HCE.out j u hj)
  case qc3 => exact HON.out
  case qc4 => unfold maxLen; omega
  case qc5 => omega
  case qc6 => simp
  intro v' w1 hown hgrow hnil
  have HO := Aside0.mk hown
  have HG := Aside0.mk hgrow
  clear hown hgrow hnil
  go_wp2
  go_ret
  refine ⟨v', inner, rfl, (show w1.ownsRow w.heap.size 51 5 v' xs.length inner by simpa using HO.out), HR.out, ?_⟩
  exact ((Below.refl _ w).alloc (Nat.le_refl _) _).grown HG.out (by simp) (by intro k hk; simp [Value.ownBlock] at hk; omega)
set_option maxRecDepth 100000 in
set_option maxHeartbeats 1000000 in
theorem CloneS_calls (xs : List ByteArray) (A : Option Addr) (c : Nat) (w0 w : World) (hb : Below w0.heap.size w0 w) (hl : xs.length ≤ 1000000000000) (hc : xs.length ≤ c) (hC : Kd.C Kd.string w0 A xs.length xs) :
 Calls Tryz.prog 120 #[.slice A xs.length c] w (CloQ Kd.string 9 xs w0 w) := by
 obtain ⟨i0, hi, hz0, hz1, hz2⟩ := info_parts infoStr'
 have qn : ∀ (w : World) (a : Option Addr) (n c n' c' : Nat), (binOp .eql 49 (.slice a n c) (.slice none n' c')).run Tryz.prog w = .ok (.bool a.isNone) w := fun w a n c n' c' => Lib.run_eql_slice_nil w _ _ a n c n' c' Tryz.underlying49
 have un : ∀ w, Sem.run Tryz.prog (underlying 49) w = .ok (TypeDesc.slice 9) w := run_underlying Tryz.underlying49
 cases A with
 | none =>
  have h0 : xs = [] := by
   cases xs with
   | nil => rfl
   | cons x xs =>
    obtain ⟨_, _, e, _⟩ := Kd.C_get hC ByteArray.empty 0 (by omega) (by simp)
    cases e
  subst h0
  clear hC hb
  go_enter Tryz.func120, Tryz.ntmps120
  go_wp2
  go_ret
  exact ⟨_, [], rfl, World.ownsRow_nil _ _ _ _, Reps.none _ _, Below.refl _ _⟩
 | some ad =>
  obtain ⟨inner, hr, hcells⟩ := ReadsRow.inner_ hC
  have HR := Aside0.mk hr
  have hil : inner.length = xs.length * 1 := hr.1
  have hone : ∀ u ∈ inner, u.oneCell' = true := Kd.reps_one hr (by decide) (fun p c h => Kd.K_one Kd.string h)
  have HCE := Aside0.mk (fun (j : Nat) (u : Value) (hj : inner[j]? = some u) => cell_below' hb (hcells j u hj))
  have HON := Aside0.mk hone
  have HIL := Aside0.mk hil
  clear hC hr hcells hone hil hb
  go_enter Tryz.func120, Tryz.ntmps120
  go_wp2_with (at_builtin; refine wpList_append_own _ rfl _ _ 49 rfl w.heap.size 9 i0 (.string ⟨#[]⟩) 1 16 Tryz.underlying49 hi hz0 hz1 hz2 rfl (by decide) _ _ _ rfl (World.ownsRow_made w #[] 0 (Nat.le_refl _) (Nat.zero_le _) rfl) ad xs.length c inner rfl ?qc1 ?qc2 ?qc3 ?qc4 ?qc5 ?qc6 ?_)
  case qc1 => rw [HIL.out]
  case qc2 =>
   intro j u hj
   exact Lib.cell?_alloc_some _ (HCE.out j u hj)
  case qc3 => exact HON.out
  case qc4 => unfold maxLen; omega
  case qc5 => omega
  case qc6 => simp
  intro v' w1 hown hgrow hnil
  have HO := Aside0.mk hown
  have HG := Aside0.mk hgrow
  clear hown hgrow hnil
  go_wp2
  go_ret
  refine ⟨v', inner, rfl, (show w1.ownsRow w.heap.size 9 1 v' xs.length inner by simpa using HO.out), HR.out, ?_⟩
  exact ((Below.refl _ w).alloc (Nat.le_refl _) _).grown HG.out (by simp) (by intro k hk; simp [Value.ownBlock] at hk; omega)
end Go.Proofs.YtamcicojockhpaaGreatDoor.Tr
end
section
set_option linter.unusedVariables false
set_option linter.unusedSimpArgs false
namespace Go.Proofs.YtamcicojockhpaaGreatDoor.Tr
open Go.RowKit Go.Proofs.YtamcicojockhpaaGreatDoorW.PrintWords Go.Proofs.YtamcicojockhpaaGreatDoorW.PrintLast Go.Proofs.YtamcicojockhpaaGreatDoorW.PrintMore
open Go.Proofs.YtamcicojockhpaaGreatDoor.Lx Go.Proofs.YtamcicojockhpaaGreatDoor.PS
theorem set5_mid (A R : List Value) (b0 b1 b2 b3 b4 a0 a1 a2 a3 a4 : Value) : ((((((A ++ b0 :: b1 :: b2 :: b3 :: b4 :: R).set A.length a0).set (A.length + 1) a1).set (A.length + 2) a2).set (A.length + 3) a3).set (A.length + 4) a4) = A ++ a0 :: a1 :: a2 :: a3 :: a4 :: R := by
 simp [List.set_append]
theorem five_of (l : List Value) (h : 5 ≤ l.length) : ∃ b0 b1 b2 b3 b4 R, l = b0 :: b1 :: b2 :: b3 :: b4 :: R := by
 match l, h with
 | b0 :: b1 :: b2 :: b3 :: b4 :: R, _ => exact ⟨_, _, _, _, _, _, rfl⟩
theorem list_put5 {l inner : List Value} {k m : Nat} (hk : k + 5 ≤ m) (h : l.take m = inner) (hm : m ≤ l.length) (a0 a1 a2 a3 a4 : Value) :
 (((((l.set k a0).set (k + 1) a1).set (k + 2) a2).set (k + 3) a3).set (k + 4) a4).take m = inner.take k ++ [a0, a1, a2, a3, a4] ++ inner.drop (k + 5) := by
 have hl : inner.length = m := by rw [← h, List.length_take]; omega
 simp only [List.take_set, h]
 obtain ⟨b0, b1, b2, b3, b4, R, hd⟩ := five_of (inner.drop k) (by rw [List.length_drop]; omega)
 have e : inner = inner.take k ++ b0 :: b1 :: b2 :: b3 :: b4 :: R := by rw [← hd, List.take_append_drop]
 have ek : (inner.take k).length = k := by rw [List.length_take]; omega
 have e5 : inner.drop (k + 5) = R := by rw [← List.drop_drop, hd]; rfl
 have hs := set5_mid (inner.take k) R b0 b1 b2 b3 b4 a0 a1 a2 a3 a4
 rw [← e, ek] at hs
 rw [hs, e5]
 simp
theorem put5_at {w : World} {base g n c i : Nat} {e : TypeId} {inner : List Value} (hi : i < n) (h : w.ownsRow base e 5 (.slice (some ⟨g, 0, none⟩) n c) n inner) (a0 a1 a2 a3 a4 : Value) :
 (put5 w g (i * 5) a0 a1 a2 a3 a4).ownsRow base e 5 (.slice (some ⟨g, 0, none⟩) n c) n (inner.take (i * 5) ++ [a0, a1, a2, a3, a4] ++ inner.drop (i * 5 + 5)) := by
 have hi5 : i * 5 + 5 ≤ n * 5 := by omega
 obtain ⟨h1, h2⟩ := h
 refine ⟨by simp only [List.length_append, List.length_take, List.length_drop, List.length_cons, List.length_nil]; omega, ?_⟩
 rcases h2 with ⟨h2, _⟩ | ⟨g', cap, cur, hv, hg, hh, r1, r2, r3, r4⟩
 · cases h2
 · injection hv with e1 e2 e3
   injection e1 with e1
   injection e1 with e1
   subst e1
   refine .inr ⟨g, cap, _, by rw [e3], hg, put5_blk hh _ _ _ _ _, r1, r2, by simpa using r3, ?_⟩
   simp only [Array.toList_setIfInBounds]
   refine list_put5 hi5 r4 ?_ _ _ _ _ _
   rw [Array.length_toList, r3]
   exact Nat.mul_le_mul_right 5 r1
theorem put5_below {B g k : Nat} {w : World} (hb : B ≤ g) (a0 a1 a2 a3 a4 : Value) : Below B w (put5 w g k a0 a1 a2 a3 a4) :=
 (((((Below.refl B w).setCell (p := ⟨g, k, none⟩) hb a0).setCell (p := ⟨g, k + 1, none⟩) hb a1).setCell (p := ⟨g, k + 2, none⟩) hb a2).setCell (p := ⟨g, k + 3, none⟩) hb a3).setCell (p := ⟨g, k + 4, none⟩) hb a4
def CopQ (x : V) (w : World) (e : Ending) (w' : World) : Prop := Below w.heap.size w w' ∧ ∃ v3 v4, e = .returned (.agg #[.int .i64 x.f0, .int .i64 x.f1, .string x.f2, v3, v4]) ∧
 k51.R 51 w' w.heap.size (fun _ => True) v3 x.f3 ∧ Kd.string.R 9 w' w.heap.size (fun _ => True) v4 x.f4
def CopyC (d : Nat) : Prop := ∀ (x : V) (A3 : Option Addr) (c3 : Nat) (A4 : Option Addr) (c4 : Nat) (w : World), soundR d x = true → fitsR d x → x.f3.length ≤ c3 → k51.C w A3 x.f3.length x.f3 → x.f4.length ≤ c4 → Kd.string.C w A4 x.f4.length x.f4 →
 Calls Tryz.prog 91 #[vArg x A3 c3 A4 c4] w (CopQ x w)
def seg (j : Nat) (inner : List Value) : List Value := (inner.drop (j * 5)).take 5
structure CpI (k : Nat) (rs : List V) (w : World) (g base : Nat) (inner : List Value) (w2 : World) : Prop where
 l : inner.length = rs.length * 5
 m : ∀ j p, rs[j]? = some p → j < k → k51.M w2 base (fun b => b ≠ g) p (seg j inner)
 o : ∀ j p, rs[j]? = some p → k ≤ j → k51.K w p (seg j inner)
theorem seg_put (inner : List Value) (n i j : Nat) (hl : inner.length = n * 5) (hi : i < n) (s : List Value) (hs : s.length = 5) : seg j (inner.take (i * 5) ++ s ++ inner.drop (i * 5 + 5)) = if j = i then s else seg j inner := by
 unfold seg
 have hi5 : i * 5 + 5 ≤ n * 5 := by omega
 have hkl : (inner.take (i * 5)).length = i * 5 := by rw [List.length_take]; omega
 split
 · rename_i h
   subst h
   rw [List.append_assoc, List.drop_append, List.drop_eq_nil_of_le (by omega), hkl, Nat.sub_self, List.drop_zero, List.nil_append, List.take_append_of_le_length (by omega), List.take_of_length_le (by omega)]
 · rename_i h
   rcases Nat.lt_or_ge j i with h1 | h1
   · rw [List.append_assoc, List.drop_append_of_le_length (by omega), List.take_append_of_le_length (by rw [List.length_drop]; omega), List.drop_take, List.take_take, Nat.min_eq_left (by omega)]
   · rw [List.drop_append, List.drop_eq_nil_of_le (by rw [List.length_append]; omega), List.nil_append, List.drop_drop, List.length_append, hkl, hs]
     rw [show i * 5 + 5 + (j * 5 - (i * 5 + 5)) = j * 5 by omega]
theorem res_copied (tmps : Array Value) (w : World) (b : Nat) (v0 v1 v2 v3 v4 : Value) (h4 : tmps.getD 2 undef = .pointer (some ⟨b, 0, none⟩)) (hb : w.heap[b]? = some (.cells #[v0, v1, v2, v3, v4] 51 (0, 0))) :
 (results Tryz.f91 tmps).run Tryz.prog w = .ok (.agg #[v0, v1, v2, v3, v4]) w := by
 have c0 := blk_cell hb 0
 have c1 := blk_cell hb 1
 have c2 := blk_cell hb 2
 have c3 := blk_cell hb 3
 have c4 := blk_cell hb 4
 rw [Array.getD_eq_getD_getElem?] at h4
 simp at c0 c1 c2 c3 c4
 simp [results, Tryz.results91, go_sem, h4, c0, c1, c2, c3, c4]
set_option maxRecDepth 100000 in
set_option maxHeartbeats 2000000 in
theorem copied_step (x : V) (P : V → Prop) (HC : ∀ y ∈ x.f3, ∀ (A3 : Option Addr) (c3 : Nat) (A4 : Option Addr) (c4 : Nat) (w : World), y.f3.length ≤ c3 → k51.C w A3 y.f3.length y.f3 → y.f4.length ≤ c4 → Kd.string.C w A4 y.f4.length y.f4 → Calls Tryz.prog 91 #[vArg y A3 c3 A4 c4] w (CopQ y w))
 (A3 : Option Addr) (c3 : Nat) (A4 : Option Addr) (c4 : Nat) (w : World) (h3 : x.f3.length ≤ 1000000000000) (h4 : x.f4.length ≤ 1000000000000) (l3 : x.f3.length ≤ c3) (g3 : k51.C w A3 x.f3.length x.f3) (l4 : x.f4.length ≤ c4) (g4 : Kd.string.C w A4 x.f4.length x.f4) :
 Calls Tryz.prog 91 #[vArg x A3 c3 A4 c4] w (CopQ x w) := by
 have nv := blkA (blk_new w (.cells #[.int .i64 x.f0, .int .i64 x.f1, .string x.f2, .slice A3 x.f3.length c3, .slice A4 x.f4.length c4] 51 (0, 0))) (.cells zCs.toArray 51 (0, 0))
 have nz := blk_new (w.alloc (.cells #[.int .i64 x.f0, .int .i64 x.f1, .string x.f2, .slice A3 x.f3.length c3, .slice A4 x.f4.length c4] 51 (0, 0))) (.cells zCs.toArray 51 (0, 0))
 rw [show (w.alloc (.cells #[.int .i64 x.f0, .int .i64 x.f1, .string x.f2, .slice A3 x.f3.length c3, .slice A4 x.f4.length c4] 51 (0, 0))).heap.size = w.heap.size + 1 by simp] at nz
 have hb0 : Below w.heap.size w ((w.alloc (.cells #[.int .i64 x.f0, .int .i64 x.f1, .string x.f2, .slice A3 x.f3.length c3, .slice A4 x.f4.length c4] 51 (0, 0))).alloc (.cells zCs.toArray 51 (0, 0))) := ((Below.refl _ _).alloc (Nat.le_refl _) _).alloc (by simp) _
 unfold zCs at *
 have HG := Aside0.mk (And.intro g3 g4)
 have HCC := Aside0.mk HC
 unfold vArg
 clear g3 g4 HC
 go_enter Tryz.func91, Tryz.ntmps91
 go_wp2_with fail
 generalize (w.alloc (.cells #[.int .i64 x.f0, .int .i64 x.f1, .string x.f2, .slice A3 x.f3.length c3, .slice A4 x.f4.length c4] 51 (0, 0))).alloc (.cells [.int .i64 0, .int .i64 0, .string ⟨#[]⟩, .slice none 0 0, .slice none 0 0].toArray 51 (0, 0)) = W2 at *
 refine (CloneS_calls x.f4 A4 c4 w W2 hb0 h4 l4 HG.out.2).mono ?_
 rintro e w3 ⟨v4, in4, rfl, o4, r4, b3⟩
 obtain ⟨B4, d4, rfl⟩ := own_slice o4
 have hv3 := (b3.block _ (blk_lt nv)).trans nv
 have hz3 := (b3.block _ (blk_lt nz)).trans nz
 have hb3 := hb0.trans (b3.mono hb0.size)
 have x0 : w3.cell? ⟨w.heap.size, 0, none⟩ = some (.int .i64 x.f0) := blk_cell hv3 0
 have x1 : w3.cell? ⟨w.heap.size, 1, none⟩ = some (.int .i64 x.f1) := blk_cell hv3 1
 have x2 : w3.cell? ⟨w.heap.size, 2, none⟩ = some (.string x.f2) := blk_cell hv3 2
 have x3 : w3.cell? ⟨w.heap.size, 3, none⟩ = some (.slice A3 x.f3.length c3) := blk_cell hv3 3
 have x4 : w3.cell? ⟨w.heap.size, 4, none⟩ = some (.slice A4 x.f4.length c4) := blk_cell hv3 4
 have xf : ∀ j, w3.frozen? ⟨w.heap.size, j, none⟩ = false := blk_frozen hv3
 have s2 : w.heap.size + 2 ≤ W2.heap.size := by have := blk_lt nz; omega
 have hR4 : Kd.string.R 9 w3 W2.heap.size (fun _ => True) (.slice B4 x.f4.length d4) x.f4 := ⟨fun _ _ => trivial, in4, o4, r4.imp_ (fun _ _ h => h)⟩
 have hv4 := blk_put hv3 4 (.slice B4 x.f4.length d4) rfl
 have hz4 := far1 (j := 4) hz3 (show w.heap.size + 1 ≠ w.heap.size by omega) (.slice B4 x.f4.length d4)
 have hb4 : Below w.heap.size w (w3.setCell ⟨w.heap.size, 4, none⟩ (.slice B4 x.f4.length d4)) := hb3.setCell (p := ⟨w.heap.size, 4, none⟩) (Nat.le_refl _) _
 have hR44 := Kd.R_step (Kd.R_bound hR4) (w1 := w3.setCell ⟨w.heap.size, 4, none⟩ (.slice B4 x.f4.length d4)) (fun k hk _ => far_set _ _ _ _ _ (by have := hk.2.1; omega))
 have hs4 : W2.heap.size ≤ (w3.setCell ⟨w.heap.size, 4, none⟩ (.slice B4 x.f4.length d4)).heap.size := by have := b3.size; simpa [World.setCell] using this
 have H4 := Aside0.mk (And.intro hv4 (And.intro hz4 (And.intro hb4 (And.intro hR44 hs4))))
 clear o4 r4 b3 nv nz hv3 hz3 hb3 hR4 hv4 hz4 hb4 hR44 hs4
 go_wp2_with fail
 generalize w3.setCell ⟨w.heap.size, 4, none⟩ (.slice B4 x.f4.length d4) = W4 at *
 refine (CloneV_calls x.f3 A3 c3 w W4 H4.out.2.2.1 h3 l3 HG.out.1).mono ?_
 rintro e w5 ⟨v3, in3, rfl, o3, r3, b5⟩
 obtain ⟨hv4, hz4, hb4, hR4, hs4⟩ := H4.out
 obtain ⟨B3, d3, rfl⟩ := own_slice o3
 have hv5 := (b5.block _ (blk_lt hv4)).trans hv4
 have hz5 := (b5.block _ (blk_lt hz4)).trans hz4
 have hb5 := hb4.trans (b5.mono hb4.size)
 have hR5 := Kd.R_below hR4 b5
 clear x0 x1 x2 x3 x4 xf H4
 have x0 : w5.cell? ⟨w.heap.size, 0, none⟩ = some (.int .i64 x.f0) := blk_cell hv5 0
 have x1 : w5.cell? ⟨w.heap.size, 1, none⟩ = some (.int .i64 x.f1) := blk_cell hv5 1
 have x2 : w5.cell? ⟨w.heap.size, 2, none⟩ = some (.string x.f2) := blk_cell hv5 2
 have x3 : w5.cell? ⟨w.heap.size, 3, none⟩ = some (.slice A3 x.f3.length c3) := blk_cell hv5 3
 have x4 : w5.cell? ⟨w.heap.size, 4, none⟩ = some (.slice B4 x.f4.length d4) := blk_cell hv5 4
 have xf : ∀ j, w5.frozen? ⟨w.heap.size, j, none⟩ = false := blk_frozen hv5
 have hv6 := blk_put hv5 3 (.slice B3 x.f3.length d3) rfl
 have hz6 := far1 (j := 3) hz5 (show w.heap.size + 1 ≠ w.heap.size by omega) (.slice B3 x.f3.length d3)
 have hb6 : Below w.heap.size w (w5.setCell ⟨w.heap.size, 3, none⟩ (.slice B3 x.f3.length d3)) := hb5.setCell (p := ⟨w.heap.size, 3, none⟩) (Nat.le_refl _) _
 have hR6 := Kd.R_step hR5 (w1 := w5.setCell ⟨w.heap.size, 3, none⟩ (.slice B3 x.f3.length d3)) (fun k hk _ => far_set _ _ _ _ _ (by have := hk.2.1; omega))
 have hs6 : W4.heap.size ≤ (w5.setCell ⟨w.heap.size, 3, none⟩ (.slice B3 x.f3.length d3)).heap.size := by have := b5.size; simpa [World.setCell] using this
 have ho6 : (w5.setCell ⟨w.heap.size, 3, none⟩ (.slice B3 x.f3.length d3)).ownsRow W2.heap.size 51 5 (.slice B3 x.f3.length d3) x.f3.length in3 := own_weaken (own_move o3 (fun k hk => far_set _ _ _ _ _ (by have := own_base o3 k hk; omega))) hs4
 obtain ⟨g, hg, hgb⟩ : ∃ g, (0 < x.f3.length → B3 = some ⟨g, 0, none⟩) ∧ W4.heap.size ≤ g := by
  rcases o3.2 with ⟨e, h0⟩ | ⟨g, cap, cur, e, hb, _⟩
  · exact ⟨W4.heap.size, fun h => by omega, Nat.le_refl _⟩
  · injection e with e _ _
    exact ⟨g, fun _ => e, hb⟩
 have hI6 : CpI 0 x.f3 w g W2.heap.size in3 (w5.setCell ⟨w.heap.size, 3, none⟩ (.slice B3 x.f3.length d3)) := ⟨r3.1, fun j p _ h => absurd h (Nat.not_lt_zero _), fun j p hj _ => r3.2 j p hj⟩
 have H6 := Aside0.mk (And.intro hv6 (And.intro hz6 (And.intro hb6 (And.intro (Kd.R_mono hR6 (ok' := fun k => W2.heap.size ≤ k) (fun k hk => hk.2.1)) (And.intro hs6 (And.intro ho6 hI6))))))
 clear o3 r3 b5 hv4 hz4 hb4 hR4 hv5 hz5 hb5 hR5 hv6 hz6 hb6 hR6 hs6 ho6 hI6
 go_wp2_with fail
 generalize w5.setCell ⟨w.heap.size, 3, none⟩ (.slice B3 x.f3.length d3) = W6 at *
 clear x0 x1 x2 x3 x4 xf
 go_loopg [3, 4, 16] x.f3.length (fun kq v3 v4 v16 w2 => ∃ (k : Nat) (inner : List Value), k + kq = x.f3.length ∧ v16 = .int .i64 k ∧ W4.heap.size ≤ w2.heap.size ∧ Aside0 (w2.heap[w.heap.size]? = some (.cells #[.int .i64 x.f0, .int .i64 x.f1, .string x.f2, .slice B3 x.f3.length d3, .slice B4 x.f4.length d4] 51 (0, 0))) ∧
  Aside0 (w2.heap[w.heap.size + 1]? = some (.cells #[.int .i64 0, .int .i64 0, .string ⟨#[]⟩, .slice none 0 0, .slice none 0 0] 51 (0, 0))) ∧ Aside0 (Below w.heap.size w w2) ∧ Aside0 (Kd.string.R 9 w2 W2.heap.size (fun k => W2.heap.size ≤ k) (.slice B4 x.f4.length d4) x.f4) ∧
  Aside0 (w2.ownsRow W2.heap.size 51 5 (.slice B3 x.f3.length d3) x.f3.length inner) ∧ Aside0 (CpI k x.f3 w g W2.heap.size inner w2))
 case atStart => exact ⟨0, in3, by omega, rfl, H6.out.2.2.2.2.1, Aside0.mk H6.out.1, Aside0.mk H6.out.2.1, Aside0.mk H6.out.2.2.1, Aside0.mk H6.out.2.2.2.1, Aside0.mk H6.out.2.2.2.2.2.1, Aside0.mk H6.out.2.2.2.2.2.2⟩
 case round =>
  obtain ⟨k, inner, hk, rfl, hsr, HV, HZ, HB, HR, HO, HI⟩ := hrel
  clear H6
  have x0 : wr.cell? ⟨w.heap.size, 0, none⟩ = some (.int .i64 x.f0) := blk_cell HV.out 0
  have x1 : wr.cell? ⟨w.heap.size, 1, none⟩ = some (.int .i64 x.f1) := blk_cell HV.out 1
  have x2 : wr.cell? ⟨w.heap.size, 2, none⟩ = some (.string x.f2) := blk_cell HV.out 2
  have x3 : wr.cell? ⟨w.heap.size, 3, none⟩ = some (.slice B3 x.f3.length d3) := blk_cell HV.out 3
  have x4 : wr.cell? ⟨w.heap.size, 4, none⟩ = some (.slice B4 x.f4.length d4) := blk_cell HV.out 4
  cases gk with
  | zero =>
   have hge : ¬ ((k : Nat) : Int) < (x.f3.length : Int) := by omega
   obtain rfl : k = x.f3.length := by omega
   have y0 : wr.cell? ⟨w.heap.size + 1, 0, none⟩ = some (.int .i64 0) := blk_cell HZ.out 0
   have y1 : wr.cell? ⟨w.heap.size + 1, 1, none⟩ = some (.int .i64 0) := blk_cell HZ.out 1
   have y2 : wr.cell? ⟨w.heap.size + 1, 2, none⟩ = some (.string ⟨#[]⟩) := blk_cell HZ.out 2
   have y3 : wr.cell? ⟨w.heap.size + 1, 3, none⟩ = some (.slice none 0 0) := blk_cell HZ.out 3
   have y4 : wr.cell? ⟨w.heap.size + 1, 4, none⟩ = some (.slice none 0 0) := blk_cell HZ.out 4
   have yf : ∀ j, wr.frozen? ⟨w.heap.size + 1, j, none⟩ = false := blk_frozen HZ.out
   go_wp2
   have hz7 := blk_set5 HZ.out (.int .i64 x.f0) (.int .i64 x.f1) (.string x.f2) (.slice B3 x.f3.length d3) (.slice B4 x.f4.length d4)
   refine bodyPost_ret (v := .agg #[.int .i64 x.f0, .int .i64 x.f1, .string x.f2, .slice B3 x.f3.length d3, .slice B4 x.f4.length d4]) (res_copied _ _ (w.heap.size + 1) _ _ _ _ _ rfl hz7) rfl ?_
   have hfar : ∀ k, W2.heap.size ≤ k → (((((wr.setCell ⟨w.heap.size + 1, 0, none⟩ (.int .i64 x.f0)).setCell ⟨w.heap.size + 1, 1, none⟩ (.int .i64 x.f1)).setCell ⟨w.heap.size + 1, 2, none⟩ (.string x.f2)).setCell ⟨w.heap.size + 1, 3, none⟩ (.slice B3 x.f3.length d3)).setCell ⟨w.heap.size + 1, 4, none⟩ (.slice B4 x.f4.length d4)).heap[k]? = wr.heap[k]? := fun k hk => far5' (by omega) _ _ _ _ _
   refine ⟨below5 HB.out (by omega) _ _ _ _ _, _, _, rfl, ?_, ?_⟩
   · refine Kd.R_lower (Kd.R_step (w := wr) (base := W2.heap.size) (ok := fun k => W2.heap.size ≤ k) ?_ (fun k hk _ => hfar k hk) |> fun h => Kd.R_mono h (fun _ _ => trivial)) (by omega)
     refine ⟨fun k hk => own_base HO.out k hk, inner, HO.out, HI.out.l, fun j p hj => ?_⟩
     have hm := HI.out.m j p hj (List.getElem?_eq_some_iff.1 hj).1
     refine k51.M_mono (fun k hk => ⟨hk.2.1, fun e => hk.1 ?_⟩) (k51.M_bound hm)
     have hpos : 0 < x.f3.length := by have := (List.getElem?_eq_some_iff.1 hj).1; omega
     rw [hg hpos] at e
     simpa [Value.ownBlock] using e
   · exact Kd.R_lower (Kd.R_mono (Kd.R_step HR.out (fun k hk _ => hfar k hk)) (fun _ _ => trivial)) (by omega)
  | succ k1 =>
   have hlt : ((k : Nat) : Int) < (x.f3.length : Int) := by omega
   have hlt' : k < x.f3.length := by omega
   obtain rfl := hg (by omega)
   have hget : x.f3[k]? = some x.f3[k] := List.getElem?_eq_getElem hlt'
   obtain ⟨E3, e3, E4, e4, hsg, m3, q3, m4, q4⟩ := k51_open (HI.out.o k x.f3[k] hget (Nat.le_refl _))
   have hin : ∀ j, j < 5 → inner[k * 5 + j]? = (seg k inner)[j]? := fun j hj => by
    unfold seg
    rw [List.getElem?_take, if_pos hj, List.getElem?_drop]
   have hcell : ∀ j u, j < 5 → (seg k inner)[j]? = some u → wr.cell? ⟨g, k * 5 + j, none⟩ = some u := fun j u hj hu => by
    have h := HO.out.cells (g := g) rfl _ _ ((hin j hj).trans hu)
    rwa [show (⟨g, 0, none⟩ : Addr).add (k * 5 + j) = ⟨g, k * 5 + j, none⟩ by unfold Addr.add; split <;> simp_all] at h
   rw [hsg] at hcell
   have r0 : wr.cell? ⟨g, k * 5, none⟩ = some (.int .i64 x.f3[k].f0) := hcell 0 _ (by omega) rfl
   have r1 : wr.cell? ⟨g, k * 5 + 1, none⟩ = some (.int .i64 x.f3[k].f1) := hcell 1 _ (by omega) rfl
   have r2 : wr.cell? ⟨g, k * 5 + 2, none⟩ = some (.string x.f3[k].f2) := hcell 2 _ (by omega) rfl
   have r3 : wr.cell? ⟨g, k * 5 + 3, none⟩ = some (.slice E3 x.f3[k].f3.length e3) := hcell 3 _ (by omega) rfl
   have r4 : wr.cell? ⟨g, k * 5 + 4, none⟩ = some (.slice E4 x.f3[k].f4.length e4) := hcell 4 _ (by omega) rfl
   have HY := Aside0.mk (HCC.out x.f3[k] (List.getElem_mem _))
   have HGET := Aside0.mk hget
   have HQ := Aside0.mk (And.intro m3 (And.intro q3 (And.intro m4 q4)))
   have HCELL := Aside0.mk (fun (j : Nat) (u : Value) (hj : j < 5) (hu : [Value.int .i64 x.f3[k].f0, .int .i64 x.f3[k].f1, .string x.f3[k].f2, .slice E3 x.f3[k].f3.length e3, .slice E4 x.f3[k].f4.length e4][j]? = some u) => (show inner[k * 5 + j]? = some u from (hin j hj).trans (hsg ▸ hu)))
   clear hin hcell hsg m3 q3 m4 q4 hget
   generalize x.f3[k] = y at *
   have hba := (Below.refl wr.heap.size wr).alloc (Nat.le_refl _) (.cells #[.int .i64 y.f0, .int .i64 y.f1, .string y.f2, .slice E3 y.f3.length e3, .slice E4 y.f4.length e4] 51 (0, 0))
   have HBA := Aside0.mk hba
   have NV := Aside0.mk (blk_new wr (.cells #[.int .i64 y.f0, .int .i64 y.f1, .string y.f2, .slice E3 y.f3.length e3, .slice E4 y.f4.length e4] 51 (0, 0)))
   clear hba
   go_wp2_with fail
   have hv7 := (HBA.out.block _ (blk_lt HV.out)).trans HV.out
   have nv7 := NV.out
   have s7 : wr.heap.size + 1 ≤ (wr.alloc (.cells #[.int .i64 y.f0, .int .i64 y.f1, .string y.f2, .slice E3 y.f3.length e3, .slice E4 y.f4.length e4] 51 (0, 0))).heap.size := by simp
   clear x0 x1 x2 x3 x4 r0 r1 r2 r3 r4
   generalize wr.alloc (.cells #[.int .i64 y.f0, .int .i64 y.f1, .string y.f2, .slice E3 y.f3.length e3, .slice E4 y.f4.length e4] 51 (0, 0)) = W7 at *
   have k3 : W7.drew.cell? ⟨w.heap.size, 3, none⟩ = some (.slice (some ⟨g, 0, none⟩) x.f3.length d3) := blk_cell (w := W7.drew) hv7 3
   have b0 : W7.drew.cell? ⟨wr.heap.size, 0, none⟩ = some (.int .i64 y.f0) := blk_cell (w := W7.drew) nv7 0
   have b1 : W7.drew.cell? ⟨wr.heap.size, 1, none⟩ = some (.int .i64 y.f1) := blk_cell (w := W7.drew) nv7 1
   have b2 : W7.drew.cell? ⟨wr.heap.size, 2, none⟩ = some (.string y.f2) := blk_cell (w := W7.drew) nv7 2
   have b3 : W7.drew.cell? ⟨wr.heap.size, 3, none⟩ = some (.slice E3 y.f3.length e3) := blk_cell (w := W7.drew) nv7 3
   have b4 : W7.drew.cell? ⟨wr.heap.size, 4, none⟩ = some (.slice E4 y.f4.length e4) := blk_cell (w := W7.drew) nv7 4
   have hdr : Below W7.heap.size W7 W7.drew := ⟨rfl, rfl, rfl, Nat.le_refl _, fun _ _ => rfl⟩
   have hltn : k < x.f3.length := hlt'
   refine start_ (n := 7) (S := fun w' => w'.cell? ⟨w.heap.size, 3, none⟩ = some (.slice (some ⟨g, 0, none⟩) x.f3.length d3) ∧ w'.cell? ⟨wr.heap.size, 0, none⟩ = some (.int .i64 y.f0) ∧ w'.cell? ⟨wr.heap.size, 1, none⟩ = some (.int .i64 y.f1) ∧ w'.cell? ⟨wr.heap.size, 2, none⟩ = some (.string y.f2) ∧ w'.cell? ⟨wr.heap.size, 3, none⟩ = some (.slice E3 y.f3.length e3) ∧ w'.cell? ⟨wr.heap.size, 4, none⟩ = some (.slice E4 y.f4.length e4)) (ds := [6]) #[fF, fF, fF, fF, fF, fF, fF] (by kernel_rfl) rfl rfl ⟨k3, b0, b1, b2, b3, b4⟩ (fun hHeld => ?_)
   refine pure_ (i := 0) (N := some 21) (v := ?_) (a' := ?_) #[tT, fF, fF, fF, fF, fF, fF] rfl rfl (by kernel_rfl) (fun _ _ _ h => h) (Or.inl ⟨by rfl, ?_⟩) ?_ ?_
   rotate_left
   · intro w'
     go_simp
     with_reducible rfl
   rotate_left
   · simp only [Act.put, sA, sZ, sS, i64_w, i32_w]
     rfl
   refine take_ (i := 1) (N := some 22) (v := ?_) (a' := ?_) #[tT, tT, fF, fF, fF, fF, fF] rfl rfl (by kernel_rfl) (fun _ _ _ h => h) (Or.inl ⟨by rfl, ?_⟩) hHeld ?_ ?_
   rotate_left
   · rintro w' ⟨g3, g4, g5, g6, g7, g8⟩
     go_simp
     with_reducible rfl
   rotate_left
   · simp only [Act.put, sA, sZ, sS, i64_w, i32_w]
     rfl
   refine pure_ (i := 2) (N := some 23) (v := ?_) (a' := ?_) #[tT, tT, tT, fF, fF, fF, fF] rfl rfl (by kernel_rfl) (fun _ _ _ h => h) (Or.inl ⟨by rfl, ?_⟩) ?_ ?_
   rotate_left
   · intro w'
     go_simp
     with_reducible rfl
   rotate_left
   · simp only [Act.put, sA, sZ, sS, i64_w, i32_w]
     rfl
   refine take_ (i := 3) (N := some 24) (v := ?_) (a' := ?_) #[tT, tT, tT, tT, fF, fF, fF] rfl rfl (by kernel_rfl) (fun _ _ _ h => h) (Or.inl ⟨by rfl, ?_⟩) hHeld ?_ ?_
   rotate_left
   · rintro w' ⟨g3, g4, g5, g6, g7, g8⟩
     go_simp
     with_reducible rfl
   rotate_left
   · simp only [Act.put, sA, sZ, sS, i64_w, i32_w]
     rfl
   refine one_ (i := 4) (N := some 25) #[tT, tT, tT, tT, tT, fF, fF] rfl rfl (by kernel_rfl) (by decide) (fun K hK => ?_)
   refine goes_ Tryz.func91 (by kernel_rfl) rfl #[.agg #[.int .i64 y.f0, .int .i64 y.f1, .string y.f2, .slice E3 y.f3.length e3, .slice E4 y.f4.length e4]] (by rfl) rfl rfl (by simp only [List.map_toArray, List.map_cons, List.map_nil]; rfl) ?_
   have hw7 : Below w.heap.size w W7.drew := (HB.out.trans (HBA.out.mono HB.out.size)).trans (hdr.mono (by have := HB.out.size; omega))
   have H := Aside0.mk (HY.out E3 e3 E4 e4 W7.drew HQ.out.1 (Kd.C_below HQ.out.2.1 hw7) HQ.out.2.2.1 (Kd.C_below HQ.out.2.2.2 hw7))
   unfold vArg at H
   refine H.out.mono ?_
   rintro e w8 ⟨hb8, v3, v4, rfl, hr3, hr4⟩
   have h8v := (hb8.block _ (blk_lt hv7)).trans hv7
   have h8n := (hb8.block _ (blk_lt nv7)).trans nv7
   refine ⟨_, rfl, ?_⟩
   refine hK.out _ _ ⟨blk_cell h8v 3, blk_cell h8n 0, blk_cell h8n 1, blk_cell h8n 2, blk_cell h8n 3, blk_cell h8n 4⟩ fun hHeld => ?_
   clear hK K H
   obtain ⟨F3, f3', rfl⟩ := Kd.R_slice hr3
   obtain ⟨F4, f4', rfl⟩ := Kd.R_slice hr4
   refine pure_ (i := 5) (N := some 26) (v := ?_) (a' := ?_) #[tT, tT, tT, tT, tT, tT, fF] rfl rfl (by kernel_rfl) (fun _ _ _ h => h) (Or.inl ⟨by rfl, ?_⟩) ?_ ?_
   rotate_left
   · intro w'
     go_simp
     with_reducible rfl
   rotate_left
   · simp only [Act.put, sA, sZ, sS, i64_w, i32_w]
     rfl
   have hwb8 : Below wr.heap.size wr w8 := (HBA.out.trans (hdr.mono (by omega))).trans (hb8.mono (by show wr.heap.size ≤ W7.drew.heap.size; have : W7.drew.heap.size = W7.heap.size := rfl; omega))
   have ho8 := own_move HO.out (w1 := w8) (fun j hj => hwb8.block j (own_lt HO.out j hj))
   have hgs : g < wr.heap.size := own_lt HO.out g (by simp [Value.ownBlock])
   obtain ⟨cur8, hcur8⟩ : ∃ cur, w8.heap[g]? = some (.cells cur 51 (0, 0)) := by
    rcases ho8.2 with ⟨h, _⟩ | ⟨g', cap, cur, h, h', hh, _⟩
    · cases h
    · injection h with e1 e2 e3
      injection e1 with e1
      injection e1 with e1
      subst e1
      exact ⟨cur, hh⟩
   have hfz8 : ∀ j, w8.frozen? ⟨g, j, none⟩ = false := blk_frozen hcur8
   have hgc8 : ∀ j u, j < 5 → [Value.int .i64 y.f0, .int .i64 y.f1, .string y.f2, .slice E3 y.f3.length e3, .slice E4 y.f4.length e4][j]? = some u → w8.cell? ⟨g, k * 5 + j, none⟩ = some u := fun j u hj hu => by
    have h := ho8.cells (g := g) rfl _ _ (HCELL.out j u hj hu)
    rwa [show (⟨g, 0, none⟩ : Addr).add (k * 5 + j) = ⟨g, k * 5 + j, none⟩ by unfold Addr.add; split <;> simp_all] at h
   have z0 : w8.cell? ⟨g, k * 5, none⟩ = some (.int .i64 y.f0) := hgc8 0 _ (by omega) rfl
   have z1 : w8.cell? ⟨g, k * 5 + 1, none⟩ = some (.int .i64 y.f1) := hgc8 1 _ (by omega) rfl
   have z2 : w8.cell? ⟨g, k * 5 + 2, none⟩ = some (.string y.f2) := hgc8 2 _ (by omega) rfl
   have z3 : w8.cell? ⟨g, k * 5 + 3, none⟩ = some (.slice E3 y.f3.length e3) := hgc8 3 _ (by omega) rfl
   have z4 : w8.cell? ⟨g, k * 5 + 4, none⟩ = some (.slice E4 y.f4.length e4) := hgc8 4 _ (by omega) rfl
   refine last_ (i := 6) (N := none) #[tT, tT, tT, tT, tT, tT, tT] rfl rfl (by kernel_rfl) (by decide) (fun K hK => ?_)
   rw [if_pos (by rfl)]
   unfold Oper.wp
   go_simp
   refine hK.out _ _ ?_
   clear hK K hHeld
   refine done_ (by kernel_rfl) ?_
   have h7s : W7.drew.heap.size = W7.heap.size := rfl
   have h9 : (((((w8.setCell ⟨g, k * 5, none⟩ (.int .i64 y.f0)).setCell ⟨g, k * 5 + 1, none⟩ (.int .i64 y.f1)).setCell ⟨g, k * 5 + 2, none⟩ (.string y.f2)).setCell ⟨g, k * 5 + 3, none⟩ (.slice F3 y.f3.length f3')).setCell ⟨g, k * 5 + 4, none⟩ (.slice F4 y.f4.length f4')) = put5 w8 g (k * 5) (.int .i64 y.f0) (.int .i64 y.f1) (.string y.f2) (.slice F3 y.f3.length f3') (.slice F4 y.f4.length f4') := rfl
   rw [h9]
   have hfar : ∀ j, j ≠ g → (put5 w8 g (k * 5) (.int .i64 y.f0) (.int .i64 y.f1) (.string y.f2) (.slice F3 y.f3.length f3') (.slice F4 y.f4.length f4')).heap[j]? = w8.heap[j]? := fun j hj => put5_far hj _ _ _ _ _
   have hV9 := (hfar w.heap.size (by omega)).trans h8v
   have hZ9 := (hfar (w.heap.size + 1) (by omega)).trans ((hwb8.block _ (blk_lt HZ.out)).trans HZ.out)
   have hB9 : Below w.heap.size w (put5 w8 g (k * 5) (.int .i64 y.f0) (.int .i64 y.f1) (.string y.f2) (.slice F3 y.f3.length f3') (.slice F4 y.f4.length f4')) := (hw7.trans (hb8.mono hw7.size)).trans (put5_below (by omega) _ _ _ _ _)
   have hS9 : wr.heap.size ≤ (put5 w8 g (k * 5) (.int .i64 y.f0) (.int .i64 y.f1) (.string y.f2) (.slice F3 y.f3.length f3') (.slice F4 y.f4.length f4')).heap.size := Nat.le_trans hwb8.size (put5_same _ _ _ _ _ _ _ _).size
   have hR9 := Kd.R_mono (Kd.R_step (Kd.R_types (Kd.R_below HR.out hwb8) hcur8 (by decide)) (fun j hj _ => hfar j hj.2)) (ok' := fun k => W2.heap.size ≤ k) (fun j hj => hj.1)
   have hO9 := put5_at hlt' ho8 (.int .i64 y.f0) (.int .i64 y.f1) (.string y.f2) (.slice F3 y.f3.length f3') (.slice F4 y.f4.length f4')
   have hI9 : CpI (k + 1) x.f3 w g W2.heap.size (inner.take (k * 5) ++ [.int .i64 y.f0, .int .i64 y.f1, .string y.f2, .slice F3 y.f3.length f3', .slice F4 y.f4.length f4'] ++ inner.drop (k * 5 + 5)) (put5 w8 g (k * 5) (.int .i64 y.f0) (.int .i64 y.f1) (.string y.f2) (.slice F3 y.f3.length f3') (.slice F4 y.f4.length f4')) := by
    refine ⟨hO9.1, fun j p hj hjk => ?_, fun j p hj hjk => ?_⟩
    · rw [seg_put inner x.f3.length k j HI.out.l hlt' _ rfl]
      split
      · rename_i e
        subst e
        have hpy : p = y := Option.some.inj (hj.symm.trans HGET.out)
        subst hpy
        have hM := k51.M_bound (k51_mkM w8 W7.drew.heap.size (fun _ => True) p hr3 hr4)
        exact k51.M_lower (by omega) (Kd.M_step (k51.M_mono (fun j hj => (show j ≠ g by have := hj.2.1; omega)) hM) (fun j hj _ => hfar j hj))
      · have hm := HI.out.m j p hj (by omega)
        exact Kd.M_step (Kd.M_step hm (fun j _ hj => hwb8.block j hj)) (fun j hj _ => hfar j hj)
    · rw [seg_put inner x.f3.length k j HI.out.l hlt' _ rfl, if_neg (by omega)]
      exact HI.out.o j p hj (by omega)
   have A9 := Aside0.mk (And.intro hV9 (And.intro hZ9 (And.intro hB9 (And.intro hR9 (And.intro hO9 (And.intro hI9 hS9))))))
   clear hV9 hZ9 hB9 hR9 hO9 hI9 hS9 h9 hfar z0 z1 z2 z3 z4 hgc8 hfz8 hcur8 ho8 hwb8 hr3 hr4 h8v h8n hb8 b0 b1 b2 b3 b4 k3 hdr hv7 nv7
   generalize put5 w8 g (k * 5) (.int .i64 y.f0) (.int .i64 y.f1) (.string y.f2) (.slice F3 y.f3.length f3') (.slice F4 y.f4.length f4') = W9 at *
   go_wp2
   go_roundg k1
   case measure => omega
   case rel => exact ⟨k + 1, _, by omega, by go_num, Nat.le_trans hsr A9.out.2.2.2.2.2.2, Aside0.mk A9.out.1, Aside0.mk A9.out.2.1, Aside0.mk A9.out.2.2.1, Aside0.mk A9.out.2.2.2.1, Aside0.mk A9.out.2.2.2.2.1, Aside0.mk A9.out.2.2.2.2.2.1⟩
theorem copied_calls : ∀ d, CopyC d
 | 0 => by
  intro x A3 c3 A4 c4 w hs hf l3 g3 l4 g4
  have hb := sound_bare hs
  simp only [soundR, Bool.and_eq_true, Bool.not_eq_true', Bool.or_eq_false_iff, beq_eq_false_iff_ne] at hs
  obtain ⟨e3, e4⟩ := bareV_leaf hb hs.1.1.1 hs.1.1.2
  exact copied_step x (fun _ => True) (fun y hy => by rw [e3] at hy; cases hy) A3 c3 A4 c4 w hf.1 hf.2 l3 g3 l4 g4
 | d + 1 => by
  intro x A3 c3 A4 c4 w hs hf l3 g3 l4 g4
  simp only [soundR, Bool.and_eq_true, List.all_eq_true] at hs
  exact copied_step x (fun _ => True) (fun y hy B3 e3 B4 e4 w1 m3 q3 m4 q4 => copied_calls d y B3 e3 B4 e4 w1 (hs.2 y hy) (hf.2.2 y hy) m3 q3 m4 q4) A3 c3 A4 c4 w hf.1 hf.2.1 l3 g3 l4 g4
end Go.Proofs.YtamcicojockhpaaGreatDoor.Tr
end
section
set_option linter.unusedVariables false
set_option linter.unusedSimpArgs false
namespace Go.Proofs.YtamcicojockhpaaGreatDoor.Tr
open Go.RowKit Go.Proofs.YtamcicojockhpaaGreatDoorW.PrintWords Go.Proofs.YtamcicojockhpaaGreatDoorW.PrintLast Go.Proofs.YtamcicojockhpaaGreatDoorW.PrintMore
open Go.Proofs.YtamcicojockhpaaGreatDoor.Lx Go.Proofs.YtamcicojockhpaaGreatDoor.PS
def idxB (x : ByteArray) : List ByteArray → Option Nat
 | [] => none
 | a :: r => if x = a then some 0 else (idxB x r).map (· + 1)
theorem idxB_get (x : ByteArray) : ∀ (l : List ByteArray) (i : Nat), idxB x l = some i → l[i]? = some x
 | [], _, h => by cases h
 | a :: r, i, h => by
  unfold idxB at h
  split at h
  · rename_i e
    cases h
    rw [e]
    rfl
  · obtain ⟨j, hj, rfl⟩ := Option.map_eq_some_iff.1 h
    rw [List.getElem?_cons_succ]
    exact idxB_get x r j hj
theorem idx_l0 (x : ByteArray) (nm : List ByteArray) (hl : nm.length ≤ 1000000000000) : ∀ (d j k : Nat), j + d = nm.length → d + 1 ≤ k →
 PC.slices_Index_string_string.l0 k nm x (nm.length : Int) (j : Int) = some (match idxB x (nm.drop j) with | some i => ((j + i : Nat) : Int) | none => -1)
 | 0, j, k, hj, hk => by
  obtain ⟨k, rfl⟩ : ∃ k', k = k' + 1 := ⟨k - 1, by omega⟩
  simp only [PC.slices_Index_string_string.l0]
  rw [if_neg (by omega), List.drop_eq_nil_of_le (by omega)]
  rfl
 | d + 1, j, k, hj, hk => by
  obtain ⟨k, rfl⟩ : ∃ k', k = k' + 1 := ⟨k - 1, by omega⟩
  have hlt : j < nm.length := by omega
  simp only [PC.slices_Index_string_string.l0]
  rw [if_pos (by omega), if_pos (by omega), if_pos (by omega)]
  have hrd : rdOf ByteArray.empty nm (j : Int) = nm[j] := by simp [rdOf, List.getD, List.getElem?_eq_getElem hlt]
  rw [hrd, List.drop_eq_getElem_cons hlt]
  unfold idxB
  by_cases he : x = nm[j]
  · rw [if_pos he, if_pos (by rw [← he])]
    simp
  · rw [if_neg he, if_neg (fun e => he (by rw [toList_data, toList_data] at e; rw [← toB_list x, ← toB_list nm[j], e]))]
    have hw : wrap64 ((j : Int) + 1) = ((j + 1 : Nat) : Int) := by
     unfold wrap64
     omega
    rw [hw, idx_l0 x nm hl d (j + 1) k (by omega) (by omega)]
    clear hw
    cases idxB x (nm.drop (j + 1)) with
    | none => rfl
    | some i =>
     simp only [Option.map_some, Option.some.injEq]
     exact congrArg Int.ofNat (by omega)
theorem sound_rows {d : Nat} {x : V} (h : soundR (d + 1) x = true) : ∀ y ∈ x.f3, soundR d y = true := by
 simp only [soundR, Bool.and_eq_true, List.all_eq_true] at h
 exact h.2
def getR (x : V) (name : ByteArray) : V × Bool := if x.f0 = 6 ∧ soundR 8 x = true then (match idxB name x.f4 with | some i => (x.f3.getD i zV, true) | none => (zV, false)) else (zV, false)
def GetQ (r : V × Bool) (w : World) (e : Ending) (w' : World) : Prop := Below w.heap.size w w' ∧ ∃ v3 v4, e = .returned (.tuple #[.agg #[.int .i64 r.1.f0, .int .i64 r.1.f1, .string r.1.f2, v3, v4], .bool r.2]) ∧
 k51.R 51 w' w.heap.size (fun _ => True) v3 r.1.f3 ∧ Kd.string.R 9 w' w.heap.size (fun _ => True) v4 r.1.f4
theorem res_Get (tmps : Array Value) (w : World) (b : Nat) (v0 v1 v2 v3 v4 z : Value) (h4 : tmps.getD 4 undef = .pointer (some ⟨b, 0, none⟩)) (h5 : tmps.getD 5 undef = z) (hb : w.heap[b]? = some (.cells #[v0, v1, v2, v3, v4] 51 (0, 0))) :
 (results Tryz.f55 tmps).run Tryz.prog w = .ok (.tuple #[.agg #[v0, v1, v2, v3, v4], z]) w := by
 have c0 := blk_cell hb 0
 have c1 := blk_cell hb 1
 have c2 := blk_cell hb 2
 have c3 := blk_cell hb 3
 have c4 := blk_cell hb 4
 rw [Array.getD_eq_getD_getElem?] at h4 h5
 simp at c0 c1 c2 c3 c4
 simp [results, Tryz.results55, go_sem, h4, h5, c0, c1, c2, c3, c4]
set_option maxRecDepth 100000 in
set_option maxHeartbeats 2000000 in
theorem Get_calls (x : V) (name : ByteArray) (A3 : Option Addr) (c3 : Nat) (A4 : Option Addr) (c4 : Nat) (w : World) (fx : fitsR 8 x) (l3 : x.f3.length ≤ c3) (g3 : k51.C w A3 x.f3.length x.f3) (l4 : x.f4.length ≤ c4) (g4 : Kd.string.C w A4 x.f4.length x.f4) :
 Calls Tryz.prog 55 #[vArg x A3 c3 A4 c4, .string name] w (GetQ (getR x name) w) := by
 have nv := blkA (blk_new w (.cells #[.int .i64 x.f0, .int .i64 x.f1, .string x.f2, .slice A3 x.f3.length c3, .slice A4 x.f4.length c4] 51 (0, 0))) (.cells zCs.toArray 51 (0, 0))
 have nz := blk_new (w.alloc (.cells #[.int .i64 x.f0, .int .i64 x.f1, .string x.f2, .slice A3 x.f3.length c3, .slice A4 x.f4.length c4] 51 (0, 0))) (.cells zCs.toArray 51 (0, 0))
 rw [show (w.alloc (.cells #[.int .i64 x.f0, .int .i64 x.f1, .string x.f2, .slice A3 x.f3.length c3, .slice A4 x.f4.length c4] 51 (0, 0))).heap.size = w.heap.size + 1 by simp] at nz
 have hb0 : Below w.heap.size w ((w.alloc (.cells #[.int .i64 x.f0, .int .i64 x.f1, .string x.f2, .slice A3 x.f3.length c3, .slice A4 x.f4.length c4] 51 (0, 0))).alloc (.cells zCs.toArray 51 (0, 0))) := ((Below.refl _ _).alloc (Nat.le_refl _) _).alloc (by simp) _
 have hs2 : w.heap.size + 2 ≤ ((w.alloc (.cells #[.int .i64 x.f0, .int .i64 x.f1, .string x.f2, .slice A3 x.f3.length c3, .slice A4 x.f4.length c4] 51 (0, 0))).alloc (.cells zCs.toArray 51 (0, 0))).heap.size := by simp
 unfold zCs at *
 have hlen := fitsR_len fx
 have HFX := Aside0.mk fx
 have HG := Aside0.mk (And.intro g3 g4)
 have HR := Aside0.mk (show getR x name = if x.f0 = 6 ∧ soundR 8 x = true then (match idxB name x.f4 with | some i => (x.f3.getD i zV, true) | none => (zV, false)) else (zV, false) from rfl)
 have HSC := Aside0.mk (sound_calls 8 (Nat.le_refl _))
 generalize getR x name = res at *
 unfold vArg
 have NV := Aside0.mk nv
 have NZ := Aside0.mk nz
 have HB0 := Aside0.mk hb0
 clear g3 g4 fx nv nz hb0
 by_cases h6 : x.f0 = 6
 · have hn6 : (x.f0 != 6) = false := by simp [h6]
   have H6 := Aside0.mk h6
   clear h6
   go_enter Tryz.func55, Tryz.ntmps55
   go_wp2_with fail
   generalize (w.alloc (.cells #[.int .i64 x.f0, .int .i64 x.f1, .string x.f2, .slice A3 x.f3.length c3, .slice A4 x.f4.length c4] 51 (0, 0))).alloc (.cells [.int .i64 0, .int .i64 0, .string ⟨#[]⟩, .slice none 0 0, .slice none 0 0].toArray 51 (0, 0)) = W2 at *
   refine (HSC.out x A3 c3 A4 c4 W2 HFX.out l3 (Kd.C_below HG.out.1 HB0.out) l4 (Kd.C_below HG.out.2 HB0.out)).mono ?_
   rintro e w3 ⟨rfl, b3⟩
   have hv3 := (b3.block _ (blk_lt NV.out)).trans NV.out
   have hz3 := (b3.block _ (blk_lt NZ.out)).trans NZ.out
   have hb3 := HB0.out.trans (b3.mono HB0.out.size)
   have hs3 := b3.size
   have x3 : w3.cell? ⟨w.heap.size, 3, none⟩ = some (.slice A3 x.f3.length c3) := blk_cell hv3 3
   have x4 : w3.cell? ⟨w.heap.size, 4, none⟩ = some (.slice A4 x.f4.length c4) := blk_cell hv3 4
   have z0 : w3.cell? ⟨w.heap.size + 1, 0, none⟩ = some (.int .i64 0) := blk_cell hz3 0
   have z1 : w3.cell? ⟨w.heap.size + 1, 1, none⟩ = some (.int .i64 0) := blk_cell hz3 1
   have z2 : w3.cell? ⟨w.heap.size + 1, 2, none⟩ = some (.string ⟨#[]⟩) := blk_cell hz3 2
   have z3 : w3.cell? ⟨w.heap.size + 1, 3, none⟩ = some (.slice none 0 0) := blk_cell hz3 3
   have z4 : w3.cell? ⟨w.heap.size + 1, 4, none⟩ = some (.slice none 0 0) := blk_cell hz3 4
   have zf : ∀ j, w3.frozen? ⟨w.heap.size + 1, j, none⟩ = false := blk_frozen hz3
   have HV3 := Aside0.mk hv3
   have HZ3 := Aside0.mk hz3
   have HB3 := Aside0.mk hb3
   clear hv3 hz3 hb3 b3 HSC
   cases hs : soundR 8 x with
   | false =>
    have HE := Aside0.mk (show res = (zV, false) by rw [HR.out, if_neg (fun h => by rw [hs] at h; cases h.2)])
    clear hs
    go_wp2
    refine bodyPost_ret (v := .tuple #[.agg #[.int .i64 0, .int .i64 0, .string ⟨#[]⟩, .slice none 0 0, .slice none 0 0], .bool false]) (res_Get _ _ (w.heap.size + 1) _ _ _ _ _ _ rfl rfl (blk_set5 HZ3.out (.int .i64 0) (.int .i64 0) (.string ⟨#[]⟩) (.slice none 0 0) (.slice none 0 0))) rfl ?_
    rw [HE.out]
    exact ⟨below5 HB3.out (by omega) _ _ _ _ _, _, _, rfl, Kd.R_nil _ _ _ _ _, Kd.R_nil _ _ _ _ _⟩
   | true =>
    have HS := Aside0.mk hs
    clear hs
    have hix := idx_l0 name x.f4 hlen.2 x.f4.length 0 (x.f4.length + 1) (by omega) (by omega)
    rw [List.drop_zero] at hix
    cases hq : idxB name x.f4 with
    | none =>
     rw [hq] at hix
     simp only at hix
     have HE := Aside0.mk (show res = (zV, false) by rw [HR.out, if_pos ⟨H6.out, HS.out⟩, hq])
     clear hq
     go_wp2_with fail
     refine (PC.slices_Index_string_string.calls (x.f4.length + 1) A4 c4 x.f4 name _ w3 (Kd.C_below HG.out.2 HB3.out) l4 hix).mono ?_
     rintro e w4 ⟨rfl, hd4⟩
     obtain ⟨nq, rfl⟩ := hd4.out
     clear hd4 hix x3 x4
     go_wp2
     refine bodyPost_ret (v := .tuple #[.agg #[.int .i64 0, .int .i64 0, .string ⟨#[]⟩, .slice none 0 0, .slice none 0 0], .bool false]) (res_Get _ _ (w.heap.size + 1) _ _ _ _ _ _ rfl rfl (blk_set5 (w := w3.drewN nq) HZ3.out (.int .i64 0) (.int .i64 0) (.string ⟨#[]⟩) (.slice none 0 0) (.slice none 0 0))) rfl ?_
     rw [HE.out]
     exact ⟨below5 (w' := w3.drewN nq) ⟨HB3.out.os, HB3.out.tape, HB3.out.output, HB3.out.size, HB3.out.block⟩ (by omega) _ _ _ _ _, _, _, rfl, Kd.R_nil _ _ _ _ _, Kd.R_nil _ _ _ _ _⟩
    | some i =>
     rw [hq] at hix
     simp only [Nat.zero_add] at hix
     have hgi := idxB_get name x.f4 i hq
     have hi4 := (List.getElem?_eq_some_iff.1 hgi).1
     have hb := sound_bare HS.out
     have hl34 : x.f4.length = x.f3.length := by
      unfold bareV bareR at hb
      rw [if_neg (by rw [H6.out]; decide), if_neg (by rw [H6.out]; decide), if_neg (by rw [H6.out]; decide), if_neg (by rw [H6.out]; decide), if_neg (by rw [H6.out]; decide), if_pos H6.out] at hb
      simp at hb
      exact hb.2
     have hlt' : i < x.f3.length := by omega
     have HE := Aside0.mk (show res = (x.f3[i], true) by
      rw [HR.out, if_pos ⟨H6.out, HS.out⟩, hq]
      simp [List.getD, List.getElem?_eq_getElem hlt'])
     have hlt : ((i : Nat) : Int) < (x.f3.length : Int) := by omega
     have hge : ((i : Nat) : Int) ≥ 0 := by omega
     obtain ⟨ad, D3, d3, D4, d4, e, r0, r1, r2, r3, r4, m3, q3, m4, q4⟩ := at_T51 HG.out.1 i (by omega) hlt
     cases e
     have hrd : rd_T51 x.f3 i = x.f3[i] := by simp [rd_T51, List.getD, List.getElem?_eq_getElem hlt']
     rw [hrd] at r0 r1 r2 r3 r4 m3 q3 m4 q4
     rw [Int.toNat_natCast] at r0 r1 r2 r3 r4
     have HQ := Aside0.mk (And.intro m3 (And.intro q3 (And.intro m4 q4)))
     have HSI := Aside0.mk (show soundR 7 x.f3[i] = true from sound_rows (d := 7) HS.out _ (List.getElem_mem _))
     have HFI := Aside0.mk (show fitsR 7 x.f3[i] from HFX.out.2.2 _ (List.getElem_mem _))
     clear hq hgi hb hl34 hrd m3 q3 m4 q4
     generalize x.f3[i] = y at *
     have HIX := Aside0.mk hix
     clear hix
     go_wp2_with fail
     refine (PC.slices_Index_string_string.calls (x.f4.length + 1) A4 c4 x.f4 name _ w3 (Kd.C_below HG.out.2 HB3.out) l4 HIX.out).mono ?_
     rintro e w4 ⟨rfl, hd4⟩
     obtain ⟨nq, rfl⟩ := hd4.out
     have hbd : Below w.heap.size w (w3.drewN nq) := ⟨HB3.out.os, HB3.out.tape, HB3.out.output, HB3.out.size, HB3.out.block⟩
     have hv4 : (w3.drewN nq).heap[w.heap.size]? = _ := HV3.out
     have hz4 : (w3.drewN nq).heap[w.heap.size + 1]? = _ := HZ3.out
     have hs4 : w.heap.size + 2 ≤ (w3.drewN nq).heap.size := by show w.heap.size + 2 ≤ w3.heap.size; omega
     clear hd4 x3 x4 z0 z1 z2 z3 z4 zf
     generalize w3.drewN nq = W4 at *
     have x3 : W4.cell? ⟨w.heap.size, 3, none⟩ = some (.slice (some ad) x.f3.length c3) := blk_cell hv4 3
     replace r0 := cell_below' hbd r0
     replace r1 := cell_below' hbd r1
     replace r2 := cell_below' hbd r2
     replace r3 := cell_below' hbd r3
     replace r4 := cell_below' hbd r4
     have H := Aside0.mk (copied_calls 7 y D3 d3 D4 d4 W4 HSI.out HFI.out HQ.out.1 (Kd.C_below HQ.out.2.1 hbd) HQ.out.2.2.1 (Kd.C_below HQ.out.2.2.2 hbd))
     unfold vArg at H
     have HZ4 := Aside0.mk hz4
     have HBD := Aside0.mk hbd
     clear hv4 hz4 hbd
     go_wp2_with fail
     refine H.out.mono ?_
     rintro e w5 ⟨b5, v3, v4, rfl, h3, h4⟩
     have hz5 := (b5.block _ (blk_lt HZ4.out)).trans HZ4.out
     have z0 : w5.cell? ⟨w.heap.size + 1, 0, none⟩ = some (.int .i64 0) := blk_cell hz5 0
     have z1 : w5.cell? ⟨w.heap.size + 1, 1, none⟩ = some (.int .i64 0) := blk_cell hz5 1
     have z2 : w5.cell? ⟨w.heap.size + 1, 2, none⟩ = some (.string ⟨#[]⟩) := blk_cell hz5 2
     have z3 : w5.cell? ⟨w.heap.size + 1, 3, none⟩ = some (.slice none 0 0) := blk_cell hz5 3
     have z4 : w5.cell? ⟨w.heap.size + 1, 4, none⟩ = some (.slice none 0 0) := blk_cell hz5 4
     have zf : ∀ j, w5.frozen? ⟨w.heap.size + 1, j, none⟩ = false := blk_frozen hz5
     have HZ5 := Aside0.mk hz5
     have HB5 := Aside0.mk (HBD.out.trans (b5.mono (by omega)))
     have H3 := Aside0.mk h3
     have H4 := Aside0.mk h4
     obtain ⟨G3, g3', rfl⟩ := Kd.R_slice h3
     obtain ⟨G4, g4', rfl⟩ := Kd.R_slice h4
     clear hz5 b5 h3 h4 H x3 r0 r1 r2 r3 r4
     go_wp2
     refine bodyPost_ret (v := .tuple #[.agg #[.int .i64 y.f0, .int .i64 y.f1, .string y.f2, .slice G3 y.f3.length g3', .slice G4 y.f4.length g4'], .bool true]) (res_Get _ _ (w.heap.size + 1) _ _ _ _ _ _ rfl rfl (blk_set5 HZ5.out _ _ _ _ _)) rfl ?_
     rw [HE.out]
     have hfar : ∀ k, W4.heap.size ≤ k → (((((w5.setCell ⟨w.heap.size + 1, 0, none⟩ (.int .i64 y.f0)).setCell ⟨w.heap.size + 1, 1, none⟩ (.int .i64 y.f1)).setCell ⟨w.heap.size + 1, 2, none⟩ (.string y.f2)).setCell ⟨w.heap.size + 1, 3, none⟩ (.slice G3 y.f3.length g3')).setCell ⟨w.heap.size + 1, 4, none⟩ (.slice G4 y.f4.length g4')).heap[k]? = w5.heap[k]? := fun k hk => far5' (by omega) _ _ _ _ _
     exact ⟨below5 HB5.out (by omega) _ _ _ _ _, _, _, rfl, Kd.R_mono (Kd.R_lower (Kd.R_step (Kd.R_bound H3.out) (fun k hk _ => hfar k hk.2.1)) (by omega)) (fun _ _ => trivial), Kd.R_mono (Kd.R_lower (Kd.R_step (Kd.R_bound H4.out) (fun k hk _ => hfar k hk.2.1)) (by omega)) (fun _ _ => trivial)⟩
 · have hn6 : (x.f0 != 6) = true := by simp [h6]
   have HE := Aside0.mk (show res = (zV, false) by rw [HR.out, if_neg (fun h => h6 h.1)])
   clear h6
   go_enter Tryz.func55, Tryz.ntmps55
   go_wp2
   refine bodyPost_ret (v := .tuple #[.agg #[.int .i64 0, .int .i64 0, .string ⟨#[]⟩, .slice none 0 0, .slice none 0 0], .bool false]) (res_Get _ _ (w.heap.size + 1) _ _ _ _ _ _ rfl rfl NZ.out) rfl ?_
   rw [HE.out]
   exact ⟨HB0.out, _, _, rfl, Kd.R_nil _ _ _ _ _, Kd.R_nil _ _ _ _ _⟩
end Go.Proofs.YtamcicojockhpaaGreatDoor.Tr
end
section
set_option linter.unusedVariables false
set_option linter.unusedSimpArgs false
namespace Go.Proofs.YtamcicojockhpaaGreatDoor.Wi
open Go.RowKit Go.Proofs.YtamcicojockhpaaGreatDoorW.PrintWords Go.Proofs.YtamcicojockhpaaGreatDoorW.PrintLast Go.Proofs.YtamcicojockhpaaGreatDoorW.PrintMore
open Go.Proofs.YtamcicojockhpaaGreatDoor.Lx Go.Proofs.YtamcicojockhpaaGreatDoor.PS Go.Proofs.YtamcicojockhpaaGreatDoor.Tr
def numV (n : Int) : V := ⟨3, n, ⟨#[]⟩, [], []⟩
def txtV (s : ByteArray) : V := ⟨4, 0, s, [], []⟩
def arrV (l : List V) : V := ⟨5, 0, ⟨#[]⟩, l, []⟩
theorem res_number (tmps : Array Value) (w : World) (b : Nat) (v0 v1 v2 v3 v4 : Value) (h4 : tmps.getD 2 undef = .pointer (some ⟨b, 0, none⟩)) (hb : w.heap[b]? = some (.cells #[v0, v1, v2, v3, v4] 51 (0, 0))) :
 (results Tryz.f28 tmps).run Tryz.prog w = .ok (.agg #[v0, v1, v2, v3, v4]) w := by
 have c0 := blk_cell hb 0
 have c1 := blk_cell hb 1
 have c2 := blk_cell hb 2
 have c3 := blk_cell hb 3
 have c4 := blk_cell hb 4
 rw [Array.getD_eq_getD_getElem?] at h4
 simp at c0 c1 c2 c3 c4
 simp [results, Tryz.results28, go_sem, h4, c0, c1, c2, c3, c4]
theorem res_text (tmps : Array Value) (w : World) (b : Nat) (v0 v1 v2 v3 v4 : Value) (h4 : tmps.getD 2 undef = .pointer (some ⟨b, 0, none⟩)) (hb : w.heap[b]? = some (.cells #[v0, v1, v2, v3, v4] 51 (0, 0))) :
 (results Tryz.f27 tmps).run Tryz.prog w = .ok (.agg #[v0, v1, v2, v3, v4]) w := by
 have c0 := blk_cell hb 0
 have c1 := blk_cell hb 1
 have c2 := blk_cell hb 2
 have c3 := blk_cell hb 3
 have c4 := blk_cell hb 4
 rw [Array.getD_eq_getD_getElem?] at h4
 simp at c0 c1 c2 c3 c4
 simp [results, Tryz.results27, go_sem, h4, c0, c1, c2, c3, c4]
theorem res_array (tmps : Array Value) (w : World) (b : Nat) (v0 v1 v2 v3 v4 : Value) (h4 : tmps.getD 2 undef = .pointer (some ⟨b, 0, none⟩)) (hb : w.heap[b]? = some (.cells #[v0, v1, v2, v3, v4] 51 (0, 0))) :
 (results Tryz.f26 tmps).run Tryz.prog w = .ok (.agg #[v0, v1, v2, v3, v4]) w := by
 have c0 := blk_cell hb 0
 have c1 := blk_cell hb 1
 have c2 := blk_cell hb 2
 have c3 := blk_cell hb 3
 have c4 := blk_cell hb 4
 rw [Array.getD_eq_getD_getElem?] at h4
 simp at c0 c1 c2 c3 c4
 simp [results, Tryz.results26, go_sem, h4, c0, c1, c2, c3, c4]
theorem res_got (tmps : Array Value) (w : World) (b : Nat) (v0 v1 v2 v3 v4 : Value) (h4 : tmps.getD 2 undef = .pointer (some ⟨b, 0, none⟩)) (hb : w.heap[b]? = some (.cells #[v0, v1, v2, v3, v4] 51 (0, 0))) :
 (results Tryz.f29 tmps).run Tryz.prog w = .ok (.agg #[v0, v1, v2, v3, v4]) w := by
 have c0 := blk_cell hb 0
 have c1 := blk_cell hb 1
 have c2 := blk_cell hb 2
 have c3 := blk_cell hb 3
 have c4 := blk_cell hb 4
 rw [Array.getD_eq_getD_getElem?] at h4
 simp at c0 c1 c2 c3 c4
 simp [results, Tryz.results29, go_sem, h4, c0, c1, c2, c3, c4]
set_option maxRecDepth 100000 in
set_option maxHeartbeats 1000000 in
theorem number_calls (n : Int) (w : World) : Calls Tryz.prog 28 #[.int .i64 n] w fun e w' => e = .returned (.agg #[.int .i64 3, .int .i64 n, .string ⟨#[]⟩, .slice none 0 0, .slice none 0 0]) ∧ Below w.heap.size w w' := by
 go_enter Tryz.func28, Tryz.ntmps28
 go_wp2
 exact bodyPost_ret (res_number _ _ w.heap.size _ _ _ _ _ rfl (blk_new w _)) rfl ⟨rfl, (Below.refl _ _).alloc (Nat.le_refl _) _⟩
set_option maxRecDepth 100000 in
set_option maxHeartbeats 1000000 in
theorem text_calls (s : ByteArray) (w : World) : Calls Tryz.prog 27 #[.string s] w fun e w' => e = .returned (.agg #[.int .i64 4, .int .i64 0, .string s, .slice none 0 0, .slice none 0 0]) ∧ Below w.heap.size w w' := by
 go_enter Tryz.func27, Tryz.ntmps27
 go_wp2
 exact bodyPost_ret (res_text _ _ w.heap.size _ _ _ _ _ rfl (blk_new w _)) rfl ⟨rfl, (Below.refl _ _).alloc (Nat.le_refl _) _⟩
set_option maxRecDepth 100000 in
set_option maxHeartbeats 1000000 in
theorem array_calls (A : Option Addr) (n c : Nat) (w : World) : Calls Tryz.prog 26 #[.slice A n c] w fun e w' => e = .returned (.agg #[.int .i64 5, .int .i64 0, .string ⟨#[]⟩, .slice A n c, .slice none 0 0]) ∧ Below w.heap.size w w' := by
 go_enter Tryz.func26, Tryz.ntmps26
 go_wp2
 exact bodyPost_ret (res_array _ _ w.heap.size _ _ _ _ _ rfl (blk_new w _)) rfl ⟨rfl, (Below.refl _ _).alloc (Nat.le_refl _) _⟩
def kindT (k : Int) : ByteArray := if k = 0 then ⟨#[105, 110, 118, 111, 107, 101]⟩ else if k = 1 then ⟨#[111, 107]⟩ else if k = 2 then ⟨#[102, 97, 105, 108]⟩ else ⟨#[105, 110, 102, 111]⟩
theorem idx0 (w : World) : (Instr.index 109 (.agg #[.string ⟨#[105, 110, 118, 111, 107, 101]⟩, .string ⟨#[111, 107]⟩, .string ⟨#[102, 97, 105, 108]⟩, .string ⟨#[105, 110, 102, 111]⟩]) (.int .i64 0)).run Tryz.prog w = .ok (.string ⟨#[105, 110, 118, 111, 107, 101]⟩) w := by kernel_rfl
theorem idx1 (w : World) : (Instr.index 109 (.agg #[.string ⟨#[105, 110, 118, 111, 107, 101]⟩, .string ⟨#[111, 107]⟩, .string ⟨#[102, 97, 105, 108]⟩, .string ⟨#[105, 110, 102, 111]⟩]) (.int .i64 1)).run Tryz.prog w = .ok (.string ⟨#[111, 107]⟩) w := by kernel_rfl
theorem idx2 (w : World) : (Instr.index 109 (.agg #[.string ⟨#[105, 110, 118, 111, 107, 101]⟩, .string ⟨#[111, 107]⟩, .string ⟨#[102, 97, 105, 108]⟩, .string ⟨#[105, 110, 102, 111]⟩]) (.int .i64 2)).run Tryz.prog w = .ok (.string ⟨#[102, 97, 105, 108]⟩) w := by kernel_rfl
theorem idx3 (w : World) : (Instr.index 109 (.agg #[.string ⟨#[105, 110, 118, 111, 107, 101]⟩, .string ⟨#[111, 107]⟩, .string ⟨#[102, 97, 105, 108]⟩, .string ⟨#[105, 110, 102, 111]⟩]) (.int .i64 3)).run Tryz.prog w = .ok (.string ⟨#[105, 110, 102, 111]⟩) w := by kernel_rfl
set_option maxRecDepth 100000 in
set_option maxHeartbeats 1000000 in
theorem kind_calls (k : Int) (h0 : 0 ≤ k) (h3 : k ≤ 3) (w : World) : Calls Tryz.prog 31 #[.int .i64 k] w fun e w' => e = .returned (.string (kindT k)) ∧ Below w.heap.size w w' := by
 have hc : k = 0 ∨ k = 1 ∨ k = 2 ∨ k = 3 := by omega
 have i0 := idx0
 have i1 := idx1
 have i2 := idx2
 have i3 := idx3
 rcases hc with rfl | rfl | rfl | rfl
 all_goals
  clear h0 h3
  go_enter Tryz.func31, Tryz.ntmps31
  go_wp2
  go_ret
  exact ⟨rfl, Below.refl _ _⟩
theorem zst {w : World} {b : Nat} {t : TypeId} {z0 z1 z2 z3 z4 : Value} (h : w.heap[b]? = some (.cells #[z0, z1, z2, z3, z4] t (0, 0))) (a0 a1 a2 a3 a4 : Value) : (put5 w b 0 a0 a1 a2 a3 a4).heap[b]? = some (.cells #[a0, a1, a2, a3, a4] t (0, 0)) := put5_blk h a0 a1 a2 a3 a4
def gotV (c : Cl) : V := if c.f0 = 6 ∨ c.f0 = 7 then arrV (c.f4.map numV) else if c.f4.length = 0 then nulV else numV (c.f4.headD 0)
theorem infoVal3 : (Tryz.prog.info? 51).map (fun i => (i.zero, i.size, i.bytes)) = some (some (.agg #[.int .i64 0, .int .i64 0, .string ⟨#[]⟩, .slice none 0 0, .slice none 0 0]), 5, 80) := by kernel_rfl
def GotQ (x : V) (w : World) (e : Ending) (w' : World) : Prop := Below w.heap.size w w' ∧ ∃ v3, e = .returned (.agg #[.int .i64 x.f0, .int .i64 x.f1, .string x.f2, v3, .slice none 0 0]) ∧ k51.R 51 w' w.heap.size (fun _ => True) v3 x.f3
set_option maxRecDepth 100000 in
set_option maxHeartbeats 2000000 in
theorem got_calls (c : Cl) (A4 : Option Addr) (c4 : Nat) (w : World) (hl : c.f4.length ≤ 1000000000000) (l4 : c.f4.length ≤ c4) (g4 : (Kd.int .i64).C w A4 c.f4.length c.f4) :
 Calls Tryz.prog 29 #[cArg c A4 c4] w (GotQ (gotV c) w) := by
 have HG := Aside0.mk g4
 have nv := blkA (blk_new w (.cells #[.int .i64 c.f0, .string c.f1, .int .i64 c.f2, .bool c.f3, .slice A4 c.f4.length c4] 43 (0, 0))) (.cells zCs.toArray 51 (0, 0))
 have nz := blk_new (w.alloc (.cells #[.int .i64 c.f0, .string c.f1, .int .i64 c.f2, .bool c.f3, .slice A4 c.f4.length c4] 43 (0, 0))) (.cells zCs.toArray 51 (0, 0))
 rw [show (w.alloc (.cells #[.int .i64 c.f0, .string c.f1, .int .i64 c.f2, .bool c.f3, .slice A4 c.f4.length c4] 43 (0, 0))).heap.size = w.heap.size + 1 by simp] at nz
 have hb0 : Below w.heap.size w ((w.alloc (.cells #[.int .i64 c.f0, .string c.f1, .int .i64 c.f2, .bool c.f3, .slice A4 c.f4.length c4] 43 (0, 0))).alloc (.cells zCs.toArray 51 (0, 0))) := ((Below.refl _ _).alloc (Nat.le_refl _) _).alloc (by simp) _
 have hs2 : w.heap.size + 2 ≤ ((w.alloc (.cells #[.int .i64 c.f0, .string c.f1, .int .i64 c.f2, .bool c.f3, .slice A4 c.f4.length c4] 43 (0, 0))).alloc (.cells zCs.toArray 51 (0, 0))).heap.size := by simp
 unfold zCs at *
 have HR := Aside0.mk (show gotV c = if c.f0 = 6 ∨ c.f0 = 7 then arrV (c.f4.map numV) else if c.f4.length = 0 then nulV else numV (c.f4.headD 0) from rfl)
 generalize gotV c = res at *
 unfold cArg
 have NZ := Aside0.mk nz
 have HB0 := Aside0.mk hb0
 clear g4 nz hb0
 have hk48 : Tryz.prog.underlying 48 = some (.slice 51) := Tryz.underlying48
 by_cases h67 : c.f0 = 6 ∨ c.f0 = 7
 · have HE := Aside0.mk (show res = arrV (c.f4.map numV) by rw [HR.out, if_pos h67])
   clear HR
   have HL := Aside0.mk hl
   clear hl
   obtain ⟨b6, b7, e6, e7, eb⟩ : ∃ b6 b7, (c.f0 == 6) = b6 ∧ (c.f0 == 7) = b7 ∧ (b6 = true ∨ (b6 = false ∧ b7 = true)) := by
    refine ⟨_, _, rfl, rfl, ?_⟩
    rcases h67 with h | h
    · exact .inl (by simp [h])
    · exact .inr (by simp [h])
   clear h67
   rcases eb with rfl | ⟨rfl, rfl⟩
   all_goals
    go_enter Tryz.func29, Tryz.ntmps29
    go_wp2
    generalize (w.alloc (.cells #[.int .i64 c.f0, .string c.f1, .int .i64 c.f2, .bool c.f3, .slice A4 c.f4.length c4] 43 (0, 0))).alloc (.cells [.int .i64 0, .int .i64 0, .string ⟨#[]⟩, .slice none 0 0, .slice none 0 0].toArray 51 (0, 0)) = W2 at *
    go_loopg [3, 5, 17] c.f4.length (fun kq v3 v5 v17 w2 => ∃ k : Nat, k + kq = c.f4.length ∧ v17 = .int .i64 k ∧ W2.heap.size ≤ w2.heap.size ∧ Aside0 (Below W2.heap.size W2 w2) ∧ Aside0 (k51.R 51 w2 W2.heap.size (fun _ => True) v3 ((c.f4.take k).map numV)))
    case atStart => exact ⟨0, by omega, rfl, Nat.le_refl _, Aside0.mk (Below.refl _ _), Aside0.mk (Kd.R_nil _ _ _ _ _)⟩
    case round =>
     obtain ⟨k, hk, rfl, hsr, HBW, HRW⟩ := hrel
     have HWW := Aside0.mk (HB0.out.trans (HBW.out.mono HB0.out.size))
     cases gk with
     | zero =>
      have hge : ¬ ((k : Nat) : Int) < (c.f4.length : Int) := by omega
      have HT := Aside0.mk (show c.f4.take k = c.f4 from List.take_of_length_le (by omega))
      rw [HT.out] at HRW
      clear HT
      obtain ⟨B3, d3, rfl⟩ := Kd.R_slice HRW.out
      rw [List.length_map] at HRW
      go_wp2_with fail
      refine (array_calls _ _ _ wr).mono ?_
      rintro e w3 ⟨rfl, hb3⟩
      have hzr := (hb3.block _ (Nat.lt_of_lt_of_le (blk_lt NZ.out) hsr)).trans ((HBW.out.block _ (blk_lt NZ.out)).trans NZ.out)
      have y0 : w3.cell? ⟨w.heap.size + 1, 0, none⟩ = some (.int .i64 0) := blk_cell hzr 0
      have y1 : w3.cell? ⟨w.heap.size + 1, 1, none⟩ = some (.int .i64 0) := blk_cell hzr 1
      have y2 : w3.cell? ⟨w.heap.size + 1, 2, none⟩ = some (.string ⟨#[]⟩) := blk_cell hzr 2
      have y3 : w3.cell? ⟨w.heap.size + 1, 3, none⟩ = some (.slice none 0 0) := blk_cell hzr 3
      have y4 : w3.cell? ⟨w.heap.size + 1, 4, none⟩ = some (.slice none 0 0) := blk_cell hzr 4
      have yf : ∀ j, w3.frozen? ⟨w.heap.size + 1, j, none⟩ = false := blk_frozen hzr
      have HZR := Aside0.mk hzr
      have HB3 := Aside0.mk hb3
      clear hzr hb3
      go_wp2
      refine bodyPost_ret (res_got _ _ (w.heap.size + 1) _ _ _ _ _ rfl (zst HZR.out _ _ _ _ _)) rfl ?_
      have hbf : Below w.heap.size w (put5 w3 (w.heap.size + 1) 0 (.int .i64 5) (.int .i64 0) (.string ⟨#[]⟩) (.slice B3 c.f4.length d3) (.slice none 0 0)) := (HWW.out.trans (HB3.out.mono HWW.out.size)).trans (put5_below (by omega) _ _ _ _ _)
      rw [HE.out]
      refine ⟨hbf, _, rfl, ?_⟩
      refine Kd.R_lower (Kd.R_mono (Kd.R_step (Kd.R_bound (Kd.R_below HRW.out HB3.out)) fun k hk _ => put5_far (by have := hk.2.1; omega) _ _ _ _ _) (fun _ _ => trivial)) (by omega)
     | succ k1 =>
      have hlt : ((k : Nat) : Int) < (c.f4.length : Int) := by omega
      have hlt' : k < c.f4.length := by omega
      have hl9 := HL.out
      obtain ⟨ad, e, r0⟩ := Kd.at_int (Kd.C_below HG.out HWW.out) (k : Int) (by omega) (by omega)
      cases e
      have hrd : rd c.f4 (k : Int) = c.f4[k] := by simp [rd, List.getD, List.getElem?_eq_getElem hlt']
      rw [hrd, Int.toNat_natCast] at r0
      have HSN := Aside0.mk (show (c.f4.take k).map numV ++ [numV c.f4[k]] = (c.f4.take (k + 1)).map numV by
       rw [List.take_add_one, List.map_append, List.getElem?_eq_getElem hlt']
       rfl)
      clear hrd
      generalize c.f4[k] = x at *
      go_wp2_with fail
      refine (number_calls x wr).mono ?_
      rintro e w3 ⟨rfl, hb3⟩
      have HB3 := Aside0.mk hb3
      clear hb3
      go_wp2_with (first | (with_reducible refine gate_builtin (b := .append) (xs := #[.tmp 21, .tmp 24]) rfl ?_); at_builtin; refine Kd.R_append k51 (w0 := W2) W2.heap.size rfl (.tmp 21) (.tmp 24) 48 51 (.agg #[.int .i64 0, .int .i64 0, .string ⟨#[]⟩, .slice none 0 0, .slice none 0 0]) 80 rfl Tryz.underlying48 infoVal3 rfl (by decide) (by omega) u3 ((c.f4.take k).map numV) (numV x) [.int .i64 3, .int .i64 x, .string ⟨#[]⟩, .slice none 0 0, .slice none 0 0] (fun _ => True) (fun _ => False) rfl (by first | (go_simp; done) | (go_simp; rfl)) ?aP (fun _ hk => hk.elim) (fun _ _ => trivial) ?aO ?aB ?aS ?aL ?_; (case aP => exact k51_mkM _ _ _ (numV x) (Kd.R_nil _ _ _ _ _) (Kd.R_nil _ _ _ _ _)); (case aO => exact Kd.R_below HRW.out HB3.out); (case aB => exact HBW.out.trans (HB3.out.mono HBW.out.size)); (case aS => exact Nat.le_trans HBW.out.size HB3.out.size); (case aL => rw [List.length_map, List.length_take]; have := HL.out; omega); intro v1 w1 ho hb1 hg hat; rw [HSN.out] at ho; have HO1 := Aside0.mk ho; have HB1 := Aside0.mk hb1; clear ho hb1 hg hat)
      go_roundg k1
      case measure => omega
      case rel => exact ⟨k + 1, by omega, by go_num, HB1.out.size, HB1, HO1⟩
 · have q6 : (c.f0 == 6) = false := by simp; omega
   have q7 : (c.f0 == 7) = false := by simp; omega
   by_cases he : c.f4.length = 0
   · have HE := Aside0.mk (show res = nulV by rw [HR.out, if_neg h67, if_pos he])
     have qe : ((c.f4.length : Int) == 0) = true := by simp [he]
     have y0 := blk_cell NZ.out 0
     have y1 := blk_cell NZ.out 1
     have y2 := blk_cell NZ.out 2
     have y3 := blk_cell NZ.out 3
     have y4 := blk_cell NZ.out 4
     have yf := blk_frozen NZ.out
     clear HR h67 he
     go_enter Tryz.func29, Tryz.ntmps29
     go_wp2
     have nz1 := blk_new (w.alloc (.cells #[.int .i64 c.f0, .string c.f1, .int .i64 c.f2, .bool c.f3, .slice A4 c.f4.length c4] 43 (0, 0))) (.cells #[.int .i64 1, .int .i64 0, .string ⟨#[]⟩, .slice none 0 0, .slice none 0 0] 51 (0, 0))
     rw [show (w.alloc (.cells #[.int .i64 c.f0, .string c.f1, .int .i64 c.f2, .bool c.f3, .slice A4 c.f4.length c4] 43 (0, 0))).heap.size = w.heap.size + 1 by simp] at nz1
     refine bodyPost_ret (res_got _ _ (w.heap.size + 1) _ _ _ _ _ rfl nz1) rfl ?_
     rw [HE.out]
     exact ⟨((Below.refl _ _).alloc (Nat.le_refl _) _).alloc (by simp) _, _, rfl, Kd.R_nil _ _ _ _ _⟩
   · have h0 : (0 : Int) < (c.f4.length : Int) := by omega
     have qe : ((c.f4.length : Int) == 0) = false := by simp; intro h; exact he (by simp [h])
     obtain ⟨ad, e, r0⟩ := Kd.at_int (Kd.C_below HG.out HB0.out) (0 : Int) (by omega) (by omega)
     cases e
     have hrd : rd c.f4 (0 : Int) = c.f4.headD 0 := by
      cases hc4 : c.f4 with
      | nil => simp [hc4] at he
      | cons a b => simp [rd]
     rw [hrd] at r0
     rw [show ad.add (0 : Int).toNat = ad by show ad.add 0 = ad; unfold Addr.add; split <;> simp_all] at r0
     have HE := Aside0.mk (show res = numV (c.f4.headD 0) by rw [HR.out, if_neg h67, if_neg he])
     clear HR h67 he hrd
     generalize c.f4.headD 0 = x at *
     go_enter Tryz.func29, Tryz.ntmps29
     go_wp2_with fail
     generalize (w.alloc (.cells #[.int .i64 c.f0, .string c.f1, .int .i64 c.f2, .bool c.f3, .slice (some ad) c.f4.length c4] 43 (0, 0))).alloc (.cells [.int .i64 0, .int .i64 0, .string ⟨#[]⟩, .slice none 0 0, .slice none 0 0].toArray 51 (0, 0)) = W2 at *
     refine (number_calls x W2).mono ?_
     rintro e w3 ⟨rfl, hb3⟩
     have hzr := (hb3.block _ (blk_lt NZ.out)).trans NZ.out
     have y0 : w3.cell? ⟨w.heap.size + 1, 0, none⟩ = some (.int .i64 0) := blk_cell hzr 0
     have y1 : w3.cell? ⟨w.heap.size + 1, 1, none⟩ = some (.int .i64 0) := blk_cell hzr 1
     have y2 : w3.cell? ⟨w.heap.size + 1, 2, none⟩ = some (.string ⟨#[]⟩) := blk_cell hzr 2
     have y3 : w3.cell? ⟨w.heap.size + 1, 3, none⟩ = some (.slice none 0 0) := blk_cell hzr 3
     have y4 : w3.cell? ⟨w.heap.size + 1, 4, none⟩ = some (.slice none 0 0) := blk_cell hzr 4
     have yf : ∀ j, w3.frozen? ⟨w.heap.size + 1, j, none⟩ = false := blk_frozen hzr
     have HZR := Aside0.mk hzr
     have HB3 := Aside0.mk hb3
     clear hzr hb3
     go_wp2
     refine bodyPost_ret (res_got _ _ (w.heap.size + 1) _ _ _ _ _ rfl (zst HZR.out _ _ _ _ _)) rfl ?_
     rw [HE.out]
     exact ⟨(HB0.out.trans (HB3.out.mono HB0.out.size)).trans (put5_below (by omega) _ _ _ _ _), _, rfl, Kd.R_nil _ _ _ _ _⟩
end Go.Proofs.YtamcicojockhpaaGreatDoor.Wi
end
section
set_option linter.unusedVariables false
set_option linter.unusedSimpArgs false
namespace Go.Proofs.YtamcicojockhpaaGreatDoor.Tr
open Go.RowKit Go.Proofs.YtamcicojockhpaaGreatDoor.Lx Go.Proofs.YtamcicojockhpaaGreatDoor.PS
def szD : Nat → V → Nat
 | 0, x => 1 + x.f2.size + x.f3.length + (x.f4.map fun n => n.size + 1).sum
 | d + 1, x => 1 + x.f2.size + (x.f3.map (szD d)).sum + (x.f4.map fun n => n.size + 1).sum
theorem quoteR_len' (t : List UInt8) : (quoteR t).length ≤ 2 + 6 * t.length := by
 have := quote_len t
 unfold quoteR
 simp only [List.length_cons, List.length_append, List.length_nil]
 omega
theorem leafW_len (x : V) (hn : -9223372036854775808 ≤ x.f1 ∧ x.f1 ≤ 9223372036854775807) : (leafW x).length ≤ 30 + 6 * x.f2.size := by
 have hsz : x.f2.data.toList.length = x.f2.size := by rw [Array.length_toList]; rfl
 unfold leafW
 split
 · rw [show wNul.length = 4 from rfl]; omega
 · split
   · cases (x.f1 == 1)
     · rw [fb_false, show wFalse.length = 5 from rfl]; omega
     · rw [fb_true, show wTru.length = 4 from rfl]; omega
   · split
     · have := Lib.itoa_length_le x.f1 hn.1 hn.2
       omega
     · split
       · have := quoteR_len' x.f2.data.toList
         omega
       · simp
theorem elemsW_bound (f : V → List UInt8) (m : Bool) (z : V → Nat) : ∀ (ys : List V) (i : Nat) (ns : List ByteArray), (∀ y ∈ ys, (f y).length + 4 ≤ 40 * z y) → (elemsW f m i ys ns).length ≤ 40 * (ys.map z).sum + 40 * (ns.map fun n => n.size + 1).sum
 | [], _, _, _ => by simp [elemsW]
 | y :: ys, i, ns, h => by
  have h1 := h y (by simp)
  have h2 := elemsW_bound f m z ys (i + 1) ns.tail (fun x hx => h x (by simp [hx]))
  have h3 : (if i = 0 then ([] : List UInt8) else [44]).length ≤ 1 := by split <;> simp
  have h4 : (if m = true then quoteR (ns.headD ByteArray.empty).data.toList ++ [58] else []).length + 40 * (ns.tail.map fun n => n.size + 1).sum ≤ 3 + 40 * (ns.map fun n => n.size + 1).sum := by
   cases ns with
   | nil =>
    cases m with
    | false => simp
    | true => simp [quoteR]
   | cons n ns =>
    cases m with
    | false => simp; omega
    | true =>
     have hq := quoteR_len' n.data.toList
     have hsz : n.data.toList.length = n.size := by rw [Array.length_toList]; rfl
     simp only [List.headD_cons, List.tail_cons, List.map_cons, List.sum_cons, if_pos, List.length_append, List.length_cons, List.length_nil]
     omega
  simp only [elemsW, List.length_append, List.map_cons, List.sum_cons] at h4 ⊢
  omega
theorem writeD_bound : ∀ (d : Nat) (x : V), numsR d x → (writeD d x).length + 4 ≤ 40 * szD d x
 | 0, x, hn => by
  have := leafW_len x hn
  simp only [writeD, szD]
  omega
 | d + 1, x, hn => by
  have h1 := leafW_len x hn.1
  have h2 := fun m => elemsW_bound (writeD d) m (szD d) x.f3 0 x.f4 (fun y hy => writeD_bound d y (hn.2 y hy))
  have h3 := h2 true
  have h4 := h2 false
  simp only [writeD, szD]
  split
  · simp only [List.length_append, List.length_cons, List.length_nil]
    omega
  · split
    · simp only [List.length_append, List.length_cons, List.length_nil]
      omega
    · omega
end Go.Proofs.YtamcicojockhpaaGreatDoor.Tr
end
section
set_option linter.unusedVariables false
set_option linter.unusedSimpArgs false
namespace Go.Proofs.YtamcicojockhpaaGreatDoor.Wi
open Go.RowKit
open Go.Proofs.YtamcicojockhpaaGreatDoor.Lx Go.Proofs.YtamcicojockhpaaGreatDoor.PS Go.Proofs.YtamcicojockhpaaGreatDoor.Tr
def lettersB : ByteArray := ⟨#[119, 97, 43, 105, 114, 108, 115, 99]⟩
def letC (k : Int) : ByteArray := lettersB.extract (k - 1).toNat k.toNat
def tailV (c : Cl) : List V := if c.f0 ≤ 4 then [numV c.f2] else if c.f3 = true then [gotV c] else []
def callV (c : Cl) : V := arrV ([txtV (letC c.f0), txtV c.f1] ++ tailV c)
def namesE : List ByteArray := [⟨#[112]⟩, ⟨#[116]⟩, ⟨#[102]⟩]
def eventV (e : Ev) : V := ⟨6, 0, ⟨#[]⟩, [numV e.f0, txtV (kindT e.f1), arrV (e.f2.map callV)], namesE⟩
def lineB (e : Ev) : List UInt8 := writeD 8 (eventV e) ++ [10]
def printE (l : List Ev) : List UInt8 × Int := if checkR l = 0 then ((l.map lineB).flatten, 0) else ([], 1)
def numOk (n : Int) : Prop := -9223372036854775808 ≤ n ∧ n ≤ 9223372036854775807
def numsE (e : Ev) : Prop := numOk e.f0 ∧ ∀ c ∈ e.f2, numOk c.f2 ∧ ∀ n ∈ c.f4, numOk n
theorem ok_num (d : Nat) (n : Int) (h : numOk n) : Ok d (numV n) := ok_leaf d _ (by simp [bareV, bareR, numV]) (by simp [numV]) (by simp [numV]) h
theorem ok_txt (d : Nat) (s : ByteArray) : Ok d (txtV s) := ok_leaf d _ (by simp [bareV, bareR, txtV]) (by simp [txtV]) (by simp [txtV]) ⟨show (-9223372036854775808 : Int) ≤ 0 by decide, show (0 : Int) ≤ 9223372036854775807 by decide⟩
theorem ok_nul (d : Nat) : Ok d nulV := ok_leaf d _ rfl (by decide) (by decide) ⟨by decide, by decide⟩
theorem ok_arr (d : Nat) (l : List V) (hl : l.length ≤ 1000000000000) (h : ∀ x ∈ l, Ok d x) : Ok (d + 1) (arrV l) := by
 refine ⟨?_, ⟨⟨show (-9223372036854775808 : Int) ≤ 0 by decide, show (0 : Int) ≤ 9223372036854775807 by decide⟩, fun y hy => (h y hy).n⟩, ⟨hl, show 0 ≤ 1000000000000 by decide, fun y hy => (h y hy).f⟩⟩
 simp only [soundR, Bool.and_eq_true, List.all_eq_true]
 exact ⟨⟨by simp [bareV, bareR, arrV], by simp [arrV]⟩, fun y hy => (h y hy).s⟩
theorem sound_len {c : Cl} {ev : Int} (h : soundC c ev = true) : c.f1.size ≤ 32 ∧ c.f4.length ≤ 64 ∧ 1 ≤ c.f0 ∧ c.f0 ≤ 8 := by
 unfold soundC at h
 by_cases h0 : c.f0 < 1 ∨ c.f0 > 8 ∨ c.f1.size = 0 ∨ c.f1.size > 32
 · rw [if_pos h0] at h; cases h
 · rw [if_neg h0] at h
   refine ⟨by omega, ?_, by omega, by omega⟩
   split at h
   · simp only [Bool.and_eq_true, decide_eq_true_eq] at h
     omega
   · split at h
     · cases h
     · split at h
       · simp only [decide_eq_true_eq] at h
         omega
       · simp only [Bool.and_eq_true, decide_eq_true_eq] at h
         have := h.2.1
         unfold mostV at this
         split at this
         · omega
         · split at this <;> omega
theorem ok_got (d : Nat) (c : Cl) (hl : c.f4.length ≤ 64) (hn : ∀ n ∈ c.f4, numOk n) : Ok (d + 1) (gotV c) := by
 unfold gotV
 split
 · refine ok_arr d _ (by rw [List.length_map]; omega) fun x hx => ?_
   obtain ⟨n, hm, rfl⟩ := List.mem_map.1 hx
   exact ok_num d n (hn n hm)
 · split
   · exact ok_nul _
   · rename_i h
     cases hc : c.f4 with
     | nil => simp [hc] at h
     | cons a r => exact ok_num _ a (hn a (by simp [hc]))
theorem ok_call (d : Nat) (c : Cl) (hl : c.f4.length ≤ 64) (h2 : numOk c.f2) (hn : ∀ n ∈ c.f4, numOk n) : Ok (d + 2) (callV c) := by
 refine ok_arr (d + 1) _ ?_ fun x hx => ?_
 · unfold tailV
   split
   · simp
   · split <;> simp
 · simp only [List.cons_append, List.nil_append, List.mem_cons] at hx
   rcases hx with rfl | rfl | hx
   · exact ok_txt _ _
   · exact ok_txt _ _
   · unfold tailV at hx
     split at hx
     · rw [List.mem_singleton.1 hx]
       exact ok_num _ _ h2
     · split at hx
       · rw [List.mem_singleton.1 hx]
         exact ok_got d c hl hn
       · cases hx
theorem ok_event (e : Ev) (hs : badE e = false) (hn : numsE e) : Ok 8 (eventV e) := by
 simp only [badE, Bool.or_eq_false_iff, decide_eq_false_iff_not, List.any_eq_false, Bool.not_eq_true', Bool.not_eq_false] at hs
 have hc : Ok 7 (arrV (e.f2.map callV)) := ok_arr 6 _ (by rw [List.length_map]; omega) fun x hx => by
  obtain ⟨c, hm, rfl⟩ := List.mem_map.1 hx
  have h1 := sound_len (by simpa using hs.2.2.2 c hm)
  exact ok_call 4 c h1.2.1 (hn.2 c hm).1 (hn.2 c hm).2
 have h0 := ok_num 7 e.f0 hn.1
 have h1 := ok_txt 7 (kindT e.f1)
 have hA : ∀ y ∈ [numV e.f0, txtV (kindT e.f1), arrV (e.f2.map callV)], Ok 7 y := by
  intro y hy
  simp only [List.mem_cons, List.not_mem_nil, or_false] at hy
  rcases hy with rfl | rfl | rfl
  · exact h0
  · exact h1
  · exact hc
 refine ⟨?_, ⟨⟨show (-9223372036854775808 : Int) ≤ 0 by decide, show (0 : Int) ≤ 9223372036854775807 by decide⟩, fun y hy => (hA y hy).n⟩, ⟨show 3 ≤ 1000000000000 by decide, show 3 ≤ 1000000000000 by decide, fun y hy => (hA y hy).f⟩⟩
 show (bareV (eventV e) && decide (eventV e).f4.Nodup && (eventV e).f3.all (soundR 7)) = true
 rw [Bool.and_eq_true, Bool.and_eq_true, List.all_eq_true]
 exact ⟨⟨by simp [bareV, bareR, eventV, namesE], decide_eq_true (show namesE.Nodup by decide)⟩, fun y hy => (hA y hy).s⟩
theorem sum_le {α : Type} (f : α → Nat) (B : Nat) : ∀ l : List α, (∀ x ∈ l, f x ≤ B) → (l.map f).sum ≤ l.length * B
 | [], _ => by simp
 | x :: l, h => by
  have h1 := h x (by simp)
  have h2 := sum_le f B l fun y hy => h y (by simp [hy])
  rw [List.map_cons, List.sum_cons, List.length_cons, Nat.add_mul, Nat.one_mul]
  omega
theorem sz_num (d : Nat) (n : Int) : szD d (numV n) = 1 := by cases d <;> simp [szD, numV] <;> rfl
theorem sz_nul (d : Nat) : szD d nulV = 1 := by cases d <;> simp [szD, nulV] <;> rfl
theorem sz_txt (d : Nat) (s : ByteArray) : szD d (txtV s) = 1 + s.size := by cases d <;> simp [szD, txtV]
theorem sz_arr (d : Nat) (l : List V) : szD (d + 1) (arrV l) = 1 + (l.map (szD d)).sum := by simp [szD, arrV] <;> rfl
theorem sz_got (d : Nat) (c : Cl) (hl : c.f4.length ≤ 64) : szD (d + 1) (gotV c) ≤ 65 := by
 unfold gotV
 split
 · rw [sz_arr]
   have := sum_le (szD d) 1 (c.f4.map numV) fun x hx => by
    obtain ⟨n, _, rfl⟩ := List.mem_map.1 hx
    rw [sz_num]
    exact Nat.le_refl _
   rw [List.length_map] at this
   omega
 · split
   · rw [sz_nul]; omega
   · rw [sz_num]; omega
theorem letC_size (k : Int) : (letC k).size ≤ 8 := by
 unfold letC
 rw [ByteArray.size_extract]
 have : lettersB.size = 8 := rfl
 omega
theorem sz_call (d : Nat) (c : Cl) (hl : c.f4.length ≤ 64) (hk : c.f1.size ≤ 32) : szD (d + 2) (callV c) ≤ 110 := by
 have h1 := letC_size c.f0
 have h2 : ((tailV c).map (szD (d + 1))).sum ≤ 65 := by
  unfold tailV
  split
  · simp [sz_num]
  · split
    · have := sz_got d c hl
      simpa using this
    · simp
 unfold callV
 rw [sz_arr]
 simp only [List.cons_append, List.nil_append, List.map_cons, List.sum_cons, sz_txt]
 omega
theorem kindT_size (k : Int) : (kindT k).size ≤ 6 := by
 unfold kindT
 (repeat' split) <;> decide
theorem line_len (e : Ev) (hs : badE e = false) (hn : numsE e) : (lineB e).length ≤ 80000 := by
 have hw := writeD_bound 8 (eventV e) (ok_event e hs hn).n
 simp only [badE, Bool.or_eq_false_iff, decide_eq_false_iff_not, List.any_eq_false, Bool.not_eq_true', Bool.not_eq_false] at hs
 have hc := sum_le (szD 6) 110 (e.f2.map callV) fun x hx => by
  obtain ⟨c, hm, rfl⟩ := List.mem_map.1 hx
  have h1 := sound_len (by simpa using hs.2.2.2 c hm)
  exact sz_call 4 c h1.2.1 h1.1
 rw [List.length_map] at hc
 have hk := kindT_size e.f1
 have hz : szD 8 (eventV e) ≤ 1800 := by
  show 1 + 0 + ([numV e.f0, txtV (kindT e.f1), arrV (e.f2.map callV)].map (szD 7)).sum + (namesE.map fun n => n.size + 1).sum ≤ 1800
  rw [show (namesE.map fun n => n.size + 1).sum = 6 from rfl]
  simp only [List.map_cons, List.map_nil, List.sum_cons, List.sum_nil, sz_num, sz_txt, sz_arr 6]
  omega
 unfold lineB
 rw [List.length_append, List.length_singleton]
 omega
end Go.Proofs.YtamcicojockhpaaGreatDoor.Wi
end
section
set_option linter.unusedVariables false
set_option linter.unusedSimpArgs false
namespace Go.Proofs.YtamcicojockhpaaGreatDoor.Wi
open Go.RowKit Go.Proofs.YtamcicojockhpaaGreatDoorW.PrintWords Go.Proofs.YtamcicojockhpaaGreatDoorW.PrintLast Go.Proofs.YtamcicojockhpaaGreatDoorW.PrintMore
open Go.Proofs.YtamcicojockhpaaGreatDoor.Lx Go.Proofs.YtamcicojockhpaaGreatDoor.PS Go.Proofs.YtamcicojockhpaaGreatDoor.Tr
theorem R_row2 {w : World} {base g : Nat} {ok : Nat → Prop} (hok : ok g) {x3 x4 y3 y4 : Value} (x y : V) (hb : base ≤ g)
 (hg : w.heap[g]? = some (.cells #[.int .i64 x.f0, .int .i64 x.f1, .string x.f2, x3, x4, .int .i64 y.f0, .int .i64 y.f1, .string y.f2, y3, y4] 51 (0, 0)))
 (hx3 : k51.R 51 w base (fun k => ok k ∧ k ≠ g) x3 x.f3) (hx4 : Kd.string.R 9 w base (fun k => ok k ∧ k ≠ g) x4 x.f4)
 (hy3 : k51.R 51 w base (fun k => ok k ∧ k ≠ g) y3 y.f3) (hy4 : Kd.string.R 9 w base (fun k => ok k ∧ k ≠ g) y4 y.f4) :
 k51.R 51 w base ok (.slice (some ⟨g, 0, none⟩) 2 2) [x, y] := by
 have hm : ∀ k, ok k ∧ k ≠ g → ok k ∧ some k ≠ (Value.slice (some ⟨g, 0, none⟩) 2 2).ownBlock := fun k hk => ⟨hk.1, fun e => hk.2 (by simpa [Value.ownBlock] using e)⟩
 exact ⟨fun k hk => by have : g = k := by simpa [Value.ownBlock] using hk
                       exact this ▸ hok, [.int .i64 x.f0, .int .i64 x.f1, .string x.f2, x3, x4, .int .i64 y.f0, .int .i64 y.f1, .string y.f2, y3, y4], ⟨rfl, .inr ⟨g, 2, _, rfl, hb, hg, Nat.le_refl _, by decide, rfl, rfl⟩⟩,
  Reps.c5 (k51_mkM w base _ x (Kd.R_mono hx3 hm) (Kd.R_mono hx4 hm)) (Reps.c5 (k51_mkM w base _ y (Kd.R_mono hy3 hm) (Kd.R_mono hy4 hm)) (Reps.none _ _))⟩
theorem R_row3 {w : World} {base g : Nat} {ok : Nat → Prop} (hok : ok g) {x3 x4 y3 y4 u3 u4 : Value} (x y u : V) (hb : base ≤ g)
 (hg : w.heap[g]? = some (.cells #[.int .i64 x.f0, .int .i64 x.f1, .string x.f2, x3, x4, .int .i64 y.f0, .int .i64 y.f1, .string y.f2, y3, y4, .int .i64 u.f0, .int .i64 u.f1, .string u.f2, u3, u4] 51 (0, 0)))
 (hx3 : k51.R 51 w base (fun k => ok k ∧ k ≠ g) x3 x.f3) (hx4 : Kd.string.R 9 w base (fun k => ok k ∧ k ≠ g) x4 x.f4)
 (hy3 : k51.R 51 w base (fun k => ok k ∧ k ≠ g) y3 y.f3) (hy4 : Kd.string.R 9 w base (fun k => ok k ∧ k ≠ g) y4 y.f4)
 (hu3 : k51.R 51 w base (fun k => ok k ∧ k ≠ g) u3 u.f3) (hu4 : Kd.string.R 9 w base (fun k => ok k ∧ k ≠ g) u4 u.f4) :
 k51.R 51 w base ok (.slice (some ⟨g, 0, none⟩) 3 3) [x, y, u] := by
 have hm : ∀ k, ok k ∧ k ≠ g → ok k ∧ some k ≠ (Value.slice (some ⟨g, 0, none⟩) 3 3).ownBlock := fun k hk => ⟨hk.1, fun e => hk.2 (by simpa [Value.ownBlock] using e)⟩
 exact ⟨fun k hk => by have : g = k := by simpa [Value.ownBlock] using hk
                       exact this ▸ hok, [.int .i64 x.f0, .int .i64 x.f1, .string x.f2, x3, x4, .int .i64 y.f0, .int .i64 y.f1, .string y.f2, y3, y4, .int .i64 u.f0, .int .i64 u.f1, .string u.f2, u3, u4], ⟨rfl, .inr ⟨g, 3, _, rfl, hb, hg, Nat.le_refl _, by decide, rfl, rfl⟩⟩,
  Reps.c5 (k51_mkM w base _ x (Kd.R_mono hx3 hm) (Kd.R_mono hx4 hm)) (Reps.c5 (k51_mkM w base _ y (Kd.R_mono hy3 hm) (Kd.R_mono hy4 hm)) (Reps.c5 (k51_mkM w base _ u (Kd.R_mono hu3 hm) (Kd.R_mono hu4 hm)) (Reps.none _ _)))⟩
theorem S_row3 {w : World} {base g : Nat} (x y u : ByteArray) (hb : base ≤ g) (hg : w.heap[g]? = some (.cells #[.string x, .string y, .string u] 9 (0, 0))) :
 Kd.string.R 9 w base (fun _ => True) (.slice (some ⟨g, 0, none⟩) 3 3) [x, y, u] :=
 ⟨fun _ _ => trivial, [.string x, .string y, .string u], ⟨rfl, .inr ⟨g, 3, _, rfl, hb, hg, Nat.le_refl _, by decide, rfl, rfl⟩⟩, Reps.one rfl (Reps.one rfl (Reps.one rfl (Reps.none _ _)))⟩
end Go.Proofs.YtamcicojockhpaaGreatDoor.Wi
end
