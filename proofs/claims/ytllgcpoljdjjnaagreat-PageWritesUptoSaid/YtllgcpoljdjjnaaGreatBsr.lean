/- (*strings.byteStringReplacer).Replace at page's pairs: the walk. -/
import Derived.Test.YtllgcpoljdjjnaaGreatEsc
import Derived.Test.YtllgcpoljdjjnaaGreatShelf
import Derived.Laws.CopyRow
set_option linter.unusedVariables false
set_option linter.unusedSimpArgs false
namespace Go.Proofs.YtllgcpoljdjjnaaGreat.Pg
open Go.RowKit Go.Proofs.YtllgcpoljdjjnaaGreatW.PrintWords Go.Proofs.YtllgcpoljdjjnaaGreatW.PrintLast Go.Proofs.YtllgcpoljdjjnaaGreatW.PrintMore

def escB (b : UInt8) : List UInt8 := (repOf 0 b.toNat).getD [b]
def escL (l : List UInt8) : List UInt8 := l.flatMap escB
def keyB (b : UInt8) : Bool := (repOf 0 b.toNat).isSome
theorem escL_snoc (l : List UInt8) (b : UInt8) : escL (l ++ [b]) = escL l ++ escB b := by simp [escL]
theorem escB_len (b : UInt8) : 1 ≤ (escB b).length ∧ (escB b).length ≤ 6 := by
  unfold escB
  cases h : repOf 0 b.toNat with
  | none => simp
  | some l =>
    unfold repOf at h
    rw [Option.map_eq_some_iff] at h
    obtain ⟨i, _, rfl⟩ := h
    unfold valOf
    split <;> simp
theorem escL_len (l : List UInt8) : l.length ≤ (escL l).length ∧ (escL l).length ≤ 6 * l.length := by
  induction l with
  | nil => simp [escL]
  | cons b r ih =>
    have := escB_len b
    have e : escL (b :: r) = escB b ++ escL r := rfl
    rw [e, List.length_append, List.length_cons]
    omega
theorem escL_same (l : List UInt8) (h : l.any keyB = false) : escL l = l := by
  induction l with
  | nil => rfl
  | cons b r ih =>
    simp only [List.any_cons, Bool.or_eq_false_iff] at h
    have e : escL (b :: r) = escB b ++ escL r := rfl
    have hb : escB b = [b] := by
      unfold escB
      have := h.1
      unfold keyB at this
      cases hq : repOf 0 b.toNat with
      | none => rfl
      | some l => rw [hq] at this; cases this
    rw [e, hb, ih h.2]
    rfl

/-- The new size, byte by byte. -/
theorem size_step (l : List UInt8) (i : Nat) (h : i < l.length) : (escL (l.take (i + 1))).length = (escL (l.take i)).length + (escB l[i]).length := by
  rw [List.take_succ_eq_append_getElem h, escL_snoc, List.length_append]
theorem any_step (l : List UInt8) (i : Nat) (h : i < l.length) : (l.take (i + 1)).any keyB = ((l.take i).any keyB || keyB l[i]) := by
  rw [List.take_succ_eq_append_getElem h, List.any_append]
  simp

/-- The new size, key by key (the keys in the order in which they stand in the list). -/
def sizA (l : List UInt8) : Nat → Nat
  | 0 => l.length
  | t + 1 => sizA l t + l.count (keyOf (4 - t)) * ((valOf (4 - t)).length - 1)
def anyA (l : List UInt8) : Nat → Bool
  | 0 => false
  | t + 1 => anyA l t || l.count (keyOf (4 - t)) != 0
theorem rep_cases (n : Nat) (h : n < 256) : ((repOf 0 n).getD [0]).length = 1 + (if n = 38 then 4 else 0) + (if n = 60 then 3 else 0) + (if n = 62 then 3 else 0) + (if n = 34 then 5 else 0) + (if n = 39 then 4 else 0) ∧
    (repOf 0 n).isSome = (n == 38 || n == 60 || n == 62 || n == 34 || n == 39) := by
  revert n
  decide +kernel
theorem escB_length (b : UInt8) : (escB b).length = 1 + (if b = 38 then 4 else 0) + (if b = 60 then 3 else 0) + (if b = 62 then 3 else 0) + (if b = 34 then 5 else 0) + (if b = 39 then 4 else 0) := by
  have h := (rep_cases b.toNat b.toNat_lt).1
  have e : (escB b).length = ((repOf 0 b.toNat).getD [0]).length := by unfold escB; cases repOf 0 b.toNat <;> rfl
  rw [e, h]
  simp only [← UInt8.toNat_inj, UInt8.reduceToNat]
theorem keyB_eq (b : UInt8) : keyB b = (b == 38 || b == 60 || b == 62 || b == 34 || b == 39) := by
  have h := (rep_cases b.toNat b.toNat_lt).2
  unfold keyB
  rw [h]
  have q : ∀ c : UInt8, (b.toNat == c.toNat) = (b == c) := fun c => by
    rw [Bool.eq_iff_iff, beq_iff_eq, beq_iff_eq]
    exact UInt8.toNat_inj
  rw [← q 38, ← q 60, ← q 62, ← q 34, ← q 39]
  rfl
theorem escL_counts (l : List UInt8) : (escL l).length = l.length + l.count 38 * 4 + l.count 60 * 3 + l.count 62 * 3 + l.count 34 * 5 + l.count 39 * 4 := by
  induction l with
  | nil => rfl
  | cons b r ih =>
    have e : escL (b :: r) = escB b ++ escL r := rfl
    rw [e, List.length_append, ih, escB_length]
    simp only [List.count_cons, List.length_cons, beq_iff_eq]
    split <;> split <;> split <;> split <;> split <;> omega
theorem sizA_five (l : List UInt8) : sizA l 5 = (escL l).length := by
  rw [escL_counts]
  simp [sizA, keyOf, valOf]
  omega
theorem count_any (l : List UInt8) (c : UInt8) : (l.count c != 0) = l.any (· == c) := by
  induction l with
  | nil => rfl
  | cons b r ih =>
    rw [List.any_cons, ← ih, List.count_cons]
    cases b == c <;> simp
theorem anyA_five (l : List UInt8) : anyA l 5 = l.any keyB := by
  show ((((((false || (l.count (keyOf 4) != 0)) || (l.count (keyOf 3) != 0)) || (l.count (keyOf 2) != 0)) || (l.count (keyOf 1) != 0)) || (l.count (keyOf 0) != 0))) = _
  simp only [count_any, Bool.false_or, keyOf]
  induction l with
  | nil => rfl
  | cons b r ih =>
    simp only [List.any_cons, keyB_eq] at ih ⊢
    rw [← ih]
    generalize (r.any fun x => x == 39) = c1, (r.any fun x => x == 34) = c2, (r.any fun x => x == 62) = c3, (r.any fun x => x == 60) = c4, (r.any fun x => x == 38) = c5, (b == 39) = d1, (b == 34) = d2, (b == 62) = d3, (b == 60) = d4, (b == 38) = d5
    revert c1 c2 c3 c4 c5 d1 d2 d3 d4 d5
    decide
/-- The buffer, k bytes read. -/
def rowN (l : List UInt8) (n k : Nat) : Array Value := (Lib.byteCells (escL (l.take k)) ++ List.replicate (n - (escL (l.take k)).length) (Value.int .u8 0)).toArray
theorem infoB : (Tryz.prog.info? 5).map (fun i => (i.zero, i.size, i.bytes)) = some (some (.int .u8 0), 1, 1) := by kernel_rfl
theorem makeB (u : World) (n : Nat) (hn : n ≤ 100000000000000) {l : List UInt8} : (Instr.makeSlice 41 (.int .i64 (n : Int)) (.int .i64 (n : Int))).run Tryz.prog u =
      .ok (.slice (some ⟨u.heap.size, 0, none⟩) n n) (u.alloc (.cells (rowN l n 0) 5)) := by
  obtain ⟨i0, hi, hz0, hz1, hz2⟩ := info_parts infoB
  have h := run_make (P := Tryz.prog) u 41 5 i0 (.int .u8 0) Tryz.underlying41 hi hz0 .i64 .i64 (n : Int) (n : Int) (by omega) (Int.le_refl _) (by rw [hz2]; omega) (by omega)
  rw [h]
  rw [hz1, Int.toNat_natCast, Nat.mul_one]
  have e : madeCells (Value.int .u8 0).cells n = rowN l n 0 := by
    apply Array.ext'
    rw [show (Value.int .u8 0).cells = #[.int .u8 0] from rfl, toList_madeCells_one]
    simp [rowN, escL, Lib.byteCells]
  rw [e]
theorem conv_row (w : World) (b n : Nat) (l : List UInt8) (hn : n = l.length) (h : w.heap[b]? = some (.cells (Lib.byteCells l).toArray 5 (0, 0))) : (convert 41 9 (.slice (some { block := b, off := 0 }) n n)).run Tryz.prog w = .ok (.string ⟨l.toArray⟩) w := by
  subst hn
  exact run_convert_bytes_back _ 41 9 5 ⟨b, 0, none⟩ l.length l Tryz.underlying41 Tryz.underlying5 Tryz.underlying9 (fun j hj => by
    have e : (⟨b, 0, none⟩ : Addr).add j = ⟨b, j, none⟩ := by unfold Addr.add; split <;> simp_all
    rw [e, blk_cell h]
    simp [Lib.byteCells, hj])
theorem escL_append (a b : List UInt8) : escL (a ++ b) = escL a ++ escL b := by simp [escL]
theorem escL_take_le (l : List UInt8) (k : Nat) : (escL (l.take k)).length ≤ (escL l).length := by
  have h := congrArg (fun x => (escL x).length) (List.take_append_drop k l)
  simp only [escL_append, List.length_append] at h
  omega
theorem rowN_zero (l : List UInt8) (n k : Nat) (h : (escL (l.take k)).length < n) : (rowN l n k)[(escL (l.take k)).length]? = some (Value.int .u8 0) := by
  unfold rowN
  rw [List.getElem?_toArray, List.getElem?_append_right (by rw [Lib.byteCells_length]; omega), Lib.byteCells_length, Nat.sub_self, List.getElem?_replicate, if_pos (by omega)]
theorem rowN_put (l : List UInt8) (n k : Nat) (hk : k < l.length) (he : escB l[k] = [l[k]]) (h : (escL (l.take (k + 1))).length ≤ n) : (rowN l n k).setIfInBounds (escL (l.take k)).length (Value.int .u8 l[k].toNat) = rowN l n (k + 1) := by
  have hs := size_step l k hk
  rw [he] at hs
  apply Array.ext'
  rw [Array.toList_setIfInBounds]
  unfold rowN
  show (_ : List Value) = _
  rw [List.take_succ_eq_append_getElem hk, escL_snoc, he, Lib.byteCells_append, List.append_assoc]
  rw [List.set_append, if_neg (by rw [Lib.byteCells_length]; omega), Lib.byteCells_length, Nat.sub_self]
  congr 1
  have : n - (escL (l.take k)).length = (n - (escL (l.take k) ++ [l[k]]).length) + 1 := by
    rw [List.length_append]
    simp only [List.length_cons, List.length_nil] at hs ⊢
    omega
  rw [this, List.replicate_succ, List.set_cons_zero]
  rfl
theorem rowN_copy (l : List UInt8) (n k : Nat) (hk : k < l.length) (h : (escL (l.take (k + 1))).length ≤ n) : ((rowN l n k).toList.take (escL (l.take k)).length ++ Lib.byteCells (escB l[k]) ++ (rowN l n k).toList.drop ((escL (l.take k)).length + (Lib.byteCells (escB l[k])).length)).toArray = rowN l n (k + 1) := by
  have hs := size_step l k hk
  unfold rowN
  rw [List.take_succ_eq_append_getElem hk, escL_snoc, Lib.byteCells_append]
  congr 1
  show (Lib.byteCells (escL (l.take k)) ++ _).take _ ++ _ ++ (Lib.byteCells (escL (l.take k)) ++ _).drop _ = _
  rw [List.take_left' (Lib.byteCells_length _), ← List.drop_drop, List.drop_left' (Lib.byteCells_length _), List.drop_replicate, Lib.byteCells_length, List.length_append]
  congr 2
  omega
theorem copy_rep (u : World) (G : Nat) (l lb : List UInt8) (n k j m d rb cap : Nat) (cs : Array Value) (fz : Nat × Nat) (hk : k < l.length) (he : escB l[k] = lb) (hj : (escL (l.take k)).length = j) (h : (escL (l.take (k + 1))).length ≤ n)
    (hW : u.heap[G]? = some (.cells (rowN l n k) 5 (0, 0))) (hrb : u.heap[rb]? = some (.cells cs 5 fz)) (hcs : ∀ i (h : i < lb.length), cs[i]? = some (.int .u8 (lb[i].toNat))) (hm : lb.length ≤ m) :
    (Builtin.copy_ #[41, 41] 3 #[.slice (some ⟨G, j, none⟩) m d, .slice (some ⟨rb, 0, none⟩) lb.length cap]).run Tryz.prog u = .ok (.int .i64 lb.length) (u.setRow G (rowN l n (k + 1))) := by
  have hs := size_step l k hk
  have hr := rowN_copy l n k hk h
  subst hj
  rw [he] at hs hr
  have hc := run_copy_row (P := Tryz.prog) u 41 41 3 5 G (escL (l.take k)).length m d ⟨rb, 0, none⟩ lb.length cap (rowN l n k) 5 (Lib.byteCells lb) Tryz.underlying41 (by kernel_rfl) hW
    (by rw [Lib.byteCells_length]; exact (Nat.min_eq_left hm).symm) (fun i v hv => by
      have hi : i < lb.length := by
        have := (List.getElem?_eq_some_iff.1 hv).1
        rwa [Lib.byteCells_length] at this
      have e : (⟨rb, 0, none⟩ : Addr).add i = ⟨rb, i, none⟩ := by unfold Addr.add; split <;> simp_all
      have e2 : u.cell? ⟨rb, i, none⟩ = cs[i]? := by simp [World.cell?, hrb]
      rw [e, e2, hcs i hi, ← hv]
      simp [Lib.byteCells, hi]) (by
      have : (rowN l n k).size = n := by
        simp only [rowN, List.size_toArray, List.length_append, Lib.byteCells_length, List.length_replicate]
        omega
      rw [this, Lib.byteCells_length]
      omega) (fun v hv => by
      obtain ⟨c, _, rfl⟩ := List.mem_map.1 hv
      rfl)
  rw [hc, hr, Lib.byteCells_length]
  rfl
theorem pg_below_row {B g : Nat} {w0 w : World} (hb : Below B w0 w) (hBg : B ≤ g) (cs : Array Value) : Below B w0 (w.setRow g cs) :=
  hb.trans ⟨rfl, rfl, rfl, by simp [World.setRow], fun k hk => setRow_other w g k cs (by omega)⟩
theorem pg_below_drew {B : Nat} {w0 w : World} (hb : Below B w0 w) : Below B w0 w.drew := ⟨hb.os, hb.tape, hb.output, hb.size, hb.block⟩
theorem val_len (i : Nat) : 1 ≤ (valOf i).length ∧ (valOf i).length ≤ 6 := by unfold valOf; split <;> simp
theorem siz_inc (l : List UInt8) (t : Nat) : l.count (keyOf (4 - t)) * ((valOf (4 - t)).length - 1) ≤ l.length * 5 :=
  Nat.mul_le_mul List.count_le_length (by have := val_len (4 - t); omega)
theorem sizA_le (l : List UInt8) (t : Nat) : sizA l t ≤ l.length + l.length * 5 * t := by
  induction t with
  | zero => simp [sizA]
  | succ t ih =>
    have := siz_inc l t
    rw [Nat.mul_succ]
    unfold sizA
    omega
theorem siz_step0 (s c v m L : Nat) (h1 : 1 ≤ v ∧ v ≤ 6) (hm : c * (v - 1) = m) (h2 : m ≤ L * 5) (h3 : s ≤ L + L * 5 * 5) (hl : L ≤ 1000000000000) : wrap64 ((s : Int) + wrap64 ((c : Int) * wrap64 ((v : Int) - 1))) = ((s + m : Nat) : Int) := by
  have e1 : wrap64 ((v : Int) - 1) = ((v - 1 : Nat) : Int) := by unfold wrap64; omega
  have e2 : (c : Int) * ((v - 1 : Nat) : Int) = (m : Int) := by rw [← hm, Int.natCast_mul]
  rw [e1, e2]
  unfold wrap64
  omega
theorem siz_step (l : List UInt8) (t : Nat) (ht : t < 5) (hl : l.length ≤ 1000000000000) : wrap64 ((sizA l t : Int) + wrap64 ((Lib.countByte l (keyOf (4 - t)) : Int) * wrap64 (((valOf (4 - t)).length : Int) - 1))) = ((sizA l (t + 1) : Nat) : Int) := by
  have h4 : l.length * 5 * t ≤ l.length * 5 * 5 := Nat.mul_le_mul_left _ (Nat.le_of_lt ht)
  exact siz_step0 (sizA l t) (l.count (keyOf (4 - t))) (valOf (4 - t)).length _ l.length (val_len (4 - t)) rfl (siz_inc l t) (Nat.le_trans (sizA_le l t) (Nat.add_le_add_left h4 _)) hl
theorem any_yes (l : List UInt8) (t : Nat) (h : ((Lib.countByte l (keyOf (4 - t)) : Int) != 0) = true) : anyA l (t + 1) = true := by
  have h2 : (l.count (keyOf (4 - t)) != 0) = true := by
    have h3 : ((l.count (keyOf (4 - t)) : Int) != 0) = true := h
    simpa using h3
  show (anyA l t || (l.count (keyOf (4 - t)) != 0)) = true
  rw [h2, Bool.or_true]
theorem count_zero (l : List UInt8) (t : Nat) (h : ((Lib.countByte l (keyOf (4 - t)) : Int) != 0) = false) : sizA l (t + 1) = sizA l t ∧ anyA l (t + 1) = anyA l t := by
  have h2 : l.count (keyOf (4 - t)) = 0 := by
    have h3 : ((l.count (keyOf (4 - t)) : Int) != 0) = false := h
    simpa using h3
  constructor
  · show sizA l t + l.count (keyOf (4 - t)) * _ = _
    rw [h2, Nat.zero_mul, Nat.add_zero]
  · show (anyA l t || (l.count (keyOf (4 - t)) != 0)) = _
    rw [h2]
    simp
theorem rep_key (t : Nat) (h : t < 5) : repOf 0 (keyOf (4 - t)).toNat = some (valOf (4 - t)) := by
  match t, h with
  | 0, _ => rfl
  | 1, _ => rfl
  | 2, _ => rfl
  | 3, _ => rfl
  | 4, _ => rfl
theorem five_cells {w : World} {B : Nat} {Av : Option Addr} {cav : Nat} (h : w.ownsRow B 9 1 (.slice Av 5 cav) 5 (five.map Value.string)) : ∃ rg, Av = some ⟨rg, 0, none⟩ ∧ ∀ t, t < 5 → w.cell? ⟨rg, t, none⟩ = some (.string ⟨#[keyOf (4 - t)]⟩) := by
  obtain ⟨_, h⟩ := h
  rcases h with ⟨_, h5⟩ | ⟨g1, cap1, cur, hv, _, hg1, _, _, _, htk⟩
  · cases h5
  · injection hv with hv1
    refine ⟨g1, hv1, fun t ht => ?_⟩
    rw [blk_cell hg1]
    have e : cur[t]? = (cur.toList.take (5 * 1))[t]? := by rw [List.getElem?_take_of_lt (by omega)]; simp
    rw [e, htk]
    match t, ht with
    | 0, _ => rfl
    | 1, _ => rfl
    | 2, _ => rfl
    | 3, _ => rfl
    | 4, _ => rfl
theorem idx_list (l : List UInt8) (k : Nat) (h : k < (ByteArray.mk l.toArray).size) : (ByteArray.mk l.toArray)[k]'h = l[k]'(by simpa [ByteArray.size] using h) := rfl
attribute [local go_sem] idx_list
set_option maxRecDepth 100000 in
set_option maxHeartbeats 4000000 in
theorem Replace_calls (B g : Nat) (l : List UInt8) (w : World) (hbs : BS B w g (repOf 0) five) (hl : l.length ≤ 1000000000000) :
    Calls Tryz.prog 114 #[.pointer (some ⟨g, 0, none⟩), .string ⟨l.toArray⟩] w fun e w' => e = .returned (.string ⟨(escL l).toArray⟩) ∧ Below w.heap.size w w' := by
  obtain ⟨cells, v, hB⟩ := hbs
  obtain ⟨Av, cav, rfl⟩ := own_slice hB.row
  have HB := Aside0.mk hB
  have cv : w.cell? ⟨g, 256, none⟩ = some (.slice Av 5 cav) := (blk_cell hB.blk _).trans hB.last
  have qN : ∀ (w : World) (a : Option Addr) (n c n' c' : Nat), (binOp .neq 41 (.slice a n c) (.slice none n' c')).run Tryz.prog w = .ok (.bool (!a.isNone)) w := fun w a n c n' c' => run_neq_slice_nil_any w _ _ a n c n' c' Tryz.underlying41
  have hls : (ByteArray.mk l.toArray).size = l.length := by simp [ByteArray.size]
  clear hB
  by_cases h40 : 40 ≤ l.length
  · have h40' : (40 : Int) ≤ (l.length : Int) := by omega
    clear h40
    obtain ⟨rg, rfl, hcell⟩ := five_cells HB.out.row
    have HC := Aside0.mk hcell
    clear hcell
    go_enter Tryz.func114, Tryz.ntmps114
    go_wp2
    go_loopg [5, 6, 8, 9, 32] 5 (fun kq v5 v6 v8 v9 v32 w2 => ∃ (t : Nat), t + kq = 5 ∧ v32 = .int .i64 t ∧ v5 = .int .i64 (sizA l t) ∧ v6 = .bool (anyA l t) ∧ Aside0 (Below w.heap.size w w2))
    case atStart => exact ⟨0, by simp, rfl, rfl, rfl, Aside0.mk (Below.refl _ _)⟩
    case round =>
      obtain ⟨t, ht, rfl, rfl, rfl, HBa⟩ := hrel
      have HBw := Aside0.mk (HB.out.below HBa.out)
      cases gk with
      | zero =>
        have ht5 : ¬ ((t : Int) < 5) := by omega
        have htt : t = 5 := by omega
        subst htt
        rw [sizA_five, anyA_five]
        obtain ⟨u, hu⟩ : ∃ u, u = wr := ⟨_, rfl⟩
        subst hu
        have HBu := HBw
        cases hany : l.any keyB with
        | false =>
          have HS := Aside0.mk (escL_same l hany)
          go_wp2
          go_ret
          exact ⟨by rw [HS.out]; rfl, HBa.out⟩
        | true =>
          have hle := escL_len l
          obtain ⟨n, hn⟩ : ∃ n, n = (escL l).length := ⟨_, rfl⟩
          rw [← hn] at hle ⊢
          have HN := Aside0.mk hn
          have hmk := fun x => makeB (l := l) x n (by omega)
          clear hn hany
          go_wp2
          have HW := Aside0.mk (show (u.alloc (.cells (rowN l n 0) 5)).heap[u.heap.size]? = some (.cells (rowN l n 0) 5 (0, 0)) from blk_new u _)
          have HBl := Aside0.mk (below_alloc (Below.refl u.heap.size u) (.cells (rowN l n 0) 5))
          clear hmk
          go_loopg [13, 14, 15] l.length (fun kq v13 v14 v15 w2 => ∃ (k : Nat), k + kq = l.length ∧ v14 = .int .i64 k ∧ v13 = .int .i64 (escL (l.take k)).length ∧ Aside0 (w2.heap[u.heap.size]? = some (.cells (rowN l n k) 5 (0, 0))) ∧ Aside0 (Below u.heap.size u w2))
          case atStart => exact ⟨0, by simp, rfl, by simp [escL], HW, HBl⟩
          case round =>
            clear HW HBl
            obtain ⟨k, hk, rfl, rfl, HW, HBl⟩ := hrel
            cases gk with
            | zero =>
              have hge : ¬ ((k : Int) < (l.length : Int)) := by omega
              have hkl : k = l.length := by omega
              subst hkl
              have hcv := fun x h => conv_row x u.heap.size n (escL l) (HN.out) h
              have hrow := hcv _ (show wr.heap[u.heap.size]? = some (.cells (Lib.byteCells (escL l)).toArray 5 (0, 0)) by
                rw [HW.out]
                unfold rowN
                rw [List.take_of_length_le (Nat.le_refl _), ← HN.out, Nat.sub_self, List.replicate_zero, List.append_nil])
              clear hcv
              go_wp2
              go_ret
              exact ⟨rfl, HBa.out.trans (HBl.out.mono HBa.out.size)⟩
            | succ k1 =>
              have hlt : (k : Int) < (l.length : Int) := by omega
              have hlt' : k < l.length := by omega
              have hs1 := size_step l k hlt'
              have hb1 := escL_len (l.take k)
              rw [List.length_take] at hb1
              have hb2 := escB_len l[k]
              have hrep := HBu.out.rep l[k].toNat (l[k].toNat_lt)
              have hlt256 : ((l[k].toNat : Nat) : Int) < 256 := by have := l[k].toNat_lt; omega
              have hroom : (escL (l.take (k + 1))).length ≤ n := by rw [HN.out]; exact escL_take_le l (k + 1)
              have hBr := HBu.out.below HBl.out
              have hrep := hBr.rep l[k].toNat (l[k].toNat_lt)
              rcases ho : repOf 0 l[k].toNat with _ | lb
              · rw [ho] at hrep
                have hesc : escB l[k] = [l[k]] := by unfold escB; rw [ho]; rfl
                rw [hesc] at hs1
                have ca : wr.cell? ⟨g, l[k].toNat, none⟩ = some (.slice none 0 0) := (blk_cell hBr.blk _).trans hrep
                have HROW := Aside0.mk (rowN_put l n k hlt' hesc hroom)
                have cb : wr.cell? ⟨u.heap.size, (escL (l.take k)).length, none⟩ = some (.int .u8 0) := (blk_cell HW.out _).trans (rowN_zero l n k (by simp at hs1; omega))
                have fb := blk_frozen HW.out (escL (l.take k)).length
                have HS1 := Aside0.mk (show (escL (l.take (k + 1))).length = (escL (l.take k)).length + 1 from hs1)
                clear hrep ho hs1 hb2
                generalize hq : (escL (l.take k)).length = j at *
                have HBl2 := Aside0.mk (HBl.out.setCell (p := ⟨u.heap.size, j, none⟩) (Nat.le_refl _) (.int .u8 l[k].toNat))
                have HW2 := Aside0.mk (blk_put HW.out j (.int .u8 l[k].toNat) HROW.out)
                have hj : j < n := by have := HS1.out; omega
                clear HBl HW HROW hBr hroom
                go_wp2
                go_roundg k1
                case measure => omega
                case rel => exact ⟨k + 1, by omega, by go_num, by rw [HS1.out]; go_num, HW2, HBl2⟩
              · rw [ho] at hrep
                have hesc : escB l[k] = lb := by unfold escB; rw [ho]; rfl
                rw [hesc] at hs1 hb2
                obtain ⟨rb, cap, hcell, hcap, hrb, cs, fz, hrbk, hcs⟩ := hrep
                have ca : wr.cell? ⟨g, l[k].toNat, none⟩ = some (.slice (some ⟨rb, 0, none⟩) lb.length cap) := (blk_cell hBr.blk _).trans hcell
                have HS1 := Aside0.mk hs1
                have HCS := Aside0.mk hcs
                have HRB := Aside0.mk hrbk
                have hjn : (escL (l.take k)).length ≤ n := by omega
                have hn6 : n ≤ 6000000000000 := by omega
                clear hcell ho hs1 hrbk hcs
                generalize hq : (escL (l.take k)).length = j at *
                go_wp2_with fail
                refine start_ (n := 13) (S := fun w' => w' = wr.drew) (ds := [10]) #[false, false, false, false, false, false, false, false, false, false, false, false, false] (by kernel_rfl) rfl rfl rfl (fun hHeld => ?_)
                refine pure_ (i := 0) (N := some 102) (v := ?_) (a' := ?_) #[true, false, false, false, false, false, false, false, false, false, false, false, false] rfl rfl (by kernel_rfl) (fun _ _ _ h => h) (Or.inl ⟨by rfl, ?_⟩) ?_ ?_
                rotate_left
                · intro w'
                  go_simp
                  with_reducible rfl
                rotate_left
                · simp only [Act.put, List.setIfInBounds_toArray, List.set_cons_zero, List.set_cons_succ, i64_w, i32_w]
                  rfl
                refine pure_ (i := 1) (N := some 103) (v := ?_) (a' := ?_) #[true, true, false, false, false, false, false, false, false, false, false, false, false] rfl rfl (by kernel_rfl) (fun _ _ _ h => h) (Or.inl ⟨by rfl, ?_⟩) ?_ ?_
                rotate_left
                · intro w'
                  go_simp
                  with_reducible rfl
                rotate_left
                · simp only [Act.put, List.setIfInBounds_toArray, List.set_cons_zero, List.set_cons_succ, i64_w, i32_w]
                  rfl
                refine pure_ (i := 2) (N := some 104) (v := ?_) (a' := ?_) #[true, true, true, false, false, false, false, false, false, false, false, false, false] rfl rfl (by kernel_rfl) (fun _ _ _ h => h) (Or.inl ⟨by rfl, ?_⟩) ?_ ?_
                rotate_left
                · intro w'
                  go_simp
                  with_reducible rfl
                rotate_left
                · simp only [Act.put, List.setIfInBounds_toArray, List.set_cons_zero, List.set_cons_succ, i64_w, i32_w]
                  rfl
                refine pure_ (i := 3) (N := some 105) (v := ?_) (a' := ?_) #[true, true, true, true, false, false, false, false, false, false, false, false, false] rfl rfl (by kernel_rfl) (fun _ _ _ h => h) (Or.inl ⟨by rfl, ?_⟩) ?_ ?_
                rotate_left
                · intro w'
                  go_simp
                  with_reducible rfl
                rotate_left
                · simp only [Act.put, List.setIfInBounds_toArray, List.set_cons_zero, List.set_cons_succ, i64_w, i32_w]
                  rfl
                refine pure_ (i := 4) (N := some 106) (v := ?_) (a' := ?_) #[true, true, true, true, true, false, false, false, false, false, false, false, false] rfl rfl (by kernel_rfl) (fun _ _ _ h => h) (Or.inl ⟨by rfl, ?_⟩) ?_ ?_
                rotate_left
                · intro w'
                  go_simp
                  with_reducible rfl
                rotate_left
                · simp only [Act.put, List.setIfInBounds_toArray, List.set_cons_zero, List.set_cons_succ, i64_w, i32_w]
                  rfl
                refine pure_ (i := 5) (N := some 107) (v := ?_) (a' := ?_) #[true, true, true, true, true, true, false, false, false, false, false, false, false] rfl rfl (by kernel_rfl) (fun _ _ _ h => h) (Or.inl ⟨by rfl, ?_⟩) ?_ ?_
                rotate_left
                · intro w'
                  go_simp
                  with_reducible rfl
                rotate_left
                · simp only [Act.put, List.setIfInBounds_toArray, List.set_cons_zero, List.set_cons_succ, i64_w, i32_w]
                  rfl
                refine pure_ (i := 6) (N := some 108) (v := ?_) (a' := ?_) #[true, true, true, true, true, true, true, false, false, false, false, false, false] rfl rfl (by kernel_rfl) (fun _ _ _ h => h) (Or.inl ⟨by rfl, ?_⟩) ?_ ?_
                rotate_left
                · intro w'
                  go_simp
                  with_reducible rfl
                rotate_left
                · simp only [Act.put, List.setIfInBounds_toArray, List.set_cons_zero, List.set_cons_succ, i64_w, i32_w]
                  rfl
                refine pure_ (i := 7) (N := some 109) (v := ?_) (a' := ?_) #[true, true, true, true, true, true, true, true, false, false, false, false, false] rfl rfl (by kernel_rfl) (fun _ _ _ h => h) (Or.inl ⟨by rfl, ?_⟩) ?_ ?_
                rotate_left
                · intro w'
                  go_simp
                  with_reducible rfl
                rotate_left
                · simp only [Act.put, List.setIfInBounds_toArray, List.set_cons_zero, List.set_cons_succ, i64_w, i32_w]
                  rfl
                refine pure_ (i := 8) (N := some 110) (v := ?_) (a' := ?_) #[true, true, true, true, true, true, true, true, true, false, false, false, false] rfl rfl (by kernel_rfl) (fun _ _ _ h => h) (Or.inl ⟨by rfl, ?_⟩) ?_ ?_
                rotate_left
                · intro w'
                  go_simp
                  with_reducible rfl
                rotate_left
                · simp only [Act.put, List.setIfInBounds_toArray, List.set_cons_zero, List.set_cons_succ, i64_w, i32_w]
                  rfl
                refine take_ (i := 9) (N := some 111) (v := ?_) (a' := ?_) #[true, true, true, true, true, true, true, true, true, true, false, false, false] rfl rfl (by kernel_rfl) (fun _ _ _ h => h) (Or.inl ⟨by rfl, ?_⟩) hHeld ?_ ?_
                rotate_left
                · rintro w' rfl
                  go_simp
                  with_reducible rfl
                rotate_left
                · simp only [Act.put, List.setIfInBounds_toArray, List.set_cons_zero, List.set_cons_succ, i64_w, i32_w]
                  rfl
                refine last_ (i := 10) (N := some 112) #[true, true, true, true, true, true, true, true, true, true, true, false, false] rfl rfl (by kernel_rfl) (by decide) (fun K hK => ?_)
                refine value_ (w1 := wr.drew.setRow u.heap.size (rowN l n (k + 1))) (v := .int .i64 lb.length) (by rfl) rfl ?hrun ?_
                case hrun =>
                  go_simp
                  rw [if_neg (by have := HS1.out; omega), copy_rep wr.drew u.heap.size l lb n k j (n - j) (n - j) rb cap cs fz hlt' hesc hq hroom HW.out HRB.out HCS.out (by have := HS1.out; omega)]
                  rfl
                refine hK.out _ _ ?_
                clear hK K
                refine norm_ (a' := ?_) ?_ ?_
                rotate_left
                · show Act.put _ (some 112) _ = _
                  simp only [Act.put, List.setIfInBounds_toArray, List.set_cons_zero, List.set_cons_succ, i64_w, i32_w]
                  rfl
                refine pure_ (i := 11) (N := some 113) (v := ?_) (a' := ?_) #[true, true, true, true, true, true, true, true, true, true, true, true, false] rfl rfl (by kernel_rfl) (fun _ _ _ h => h) (Or.inl ⟨by rfl, ?_⟩) ?_ ?_
                rotate_left
                · intro w'
                  go_simp
                  with_reducible rfl
                rotate_left
                · simp only [Act.put, List.setIfInBounds_toArray, List.set_cons_zero, List.set_cons_succ, i64_w, i32_w]
                  rfl
                refine pure_ (i := 12) (N := some 13) (v := ?_) (a' := ?_) #[true, true, true, true, true, true, true, true, true, true, true, true, true] rfl rfl (by kernel_rfl) (fun _ _ _ h => h) (Or.inl ⟨by rfl, ?_⟩) ?_ ?_
                rotate_left
                · intro w'
                  go_simp
                  with_reducible rfl
                rotate_left
                · simp only [Act.put, List.setIfInBounds_toArray, List.set_cons_zero, List.set_cons_succ, i64_w, i32_w]
                  rfl
                refine done_ (by kernel_rfl) ?_
                have HW2 := Aside0.mk (setRow_heap wr.drew u.heap.size (rowN l n k) (rowN l n (k + 1)) 5 (0, 0) HW.out)
                have HBl2 := Aside0.mk (pg_below_row (pg_below_drew HBl.out) (Nat.le_refl _) (rowN l n (k + 1)))
                clear HW HBl HRB HCS hBr
                rw [if_neg (show ¬ n = j by have := HS1.out; omega), show wrap64 ((j : Int) + (lb.length : Int)) = (j : Int) + lb.length by unfold wrap64; omega]
                go_wp2
                go_roundg k1
                case measure => omega
                case rel => exact ⟨k + 1, by omega, by go_num, by rw [HS1.out]; go_num, HW2, HBl2⟩
      | succ k1 =>
        have hlt : (t : Int) < 5 := by omega
        have ct : wr.cell? ⟨rg, t, none⟩ = some (.string ⟨#[keyOf (4 - t)]⟩) := by
          obtain ⟨rg', hr', hcell⟩ := five_cells HBw.out.row
          cases hr'
          exact hcell t (by omega)
        go_wp2_with (go_at_call 116; refine (Tryz.strings_Count_one _ _ _).mono ?_; rintro e w' ⟨rfl, hw⟩; rw [hw]; clear hw w')
        · have hkt : (keyOf (4 - t)).toNat < 256 := (keyOf (4 - t)).toNat_lt
          have hlt256 : (((keyOf (4 - t)).toNat : Nat) : Int) < 256 := by omega
          have hrep := HBw.out.rep (keyOf (4 - t)).toNat hkt
          rw [rep_key t (by omega)] at hrep
          obtain ⟨rb, cap, hc0, hcap, _, _⟩ := hrep
          have ca : wr.cell? ⟨g, (keyOf (4 - t)).toNat, none⟩ = some (.slice (some ⟨rb, 0, none⟩) (valOf (4 - t)).length cap) := (blk_cell HBw.out.blk _).trans hc0
          clear hc0
          refine start_ (n := 14) (S := fun w' => w' = wr.drew) (ds := []) #[false, false, false, false, false, false, false, false, false, false, false, false, false, false] (by kernel_rfl) rfl rfl rfl (fun hHeld => ?_)
          refine pure_ (i := 0) (N := some 41) (v := ?_) (a' := ?_) #[true, false, false, false, false, false, false, false, false, false, false, false, false, false] rfl rfl (by kernel_rfl) (fun _ _ _ h => h) (Or.inl ⟨by rfl, ?_⟩) ?_ ?_
          rotate_left
          · intro w'
            go_simp
            with_reducible rfl
          rotate_left
          · simp only [Act.put, List.setIfInBounds_toArray, List.set_cons_zero, List.set_cons_succ, i64_w, i32_w]
            rfl
          refine pure_ (i := 1) (N := some 42) (v := ?_) (a' := ?_) #[true, true, false, false, false, false, false, false, false, false, false, false, false, false] rfl rfl (by kernel_rfl) (fun _ _ _ h => h) (Or.inl ⟨by rfl, ?_⟩) ?_ ?_
          rotate_left
          · intro w'
            go_simp
            with_reducible rfl
          rotate_left
          · simp only [Act.put, List.setIfInBounds_toArray, List.set_cons_zero, List.set_cons_succ, i64_w, i32_w]
            rfl
          refine pure_ (i := 2) (N := some 43) (v := ?_) (a' := ?_) #[true, true, true, false, false, false, false, false, false, false, false, false, false, false] rfl rfl (by kernel_rfl) (fun _ _ _ h => h) (Or.inl ⟨by rfl, ?_⟩) ?_ ?_
          rotate_left
          · intro w'
            go_simp
            with_reducible rfl
          rotate_left
          · simp only [Act.put, List.setIfInBounds_toArray, List.set_cons_zero, List.set_cons_succ, i64_w, i32_w]
            rfl
          refine pure_ (i := 3) (N := some 44) (v := ?_) (a' := ?_) #[true, true, true, true, false, false, false, false, false, false, false, false, false, false] rfl rfl (by kernel_rfl) (fun _ _ _ h => h) (Or.inl ⟨by rfl, ?_⟩) ?_ ?_
          rotate_left
          · intro w'
            go_simp
            with_reducible rfl
          rotate_left
          · simp only [Act.put, List.setIfInBounds_toArray, List.set_cons_zero, List.set_cons_succ, i64_w, i32_w]
            rfl
          refine pure_ (i := 4) (N := some 45) (v := ?_) (a' := ?_) #[true, true, true, true, true, false, false, false, false, false, false, false, false, false] rfl rfl (by kernel_rfl) (fun _ _ _ h => h) (Or.inl ⟨by rfl, ?_⟩) ?_ ?_
          rotate_left
          · intro w'
            go_simp
            with_reducible rfl
          rotate_left
          · simp only [Act.put, List.setIfInBounds_toArray, List.set_cons_zero, List.set_cons_succ, i64_w, i32_w]
            rfl
          refine pure_ (i := 5) (N := some 46) (v := ?_) (a' := ?_) #[true, true, true, true, true, true, false, false, false, false, false, false, false, false] rfl rfl (by kernel_rfl) (fun _ _ _ h => h) (Or.inl ⟨by rfl, ?_⟩) ?_ ?_
          rotate_left
          · intro w'
            go_simp
            with_reducible rfl
          rotate_left
          · simp only [Act.put, List.setIfInBounds_toArray, List.set_cons_zero, List.set_cons_succ, i64_w, i32_w]
            rfl
          refine pure_ (i := 6) (N := some 47) (v := ?_) (a' := ?_) #[true, true, true, true, true, true, true, false, false, false, false, false, false, false] rfl rfl (by kernel_rfl) (fun _ _ _ h => h) (Or.inl ⟨by rfl, ?_⟩) ?_ ?_
          rotate_left
          · intro w'
            go_simp
            with_reducible rfl
          rotate_left
          · simp only [Act.put, List.setIfInBounds_toArray, List.set_cons_zero, List.set_cons_succ, i64_w, i32_w]
            rfl
          refine pure_ (i := 7) (N := some 48) (v := ?_) (a' := ?_) #[true, true, true, true, true, true, true, true, false, false, false, false, false, false] rfl rfl (by kernel_rfl) (fun _ _ _ h => h) (Or.inl ⟨by rfl, ?_⟩) ?_ ?_
          rotate_left
          · intro w'
            go_simp
            with_reducible rfl
          rotate_left
          · simp only [Act.put, List.setIfInBounds_toArray, List.set_cons_zero, List.set_cons_succ, i64_w, i32_w]
            rfl
          refine take_ (i := 8) (N := some 49) (v := ?_) (a' := ?_) #[true, true, true, true, true, true, true, true, true, false, false, false, false, false] rfl rfl (by kernel_rfl) (fun _ _ _ h => h) (Or.inl ⟨by rfl, ?_⟩) hHeld ?_ ?_
          rotate_left
          · rintro w' rfl
            go_simp
            with_reducible rfl
          rotate_left
          · simp only [Act.put, List.setIfInBounds_toArray, List.set_cons_zero, List.set_cons_succ, i64_w, i32_w]
            rfl
          refine pure_ (i := 9) (N := some 50) (v := ?_) (a' := ?_) #[true, true, true, true, true, true, true, true, true, true, false, false, false, false] rfl rfl (by kernel_rfl) (fun _ _ _ h => h) (Or.inl ⟨by rfl, ?_⟩) ?_ ?_
          rotate_left
          · intro w'
            go_simp
            with_reducible rfl
          rotate_left
          · simp only [Act.put, List.setIfInBounds_toArray, List.set_cons_zero, List.set_cons_succ, i64_w, i32_w]
            rfl
          refine pure_ (i := 10) (N := some 51) (v := ?_) (a' := ?_) #[true, true, true, true, true, true, true, true, true, true, true, false, false, false] rfl rfl (by kernel_rfl) (fun _ _ _ h => h) (Or.inl ⟨by rfl, ?_⟩) ?_ ?_
          rotate_left
          · intro w'
            go_simp
            with_reducible rfl
          rotate_left
          · simp only [Act.put, List.setIfInBounds_toArray, List.set_cons_zero, List.set_cons_succ, i64_w, i32_w]
            rfl
          refine pure_ (i := 11) (N := some 52) (v := ?_) (a' := ?_) #[true, true, true, true, true, true, true, true, true, true, true, true, false, false] rfl rfl (by kernel_rfl) (fun _ _ _ h => h) (Or.inl ⟨by rfl, ?_⟩) ?_ ?_
          rotate_left
          · intro w'
            go_simp
            with_reducible rfl
          rotate_left
          · simp only [Act.put, List.setIfInBounds_toArray, List.set_cons_zero, List.set_cons_succ, i64_w, i32_w]
            rfl
          refine pure_ (i := 12) (N := some 53) (v := ?_) (a' := ?_) #[true, true, true, true, true, true, true, true, true, true, true, true, true, false] rfl rfl (by kernel_rfl) (fun _ _ _ h => h) (Or.inl ⟨by rfl, ?_⟩) ?_ ?_
          rotate_left
          · intro w'
            go_simp
            with_reducible rfl
          rotate_left
          · simp only [Act.put, List.setIfInBounds_toArray, List.set_cons_zero, List.set_cons_succ, i64_w, i32_w]
            rfl
          refine pure_ (i := 13) (N := some 5) (v := ?_) (a' := ?_) #[true, true, true, true, true, true, true, true, true, true, true, true, true, true] rfl rfl (by kernel_rfl) (fun _ _ _ h => h) (Or.inl ⟨by rfl, ?_⟩) ?_ ?_
          rotate_left
          · intro w'
            go_simp
            with_reducible rfl
          rotate_left
          · simp only [Act.put, List.setIfInBounds_toArray, List.set_cons_zero, List.set_cons_succ, i64_w, i32_w]
            rfl
          refine done_ (by kernel_rfl) ?_
          rw [siz_step l t (by omega) hl]
          have HBa2 := Aside0.mk (pg_below_drew HBa.out)
          have hany := any_yes l t (by assumption)
          clear HBa
          go_wp2
          go_roundg k1
          case measure => omega
          case rel => exact ⟨t + 1, by omega, by go_num, rfl, by rw [hany], HBa2⟩
        · have hz := count_zero l t (by assumption)
          go_roundg k1
          case measure => omega
          case rel => exact ⟨t + 1, by omega, by go_num, by rw [hz.1], by rw [hz.2], HBa⟩
  · have h40' : (l.length : Int) < 40 := by omega
    clear h40
    go_enter Tryz.func114, Tryz.ntmps114
    go_wp2
    go_loopg [5, 6, 10, 11] l.length (fun kq v5 v6 v10 v11 w2 => ∃ (k : Nat), k + kq = l.length ∧ v10 = .int .i64 k ∧ v5 = .int .i64 (((escL (l.take k)).length : Int) + ((l.length : Int) - (k : Int))) ∧ v6 = .bool ((l.take k).any keyB) ∧ w = w2)
    case atStart => exact ⟨0, by simp, rfl, by simp [escL], rfl, rfl⟩
    case round =>
      obtain ⟨k, hk, rfl, rfl, rfl, rfl⟩ := hrel
      cases gk with
      | zero =>
        have hge : ¬ ((k : Int) < (l.length : Int)) := by omega
        have hkl : k = l.length := by omega
        subst hkl
        rw [List.take_of_length_le (Nat.le_refl _)]
        cases hany : l.any keyB with
        | false =>
          have HS := Aside0.mk (escL_same l hany)
          go_wp2
          go_ret
          exact ⟨by rw [HS.out]; rfl, Below.refl _ _⟩
        | true =>
          have hle := escL_len l
          obtain ⟨n, hn⟩ : ∃ n, n = (escL l).length := ⟨_, rfl⟩
          rw [← hn] at hle ⊢
          have HN := Aside0.mk hn
          have hmk := fun u => makeB (l := l) u n (by omega)
          have hnn : (n : Int) + ((l.length : Int) - (l.length : Int)) = n := by omega
          rw [hnn]
          clear hn hnn hany
          go_wp2
          have HW := Aside0.mk (show (w.alloc (.cells (rowN l n 0) 5)).heap[w.heap.size]? = some (.cells (rowN l n 0) 5 (0, 0)) from blk_new w _)
          have HBl := Aside0.mk (below_alloc (Below.refl w.heap.size w) (.cells (rowN l n 0) 5))
          clear hmk
          go_loopg [13, 14, 15] l.length (fun kq v13 v14 v15 w2 => ∃ (k : Nat), k + kq = l.length ∧ v14 = .int .i64 k ∧ v13 = .int .i64 (escL (l.take k)).length ∧ Aside0 (w2.heap[w.heap.size]? = some (.cells (rowN l n k) 5 (0, 0))) ∧ Aside0 (Below w.heap.size w w2))
          case atStart => exact ⟨0, by simp, rfl, by simp [escL], HW, HBl⟩
          case round =>
            clear HW HBl
            obtain ⟨k, hk, rfl, rfl, HW, HBl⟩ := hrel
            cases gk with
            | zero =>
              have hge : ¬ ((k : Int) < (l.length : Int)) := by omega
              have hkl : k = l.length := by omega
              subst hkl
              have hcv := fun u h => conv_row u w.heap.size n (escL l) (HN.out) h
              have hrow := hcv _ (show wr.heap[w.heap.size]? = some (.cells (Lib.byteCells (escL l)).toArray 5 (0, 0)) by
                rw [HW.out]
                unfold rowN
                rw [List.take_of_length_le (Nat.le_refl _), ← HN.out, Nat.sub_self, List.replicate_zero, List.append_nil])
              clear hcv
              go_wp2
              go_ret
              exact ⟨rfl, HBl.out⟩
            | succ k1 =>
              have hlt : (k : Int) < (l.length : Int) := by omega
              have hlt' : k < l.length := by omega
              have hs1 := size_step l k hlt'
              have hb1 := escL_len (l.take k)
              rw [List.length_take] at hb1
              have hb2 := escB_len l[k]
              have hrep := HB.out.rep l[k].toNat (l[k].toNat_lt)
              have hlt256 : ((l[k].toNat : Nat) : Int) < 256 := by have := l[k].toNat_lt; omega
              have hroom : (escL (l.take (k + 1))).length ≤ n := by rw [HN.out]; exact escL_take_le l (k + 1)
              have hBr := HB.out.below HBl.out
              have hrep := hBr.rep l[k].toNat (l[k].toNat_lt)
              rcases ho : repOf 0 l[k].toNat with _ | lb
              · rw [ho] at hrep
                have hesc : escB l[k] = [l[k]] := by unfold escB; rw [ho]; rfl
                rw [hesc] at hs1
                have ca : wr.cell? ⟨g, l[k].toNat, none⟩ = some (.slice none 0 0) := (blk_cell hBr.blk _).trans hrep
                have HROW := Aside0.mk (rowN_put l n k hlt' hesc hroom)
                have cb : wr.cell? ⟨w.heap.size, (escL (l.take k)).length, none⟩ = some (.int .u8 0) := (blk_cell HW.out _).trans (rowN_zero l n k (by simp at hs1; omega))
                have fb := blk_frozen HW.out (escL (l.take k)).length
                have HS1 := Aside0.mk (show (escL (l.take (k + 1))).length = (escL (l.take k)).length + 1 from hs1)
                clear hrep ho hs1 hb2
                generalize hq : (escL (l.take k)).length = j at *
                have HBl2 := Aside0.mk (HBl.out.setCell (p := ⟨w.heap.size, j, none⟩) (Nat.le_refl _) (.int .u8 l[k].toNat))
                have HW2 := Aside0.mk (blk_put HW.out j (.int .u8 l[k].toNat) HROW.out)
                have hj : j < n := by have := HS1.out; omega
                clear HBl HW HROW hBr hroom
                go_wp2
                go_roundg k1
                case measure => omega
                case rel => exact ⟨k + 1, by omega, by go_num, by rw [HS1.out]; go_num, HW2, HBl2⟩
              · rw [ho] at hrep
                have hesc : escB l[k] = lb := by unfold escB; rw [ho]; rfl
                rw [hesc] at hs1 hb2
                obtain ⟨rb, cap, hcell, hcap, hrb, cs, fz, hrbk, hcs⟩ := hrep
                have ca : wr.cell? ⟨g, l[k].toNat, none⟩ = some (.slice (some ⟨rb, 0, none⟩) lb.length cap) := (blk_cell hBr.blk _).trans hcell
                have HS1 := Aside0.mk hs1
                have HCS := Aside0.mk hcs
                have HRB := Aside0.mk hrbk
                have hjn : (escL (l.take k)).length ≤ n := by omega
                have hn6 : n ≤ 6000000000000 := by omega
                clear hcell ho hs1 hrbk hcs
                generalize hq : (escL (l.take k)).length = j at *
                go_wp2_with fail
                refine start_ (n := 13) (S := fun w' => w' = wr.drew) (ds := [10]) #[false, false, false, false, false, false, false, false, false, false, false, false, false] (by kernel_rfl) rfl rfl rfl (fun hHeld => ?_)
                refine pure_ (i := 0) (N := some 102) (v := ?_) (a' := ?_) #[true, false, false, false, false, false, false, false, false, false, false, false, false] rfl rfl (by kernel_rfl) (fun _ _ _ h => h) (Or.inl ⟨by rfl, ?_⟩) ?_ ?_
                rotate_left
                · intro w'
                  go_simp
                  with_reducible rfl
                rotate_left
                · simp only [Act.put, List.setIfInBounds_toArray, List.set_cons_zero, List.set_cons_succ, i64_w, i32_w]
                  rfl
                refine pure_ (i := 1) (N := some 103) (v := ?_) (a' := ?_) #[true, true, false, false, false, false, false, false, false, false, false, false, false] rfl rfl (by kernel_rfl) (fun _ _ _ h => h) (Or.inl ⟨by rfl, ?_⟩) ?_ ?_
                rotate_left
                · intro w'
                  go_simp
                  with_reducible rfl
                rotate_left
                · simp only [Act.put, List.setIfInBounds_toArray, List.set_cons_zero, List.set_cons_succ, i64_w, i32_w]
                  rfl
                refine pure_ (i := 2) (N := some 104) (v := ?_) (a' := ?_) #[true, true, true, false, false, false, false, false, false, false, false, false, false] rfl rfl (by kernel_rfl) (fun _ _ _ h => h) (Or.inl ⟨by rfl, ?_⟩) ?_ ?_
                rotate_left
                · intro w'
                  go_simp
                  with_reducible rfl
                rotate_left
                · simp only [Act.put, List.setIfInBounds_toArray, List.set_cons_zero, List.set_cons_succ, i64_w, i32_w]
                  rfl
                refine pure_ (i := 3) (N := some 105) (v := ?_) (a' := ?_) #[true, true, true, true, false, false, false, false, false, false, false, false, false] rfl rfl (by kernel_rfl) (fun _ _ _ h => h) (Or.inl ⟨by rfl, ?_⟩) ?_ ?_
                rotate_left
                · intro w'
                  go_simp
                  with_reducible rfl
                rotate_left
                · simp only [Act.put, List.setIfInBounds_toArray, List.set_cons_zero, List.set_cons_succ, i64_w, i32_w]
                  rfl
                refine pure_ (i := 4) (N := some 106) (v := ?_) (a' := ?_) #[true, true, true, true, true, false, false, false, false, false, false, false, false] rfl rfl (by kernel_rfl) (fun _ _ _ h => h) (Or.inl ⟨by rfl, ?_⟩) ?_ ?_
                rotate_left
                · intro w'
                  go_simp
                  with_reducible rfl
                rotate_left
                · simp only [Act.put, List.setIfInBounds_toArray, List.set_cons_zero, List.set_cons_succ, i64_w, i32_w]
                  rfl
                refine pure_ (i := 5) (N := some 107) (v := ?_) (a' := ?_) #[true, true, true, true, true, true, false, false, false, false, false, false, false] rfl rfl (by kernel_rfl) (fun _ _ _ h => h) (Or.inl ⟨by rfl, ?_⟩) ?_ ?_
                rotate_left
                · intro w'
                  go_simp
                  with_reducible rfl
                rotate_left
                · simp only [Act.put, List.setIfInBounds_toArray, List.set_cons_zero, List.set_cons_succ, i64_w, i32_w]
                  rfl
                refine pure_ (i := 6) (N := some 108) (v := ?_) (a' := ?_) #[true, true, true, true, true, true, true, false, false, false, false, false, false] rfl rfl (by kernel_rfl) (fun _ _ _ h => h) (Or.inl ⟨by rfl, ?_⟩) ?_ ?_
                rotate_left
                · intro w'
                  go_simp
                  with_reducible rfl
                rotate_left
                · simp only [Act.put, List.setIfInBounds_toArray, List.set_cons_zero, List.set_cons_succ, i64_w, i32_w]
                  rfl
                refine pure_ (i := 7) (N := some 109) (v := ?_) (a' := ?_) #[true, true, true, true, true, true, true, true, false, false, false, false, false] rfl rfl (by kernel_rfl) (fun _ _ _ h => h) (Or.inl ⟨by rfl, ?_⟩) ?_ ?_
                rotate_left
                · intro w'
                  go_simp
                  with_reducible rfl
                rotate_left
                · simp only [Act.put, List.setIfInBounds_toArray, List.set_cons_zero, List.set_cons_succ, i64_w, i32_w]
                  rfl
                refine pure_ (i := 8) (N := some 110) (v := ?_) (a' := ?_) #[true, true, true, true, true, true, true, true, true, false, false, false, false] rfl rfl (by kernel_rfl) (fun _ _ _ h => h) (Or.inl ⟨by rfl, ?_⟩) ?_ ?_
                rotate_left
                · intro w'
                  go_simp
                  with_reducible rfl
                rotate_left
                · simp only [Act.put, List.setIfInBounds_toArray, List.set_cons_zero, List.set_cons_succ, i64_w, i32_w]
                  rfl
                refine take_ (i := 9) (N := some 111) (v := ?_) (a' := ?_) #[true, true, true, true, true, true, true, true, true, true, false, false, false] rfl rfl (by kernel_rfl) (fun _ _ _ h => h) (Or.inl ⟨by rfl, ?_⟩) hHeld ?_ ?_
                rotate_left
                · rintro w' rfl
                  go_simp
                  with_reducible rfl
                rotate_left
                · simp only [Act.put, List.setIfInBounds_toArray, List.set_cons_zero, List.set_cons_succ, i64_w, i32_w]
                  rfl
                refine last_ (i := 10) (N := some 112) #[true, true, true, true, true, true, true, true, true, true, true, false, false] rfl rfl (by kernel_rfl) (by decide) (fun K hK => ?_)
                refine value_ (w1 := wr.drew.setRow w.heap.size (rowN l n (k + 1))) (v := .int .i64 lb.length) (by rfl) rfl ?hrun ?_
                case hrun =>
                  go_simp
                  rw [if_neg (by have := HS1.out; omega), copy_rep wr.drew w.heap.size l lb n k j (n - j) (n - j) rb cap cs fz hlt' hesc hq hroom HW.out HRB.out HCS.out (by have := HS1.out; omega)]
                  rfl
                refine hK.out _ _ ?_
                clear hK K
                refine norm_ (a' := ?_) ?_ ?_
                rotate_left
                · show Act.put _ (some 112) _ = _
                  simp only [Act.put, List.setIfInBounds_toArray, List.set_cons_zero, List.set_cons_succ, i64_w, i32_w]
                  rfl
                refine pure_ (i := 11) (N := some 113) (v := ?_) (a' := ?_) #[true, true, true, true, true, true, true, true, true, true, true, true, false] rfl rfl (by kernel_rfl) (fun _ _ _ h => h) (Or.inl ⟨by rfl, ?_⟩) ?_ ?_
                rotate_left
                · intro w'
                  go_simp
                  with_reducible rfl
                rotate_left
                · simp only [Act.put, List.setIfInBounds_toArray, List.set_cons_zero, List.set_cons_succ, i64_w, i32_w]
                  rfl
                refine pure_ (i := 12) (N := some 13) (v := ?_) (a' := ?_) #[true, true, true, true, true, true, true, true, true, true, true, true, true] rfl rfl (by kernel_rfl) (fun _ _ _ h => h) (Or.inl ⟨by rfl, ?_⟩) ?_ ?_
                rotate_left
                · intro w'
                  go_simp
                  with_reducible rfl
                rotate_left
                · simp only [Act.put, List.setIfInBounds_toArray, List.set_cons_zero, List.set_cons_succ, i64_w, i32_w]
                  rfl
                refine done_ (by kernel_rfl) ?_
                have HW2 := Aside0.mk (setRow_heap wr.drew w.heap.size (rowN l n k) (rowN l n (k + 1)) 5 (0, 0) HW.out)
                have HBl2 := Aside0.mk (pg_below_row (pg_below_drew HBl.out) (Nat.le_refl _) (rowN l n (k + 1)))
                clear HW HBl HRB HCS hBr
                rw [if_neg (show ¬ n = j by have := HS1.out; omega), show wrap64 ((j : Int) + (lb.length : Int)) = (j : Int) + lb.length by unfold wrap64; omega]
                go_wp2
                go_roundg k1
                case measure => omega
                case rel => exact ⟨k + 1, by omega, by go_num, by rw [HS1.out]; go_num, HW2, HBl2⟩
      | succ k1 =>
        have hlt : (k : Int) < (l.length : Int) := by omega
        have hlt' : k < l.length := by omega
        have hs1 := size_step l k hlt'
        have hs2 := any_step l k hlt'
        have hb1 := escL_len (l.take k)
        rw [List.length_take] at hb1
        have hb2 := escB_len l[k]
        have hrep := HB.out.rep l[k].toNat (l[k].toNat_lt)
        have hlt256 : ((l[k].toNat : Nat) : Int) < 256 := by have := l[k].toNat_lt; omega
        unfold escB at hs1 hb2
        rw [show keyB l[k] = (repOf 0 l[k].toNat).isSome from rfl] at hs2
        generalize (escL (l.take k)).length = n0 at *
        generalize (l.take k).any keyB = a0 at *
        have hn1 : (escL (l.take (k + 1))).length = n0 + ((repOf 0 l[k].toNat).getD [l[k]]).length := hs1
        have ha1 : (l.take (k + 1)).any keyB = (a0 || (repOf 0 l[k].toNat).isSome) := hs2
        clear hs1 hs2
        rcases ho : repOf 0 l[k].toNat with _ | lb
        · rw [ho] at hrep hn1 ha1 hb2
          have ca : w.cell? ⟨g, l[k].toNat, none⟩ = some (.slice none 0 0) := (blk_cell HB.out.blk _).trans hrep
          have HN1 := Aside0.mk (show (escL (l.take (k + 1))).length = n0 + 1 from hn1)
          have HA1 := Aside0.mk (show (l.take (k + 1)).any keyB = a0 by rw [ha1]; simp)
          clear hrep hn1 ha1 ho hb2
          go_wp2
          go_roundg k1
          case measure => omega
          case rel => exact ⟨k + 1, by omega, by go_num, by rw [HN1.out]; go_num, by rw [HA1.out], rfl⟩
        · rw [ho] at hrep hn1 ha1 hb2
          obtain ⟨rb, cap, hcell, hcap, _, _⟩ := hrep
          have ca : w.cell? ⟨g, l[k].toNat, none⟩ = some (.slice (some ⟨rb, 0, none⟩) lb.length cap) := (blk_cell HB.out.blk _).trans hcell
          have HN1 := Aside0.mk (show (escL (l.take (k + 1))).length = n0 + lb.length from hn1)
          have HA1 := Aside0.mk (show (l.take (k + 1)).any keyB = true by rw [ha1]; simp)
          have hb3 : 1 ≤ lb.length ∧ lb.length ≤ 6 := hb2
          clear hcell hn1 ha1 ho hb2
          go_wp2
          go_roundg k1
          case measure => omega
          case rel => exact ⟨k + 1, by omega, by go_num, by rw [HN1.out]; go_num, by rw [HA1.out], rfl⟩
end Go.Proofs.YtllgcpoljdjjnaaGreat.Pg
