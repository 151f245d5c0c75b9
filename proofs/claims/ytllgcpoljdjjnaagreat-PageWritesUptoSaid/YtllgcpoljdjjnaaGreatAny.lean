/- strings.IndexRune at a rune of 128 and more over ASCII, and strings.IndexAny at any bytes, its chars ASCII: the walks. -/
import Derived.Test.YtllgcpoljdjjnaaGreatShelf
import Derived.Test.YtllgcpoljdjjnaaGreatBsr
import Derived.Laws.RangeAny
import Derived.Laws.Runes
import Derived.Lib.RuneCount
import Derived.Lib.OthersKept
set_option linter.unusedVariables false
set_option linter.unusedSimpArgs false
namespace Go.Proofs.YtllgcpoljdjjnaaGreat.Pg
open Go.RowKit Go.Proofs.YtllgcpoljdjjnaaGreatW.PrintWords Go.Proofs.YtllgcpoljdjjnaaGreatW.PrintLast Go.Proofs.YtllgcpoljdjjnaaGreatW.PrintMore

/-- All bytes of a rune that begins with a high byte are high. -/
theorem decode_span (s : ByteArray) (pos : Nat) (h : pos < s.size) (ha : 128 ≤ (s[pos]'h).toNat) (k : Nat) (hk : k < (Utf8.decode s pos).2) : pos + k < s.size ∧ 128 ≤ (s.get! (pos + k)).toNat := by
  have p0 : pos + 0 < s.size ∧ 128 ≤ (s.get! (pos + 0)).toNat := by
    rw [get_at s pos h]
    exact ⟨h, ha⟩
  have c : ∀ j, (decide (pos + j < s.size) && (s.get! (pos + j)).toNat / 64 == 2) = true → pos + j < s.size ∧ 128 ≤ (s.get! (pos + j)).toNat := by
    intro j hj
    simp only [Bool.and_eq_true, decide_eq_true_eq, beq_iff_eq] at hj
    exact ⟨hj.1, by omega⟩
  have z : k = 0 → pos + k < s.size ∧ 128 ≤ (s.get! (pos + k)).toNat := fun e => by rw [e]; exact p0
  unfold Utf8.decode at hk
  simp only at hk
  split at hk
  · exact z (by omega)
  · split at hk
    · rename_i h1
      rw [Bool.and_eq_true] at h1
      have q1 := c 1 h1.2
      split at hk
      · have : k = 0 ∨ k = 1 := by omega
        rcases this with rfl | rfl
        · exact p0
        · exact q1
      · exact z (by omega)
    · split at hk
      · rename_i h1
        rw [Bool.and_eq_true, Bool.and_eq_true] at h1
        have q1 := c 1 h1.1.2
        have q2 := c 2 h1.2
        split at hk
        · have : k = 0 ∨ k = 1 ∨ k = 2 := by omega
          rcases this with rfl | rfl | rfl
          · exact p0
          · exact q1
          · exact q2
        · exact z (by omega)
      · split at hk
        · rename_i h1
          rw [Bool.and_eq_true, Bool.and_eq_true, Bool.and_eq_true] at h1
          have q1 := c 1 h1.1.1.2
          have q2 := c 2 h1.1.2
          have q3 := c 3 h1.2
          split at hk
          · have : k = 0 ∨ k = 1 ∨ k = 2 ∨ k = 3 := by omega
            rcases this with rfl | rfl | rfl | rfl
            · exact p0
            · exact q1
            · exact q2
            · exact q3
          · exact z (by omega)
        · exact z (by omega)
theorem decode_valid (s : ByteArray) (pos : Nat) : (Utf8.decode s pos).1 ≤ 1114111 := by
  have hb : ∀ k, (s.get! (pos + k)).toNat < 256 := fun k => (s.get! (pos + k)).toNat_lt
  have h0 := hb 0; have h1 := hb 1; have h2 := hb 2; have h3 := hb 3
  simp only [Utf8.decode]
  repeat' split
  all_goals simp_all [Utf8.runeError, Utf8.valid]
  all_goals omega
theorem span_le (s : ByteArray) (pos : Nat) (h : pos < s.size) (ha : 128 ≤ (s[pos]'h).toNat) : pos + (Utf8.decode s pos).2 ≤ s.size := by
  have h1 := (decode_high s pos h ha).2
  have := (decode_span s pos h ha ((Utf8.decode s pos).2 - 1) (by omega)).1
  omega
theorem noAny_span {s : ByteArray} {chars : List UInt8} {pos : Nat} (hno : Lib.NoAny s.data.toList chars pos) (hc : ∀ c, c ∈ chars → c.toNat < 128) (h : pos < s.size) (ha : 128 ≤ (s[pos]'h).toNat) : Lib.NoAny s.data.toList chars (pos + (Utf8.decode s pos).2) := by
  intro j b hj hb
  by_cases hlt : j < pos
  · exact hno j b hlt hb
  · have sp := decode_span s pos h ha (j - pos) (by omega)
    have e : pos + (j - pos) = j := by omega
    rw [e] at sp
    have hg : s.get! j = b := by
      have h1 := Lib.data_getElem? s j sp.1
      rw [hb] at h1
      have : s.get! j = s[j]'sp.1 := by
        have := get_at s j sp.1
        simpa using this
      rw [this]
      exact (Option.some.inj h1).symm
    rw [hg] at sp
    cases hcb : chars.contains b with
    | false => rfl
    | true =>
      have := hc b (by simpa using hcb)
      omega

theorem indexByte_no (l : List UInt8) (c : UInt8) (h : ∀ b, b ∈ l → b.toNat < 128) (hc : 128 ≤ c.toNat) : Lib.indexByte l c = -1 := by
  induction l with
  | nil => rfl
  | cons b r ih =>
    have hb : (b == c) = false := by
      rw [beq_eq_false_iff_ne]
      intro e
      have := h b List.mem_cons_self
      rw [e] at this
      omega
    unfold Lib.indexByte
    rw [hb, ih (fun x hx => h x (List.mem_cons_of_mem _ hx))]
    rfl
set_option maxRecDepth 100000 in
set_option maxHeartbeats 2000000 in
theorem IndexRune_high (s : ByteArray) (r : Int) (w : World) (h0 : 128 ≤ r) (h1 : r ≤ 1114111) (hs : ∀ b, b ∈ s.data.toList → b.toNat < 128) (hz : s.size < 1000) :
    Calls Tryz.prog 40 #[.string s, .int .i32 r] w fun e w' => e = .returned (.int .i64 (-1)) ∧ Below w.heap.size w w' := by
  have HS := Aside0.mk hs
  by_cases he : r = 65533
  · subst he
    go_enter Tryz.func40, Tryz.ntmps40
    go_wp2
    go_loopg [5, 6] s.size (fun g _ _ wx => ∃ i : Nat, i + g = s.size ∧ wx = w.iter s i)
    case atStart => exact ⟨0, by omega, rfl⟩
    case round =>
      obtain ⟨i, hig, rfl⟩ := hrel
      cases gk with
      | zero =>
        obtain rfl : i = s.size := by omega
        have hnx := run_next_end (P := Tryz.prog) w s s.size
        go_wp2
        go_ret
        exact ⟨rfl, (Below.refl _ _).alloc (Nat.le_refl _) _⟩
      | succ g =>
        have hi : i < s.size := by omega
        obtain ⟨x, hx⟩ : ∃ x : UInt8, s[i]'hi = x := ⟨_, rfl⟩
        have hx128 : x.toNat < 128 := HS.out x (by rw [← hx]; exact List.mem_of_getElem? (Lib.data_getElem? s i hi))
        have hnx := fun ty => run_next_ascii (P := Tryz.prog) w s i ty hi (by rw [hx]; exact hx128)
        rw [hx] at hnx
        have hne : ¬ (x.toNat : Int) = 65533 := by omega
        clear hx
        go_wp2
        go_roundg g
        case measure => omega
        case rel => exact ⟨i + 1, by omega, rfl⟩
  · cases hv : Lib.validRune r with
    | false =>
      go_enter Tryz.func40, Tryz.ntmps40
      go_wp2_with (go_at_call 50; refine (Tryz.utf8_ValidRune _ _).mono ?_; rintro e w' ⟨rfl, hw⟩; rw [hw, hv]; clear hw w')
      go_ret
      exact ⟨rfl, Below.refl _ _⟩
    | true =>
      obtain ⟨q2, q4, q128⟩ := encode_facts r (by rw [validRune_eq]; exact hv) h0
      go_enter Tryz.func40, Tryz.ntmps40
      go_wp2_with (go_at_call 50; refine (Tryz.utf8_ValidRune _ _).mono ?_; rintro e w' ⟨rfl, hw⟩; rw [hw, hv]; clear hw w')
      go_step3
      go_wp2
      rw [show (((Utf8.encode r).size : Int) - 1) = (((Utf8.encode r).size - 1 : Nat) : Int) by omega]
      generalize hrs : Utf8.encode r = rs
      rw [hrs] at q2 q4
      have q128 : ∀ (h : rs.size - 1 < rs.size), 128 ≤ (rs[rs.size - 1]'h).toNat := by subst hrs; exact q128
      clear hrs
      have hr1 : rs.size - 1 < rs.size := by omega
      obtain ⟨m, hm⟩ : ∃ m, m = rs.size - 1 := ⟨_, rfl⟩
      rw [← hm]
      have hmr : m < rs.size := by omega
      obtain ⟨c, hc⟩ : ∃ c : UInt8, rs[m]'hmr = c := ⟨_, rfl⟩
      have hc128 : 128 ≤ c.toNat := by rw [← hc]; subst hm; exact q128 hr1
      have hm4 : m < 4 := by omega
      have hmr' : (m : Int) < (rs.size : Int) := by omega
      clear hm q128 hr1
      go_loopg [9, 10] 0 (fun g v9 v10 wx => v9 = .int .i64 (m : Int) ∧ v10 = .int .i64 0 ∧ wx = w)
      case atStart => exact ⟨rfl, rfl, rfl⟩
      case round =>
        obtain ⟨rfl, rfl, rfl⟩ := hrel
        by_cases hlt : m < s.size
        · have hlt' : (m : Int) < (s.size : Int) := by omega
          obtain ⟨x, hx⟩ : ∃ x : UInt8, s[m]'hlt = x := ⟨_, rfl⟩
          have hx128 : x.toNat < 128 := HS.out x (by rw [← hx]; exact List.mem_of_getElem? (Lib.data_getElem? s m hlt))
          have hne : ¬ (x.toNat : Int) = (c.toNat : Int) := by omega
          go_wp2
          go_step3
          go_wp2
          go_region
          go_wp2
          have hif : 0 ≤ wrap64 ((m : Int) + 1) ∧ wrap64 ((m : Int) + 1) ≤ (s.size : Int) := by unfold wrap64; omega
          refine start_ (n := 9) (S := fun w' => w' = wr.drew.drew) (ds := []) #[false, false, false, false, false, false, false, false, false] (by kernel_rfl) rfl rfl rfl (fun hHeld => ?_)
          refine pure_ (i := 0) (N := some 34) (v := ?_) (a' := ?_) #[true, false, false, false, false, false, false, false, false] rfl rfl (by kernel_rfl) (fun _ _ _ h => h) (Or.inl ⟨by rfl, ?_⟩) ?_ ?_
          rotate_left
          · intro w'
            go_simp
            with_reducible rfl
          rotate_left
          · simp only [Act.put, List.setIfInBounds_toArray, List.set_cons_zero, List.set_cons_succ, i64_w, i32_w]
            rfl
          refine pure_ (i := 1) (N := some 35) (v := ?_) (a' := ?_) #[true, true, false, false, false, false, false, false, false] rfl rfl (by kernel_rfl) (fun _ _ _ h => h) (Or.inl ⟨by rfl, ?_⟩) ?_ ?_
          rotate_left
          · intro w'
            go_simp
            with_reducible rfl
          rotate_left
          · simp only [Act.put, List.setIfInBounds_toArray, List.set_cons_zero, List.set_cons_succ, i64_w, i32_w]
            rfl
          refine pure_ (i := 2) (N := some 36) (v := ?_) (a' := ?_) #[true, true, true, false, false, false, false, false, false] rfl rfl (by kernel_rfl) (fun _ _ _ h => h) (Or.inl ⟨by rfl, ?_⟩) ?_ ?_
          rotate_left
          · intro w'
            go_simp
            with_reducible rfl
          rotate_left
          · simp only [Act.put, List.setIfInBounds_toArray, List.set_cons_zero, List.set_cons_succ, i64_w, i32_w]
            rfl
          refine pure_ (i := 3) (N := some 37) (v := ?_) (a' := ?_) #[true, true, true, true, false, false, false, false, false] rfl rfl (by kernel_rfl) (fun _ _ _ h => h) (Or.inl ⟨by rfl, ?_⟩) ?_ ?_
          rotate_left
          · intro w'
            go_simp
            with_reducible rfl
          rotate_left
          · simp only [Act.put, List.setIfInBounds_toArray, List.set_cons_zero, List.set_cons_succ, i64_w, i32_w]
            rfl
          refine pure_ (i := 4) (N := some 38) (v := ?_) (a' := ?_) #[true, true, true, true, true, false, false, false, false] rfl rfl (by kernel_rfl) (fun _ _ _ h => h) (Or.inl ⟨by rfl, ?_⟩) ?_ ?_
          rotate_left
          · intro w'
            go_simp
            with_reducible rfl
          rotate_left
          · simp only [Act.put, List.setIfInBounds_toArray, List.set_cons_zero, List.set_cons_succ, i64_w, i32_w]
            rfl
          refine pure_ (i := 5) (N := some 39) (v := ?_) (a' := ?_) #[true, true, true, true, true, true, false, false, false] rfl rfl (by kernel_rfl) (fun _ _ _ h => h) (Or.inl ⟨by rfl, ?_⟩) ?_ ?_
          rotate_left
          · intro w'
            go_simp
            with_reducible rfl
          rotate_left
          · simp only [Act.put, List.setIfInBounds_toArray, List.set_cons_zero, List.set_cons_succ, i64_w, i32_w]
            rfl
          refine pure_ (i := 6) (N := some 40) (v := ?_) (a' := ?_) #[true, true, true, true, true, true, true, false, false] rfl rfl (by kernel_rfl) (fun _ _ _ h => h) (Or.inl ⟨by rfl, ?_⟩) ?_ ?_
          rotate_left
          · intro w'
            go_simp
            with_reducible rfl
          rotate_left
          · simp only [Act.put, List.setIfInBounds_toArray, List.set_cons_zero, List.set_cons_succ, i64_w, i32_w]
            rfl
          refine one_ (i := 7) (N := some 41) #[true, true, true, true, true, true, true, true, false] rfl rfl (by kernel_rfl) (by decide) (fun K hK => ?_)
          refine goes_ Tryz.func49 (by kernel_rfl) rfl #[.string (s.extract (wrap64 ((m : Int) + 1)).toNat s.size), .int .u8 c.toNat] (by rfl) rfl rfl (by simp only [List.map_toArray, List.map_cons, List.map_nil]; rfl) ?_
          refine (Tryz.strings_IndexByte _ _ _).mono ?_
          rintro e w' ⟨rfl, hw⟩
          rw [hw, indexByte_no _ _ (fun b hb => HS.out b (mem_extract hb)) (by simpa using hc128)]
          refine ⟨_, rfl, hK.out _ _ rfl fun _ => ?_⟩
          clear hK K hw w'
          refine norm_ (a' := ?_) ?_ ?_
          rotate_left
          · show Act.put _ (some 41) _ = _
            simp only [Act.put, List.setIfInBounds_toArray, List.set_cons_zero, List.set_cons_succ, i64_w, i32_w]
            rfl
          refine pure_ (i := 8) (N := some 11) (v := ?_) (a' := ?_) #[true, true, true, true, true, true, true, true, true] rfl rfl (by kernel_rfl) (fun _ _ _ h => h) (Or.inl ⟨by rfl, ?_⟩) ?_ ?_
          rotate_left
          · intro w'
            go_simp
            with_reducible rfl
          rotate_left
          · simp only [Act.put, List.setIfInBounds_toArray, List.set_cons_zero, List.set_cons_succ, i64_w, i32_w]
            rfl
          refine done_ (by kernel_rfl) ?_
          go_wp2
          go_ret
          exact ⟨rfl, pg_below_drew (pg_below_drew (Below.refl _ _))⟩
        · have hlt' : ¬ (m : Int) < (s.size : Int) := by omega
          go_wp2
          go_ret
          exact ⟨rfl, Below.refl _ _⟩

set_option maxRecDepth 100000 in
set_option maxHeartbeats 2000000 in
theorem IndexAny_short (s chars : ByteArray) (w : World) (h2 : 2 ≤ chars.size) (hz : chars.size < 1000) (h8 : s.size ≤ 8) (hs : ∀ b, b ∈ chars.data.toList → b.toNat < 128) :
    Calls Tryz.prog 35 #[.string s, .string chars] w fun e w' => e = .returned (.int .i64 (Lib.indexAny s.data.toList chars.data.toList)) ∧ Below w.heap.size w w' := by
  have HA := Aside0.mk hs
  clear hs
  have hemp : chars.toList.isEmpty = false := by
    rw [Lib.toList_data]
    cases h : chars.data.toList with
    | nil => have := Lib.size_eq chars; rw [h, List.length_nil] at this; omega
    | cons _ _ => rfl
  have hn1 : ((chars.size : Int) == 1) = false := beq_eq_false_iff_ne.2 (by omega)
  have h8z : decide ((8 : Int) < (s.size : Int)) = false := decide_eq_false (by omega)
  go_enter Tryz.func35, Tryz.ntmps35
  go_wp2_with (go_at_call 41; refine (Tryz.strings_shouldUseASCIISet _ _).mono ?_; rintro e w' ⟨rfl, hw⟩; rw [hw, h8z]; clear hw w')
  go_loopg [9, 10] s.size (fun g _ _ wx => ∃ i : Nat, i ≤ s.size ∧ s.size ≤ i + g ∧ wx.heap[w.heap.size]? = some (.stringIter s i) ∧ Aside0 (Below w.heap.size w wx) ∧ Lib.NoAny s.data.toList chars.data.toList i)
  case atStart => exact ⟨0, by omega, by omega, blk_new w _, Aside0.mk ((Below.refl _ _).alloc (Nat.le_refl _) _), Lib.NoAny.zero _ _⟩
  case round =>
    obtain ⟨i, hi1, hi2, hk, HB, hno⟩ := hrel
    have HN := Aside0.mk hno
    clear hno
    cases gk with
    | zero =>
      obtain rfl : i = s.size := by omega
      have hnx := fun ty => Lib.run_next_end_at (P := Tryz.prog) wr w.heap.size s s.size ty hk (by omega)
      go_wp2
      go_ret
      exact ⟨by rw [Lib.indexAny_none (by rw [← Lib.size_eq]; exact HN.out)]; rfl, HB.out⟩
    | succ g =>
      by_cases hi : i < s.size
      · obtain ⟨x, hx⟩ : ∃ x : UInt8, s[i]'hi = x := ⟨_, rfl⟩
        have hxl : s.data.toList[i]? = some x := by rw [← hx]; exact Lib.data_getElem? s i hi
        have hkl : w.heap.size < wr.heap.size := blk_lt hk
        by_cases hx128 : x.toNat < 128
        · have hnx := fun ty => Lib.run_next_ascii_at (P := Tryz.prog) wr w.heap.size s i ty hk hi (by rw [hx]; exact hx128)
          rw [hx] at hnx
          have Hx := Aside0.mk hxl
          have HK := Aside0.mk (Lib.iterAt_heap wr w.heap.size s i (i + 1) hk)
          have HB1 := Aside0.mk (Lib.below_iterAt HB.out (Nat.le_refl _) s (i + 1))
          clear hxl hx hk HB
          have hcon := Lib.contains_iff_indexByte chars.data.toList x
          have hback : ((x.toNat : Int)).toNat.toUInt8 = x := by simp
          cases hin : chars.data.toList.contains x
          · rw [hin] at hcon
            have hlt : ¬ ((0 : Int) ≤ Lib.indexByte chars.data.toList x) := of_decide_eq_false hcon.symm
            clear hcon
            go_wp2_with (go_at_call 40; refine (Tryz.strings_IndexRune_ascii _ _ _ (by omega) (by omega)).mono ?_; rintro e w' ⟨rfl, hw⟩; rw [hw, hback]; clear hw w')
            go_roundg g
            case measure => omega
            case rel => exact ⟨i + 1, by omega, by omega, HK.out, HB1, HN.out.succ Hx.out hin⟩
          · rw [hin] at hcon
            have hge : (0 : Int) ≤ Lib.indexByte chars.data.toList x := of_decide_eq_true hcon.symm
            clear hcon
            go_wp2_with (go_at_call 40; refine (Tryz.strings_IndexRune_ascii _ _ _ (by omega) (by omega)).mono ?_; rintro e w' ⟨rfl, hw⟩; rw [hw, hback]; clear hw w')
            go_ret
            exact ⟨by rw [Lib.indexAny_hit HN.out Hx.out hin]; rfl, HB1.out⟩
        · have hx1 : 128 ≤ (s[i]'hi).toNat := by rw [hx]; omega
          have hnx := fun ty => Lib.run_next_any_at (P := Tryz.prog) wr w.heap.size s i ty hk hi
          have hspan := Aside0.mk (noAny_span HN.out HA.out hi hx1)
          have hsl := span_le s i hi hx1
          have hd := decode_high s i hi hx1
          have hd2 := decode_valid s i
          generalize Utf8.decode s i = dd at *
          obtain ⟨r, n⟩ := dd
          simp only at hnx hspan hsl hd hd2
          have HK := Aside0.mk (Lib.iterAt_heap wr w.heap.size s i (i + n) hk)
          have HB1 := Aside0.mk (Lib.below_iterAt HB.out (Nat.le_refl _) s (i + n))
          clear hxl hx hk HB
          go_wp2_with (go_at_call 40; refine (IndexRune_high _ _ _ (by omega) (by omega) HA.out hz).mono ?_; rintro e w' ⟨rfl, hb⟩; have HB2 := Aside0.mk hb; clear hb)
          go_roundg g
          case measure => omega
          case rel =>
            refine ⟨i + n, by omega, by omega, (HB2.out.block _ (blk_lt HK.out)).trans HK.out, Aside0.mk (HB1.out.trans (HB2.out.mono HB1.out.size)), hspan.out⟩
      · obtain rfl : i = s.size := by omega
        have hnx := fun ty => Lib.run_next_end_at (P := Tryz.prog) wr w.heap.size s s.size ty hk (by omega)
        go_wp2
        go_ret
        exact ⟨by rw [Lib.indexAny_none (by rw [← Lib.size_eq]; exact HN.out)]; rfl, HB.out⟩

theorem IndexAny_calls (l cs : List UInt8) (w : World) (h2 : 2 ≤ cs.length) (hz : cs.length < 1000) (hl : l.length < 4294967281) (hs : ∀ b, b ∈ cs → b.toNat < 128) :
    Calls Tryz.prog 35 #[.string ⟨l.toArray⟩, .string ⟨cs.toArray⟩] w fun e w' => e = .returned (.int .i64 (Lib.indexAny l cs)) ∧ Below w.heap.size w w' := by
  have e1 : (ByteArray.mk l.toArray).size = l.length := by simp [ByteArray.size]
  have e2 : (ByteArray.mk cs.toArray).size = cs.length := by simp [ByteArray.size]
  by_cases h8 : l.length ≤ 8
  · have h := IndexAny_short ⟨l.toArray⟩ ⟨cs.toArray⟩ w (by omega) (by omega) (by omega) (by simpa using hs)
    simpa using h
  · have h := Tryz.strings_IndexAny_long (fun _ => by kernel_rfl) ⟨l.toArray⟩ ⟨cs.toArray⟩ w (by omega) (by omega) (by omega) (by omega) (fun j b hb => hs b (List.mem_of_getElem? hb))
    refine h.mono ?_
    rintro e w' ⟨h1, h2⟩
    refine ⟨by simpa using h1, ?_⟩
    rw [h2]
    exact ((Below.refl _ _).alloc (Nat.le_refl _) _).alloc (by simp) _
end Go.Proofs.YtllgcpoljdjjnaaGreat.Pg
