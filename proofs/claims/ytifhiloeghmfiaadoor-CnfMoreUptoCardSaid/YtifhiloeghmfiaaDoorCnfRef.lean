/- The document's only and put, told as plain words. -/
import Derived.Test.YtifhiloeghmfiaaDoorCnfWalk
import Derived.Test.YtifhiloeghmfiaaDoorPRx
set_option linter.unusedVariables false
set_option linter.unusedSimpArgs false
namespace Go.Proofs.YtifhiloeghmfiaaDoor.Cnf
open Go.RowKit Go.Proofs.YtifhiloeghmfiaaDoorW.PrintWords Go.Proofs.YtifhiloeghmfiaaDoorW.PrintLast Go.Proofs.YtifhiloeghmfiaaDoorW.PrintMore
open Go.Proofs.YtifhiloeghmfiaaDoor.PR

def sideF (l : Int) : Int := bif decide (l < 0) then -1 else 1
def putR (s : List Int) (l : Int) : Bool × List Int := bif rd s (absI l) == -sideF l then (false, s) else (true, s.set (absI l).toNat (sideF l))
def onlyE : Option Int → Int × Int
  | none => (0, 0)
  | some l => bif l == 0 then (0, 2) else (l, 1)
def passR (s : List Int) (turned : Bool) : List (List Int) → Option (List Int × Bool)
  | [] => some (s, turned)
  | c :: r => bif (onlyE (leftF s c 0)).2 == 2 then none else bif (onlyE (leftF s c 0)).2 == 1 && rd s (absI (onlyE (leftF s c 0)).1) == 0 then passR (putR s (onlyE (leftF s c 0)).1).2 true r else passR s turned r
def fixR (cls : List (List Int)) : Nat → Bool → List Int → Option (Option (List Int))
  | 0, _, _ => none
  | _ + 1, false, s => some (some s)
  | k + 1, true, s => match passR s false cls with
    | none => some none
    | some (s', b) => fixR cls k b s'
def contR (cls : List (List Int)) (k : Nat) : Option (List Int × Bool) → Option (Option (List Int))
  | none => some none
  | some (s', b) => fixR cls k b s'
def putAll (s : List Int) : List Int → Option (List Int)
  | [] => some s
  | l :: r => bif (putR s l).1 then putAll (putR s l).2 r else none
def outR : Option (Option (List Int)) → Option (List Int × Bool)
  | none => none
  | some none => some ([], false)
  | some (some s) => some (outF (s.drop 1) 1, true)
def startR (cls : List (List Int)) (k : Nat) : Option (List Int) → Option (List Int × Bool)
  | none => some ([], false)
  | some s => outR (fixR cls k true s)
def spreadR (k : Nat) (vars : Nat) (cls : List (List Int)) (lits : List Int) : Option (List Int × Bool) := startR cls k (putAll (zerosL (vars + 1)) lits)

theorem w64_in (x : Int) (h : -9223372036854775808 ≤ x ∧ x ≤ 9223372036854775807) : wrap64 x = x := by rw [← i64_w]; exact IntWalk.i64_in x (by omega)
theorem mx_abs (l : Int) (h : -4611686018427387904 ≤ l ∧ l ≤ 4611686018427387904) : mx l (wrap64 (-l)) = absI l := by
  rw [w64_in (-l) (by omega)]
  unfold mx absI
  split <;> split <;> omega

theorem put_link (s : List Int) (l : Int) (h : -4096 ≤ l ∧ l ≤ 4096) (hs : absI l < s.length) : assizeref15_put.f s l = some (putR s l) := by
  have h0 : 0 ≤ absI l := by unfold absI; split <;> omega
  unfold assizeref15_put.f putR sideF
  rw [mx_abs l (by omega), if_pos h0, if_pos hs]
  by_cases hl : l < 0
  · rw [if_pos hl, decide_eq_true hl]
    by_cases he : rd s (absI l) = - -1
    · rw [if_pos he, he]; rfl
    · rw [if_neg he]
      have : (rd s (absI l) == -(bif true then (-1 : Int) else 1)) = false := by simpa using he
      rw [this]; rfl
  · rw [if_neg hl, decide_eq_false hl]
    by_cases he : rd s (absI l) = -1
    · rw [if_pos he, if_pos h0, if_pos hs, he]; rfl
    · rw [if_neg he, if_pos h0, if_pos hs]
      have : (rd s (absI l) == -(bif false then (-1 : Int) else 1)) = false := by simpa using he
      rw [this]; rfl

theorem only_l0 (c s : List Int) (hc : ∀ l ∈ c, -4096 ≤ l ∧ l ≤ 4096 ∧ absI l < s.length) (hl : c.length ≤ 1000) : ∀ (r : Nat) (i : Nat) (one : Int) (k : Nat), i + r = c.length → 2 * r + 1 ≤ k → assizeref15_only.l0 k c s one i = some (onlyE (leftF s (c.drop i) one))
  | 0, i, one, k + 1, hi, hk => by
    unfold assizeref15_only.l0
    rw [if_neg (by omega), List.drop_of_length_le (by omega)]
    unfold leftF onlyE
    by_cases h : one = 0
    · rw [if_pos h, h]; rfl
    · rw [if_neg h]
      have : (one == 0) = false := by simpa using h
      simp only [this, cond_false]
  | r + 1, i, one, k + 2, hi, hk => by
    have hlt : i < c.length := by omega
    have hd : c.drop i = rd c i :: c.drop (i + 1) := by rw [List.drop_eq_getElem_cons hlt]; simp [rd, hlt]
    have hmem : rd c i ∈ c := by simp only [rd, Int.toNat_natCast, List.getD_eq_getElem?_getD, List.getElem?_eq_getElem hlt, Option.getD_some]; exact List.getElem_mem _
    obtain ⟨h1, h2, h3⟩ := hc _ hmem
    rw [hd]
    unfold assizeref15_only.l0 leftF offB
    rw [if_pos (by omega), if_pos (by omega)]
    generalize rd c i = l at *
    have h0 : 0 ≤ absI l := by unfold absI; split <;> omega
    rw [mx_abs l (by omega), if_pos h0, if_pos h3]
    have hw : wrap64 ((i : Int) + 1) = ((i + 1 : Nat) : Int) := by rw [w64_in _ (by omega)]; omega
    have ih1 := only_l0 c s hc hl r (i + 1) one k (by omega) (by omega)
    have ih2 := only_l0 c s hc hl r (i + 1) l k (by omega) (by omega)
    have step : ∀ b : Bool, assizeref15_only.j1 (k + 1) c s one i l b = some (onlyE (bif b then leftF s (c.drop (i + 1)) one else bif one != 0 then none else leftF s (c.drop (i + 1)) l)) := by
      intro b
      unfold assizeref15_only.j1
      rw [hw, ih1, ih2]
      cases b
      · by_cases ho : one = 0
        · rw [if_neg (by decide), if_pos ho, ho]; rfl
        · rw [if_neg (by decide), if_neg ho]
          have : (one != 0) = true := by simpa using ho
          rw [this]; rfl
      · rfl
    by_cases hz : rd s (absI l) = 0
    · rw [if_pos hz, step, hz]; rfl
    · rw [if_neg hz]
      have hz' : (rd s (absI l) != 0) = true := by simpa using hz
      rw [hz', Bool.true_and]
      by_cases hd2 : (decide (rd s (absI l) > 0) != decide (l > 0)) = true
      · rw [if_pos hd2, step]
        have : (decide (0 < rd s (absI l)) != decide (0 < l)) = true := hd2
        rw [this, Bool.true_or]
      · rw [if_neg hd2, step]
        have : (decide (0 < rd s (absI l)) != decide (0 < l)) = false := by simpa using hd2
        rw [this, Bool.false_or]

theorem only_link (c s : List Int) (hc : ∀ l ∈ c, -4096 ≤ l ∧ l ≤ 4096 ∧ absI l < s.length) (hl : c.length ≤ 1000) : assizeref15_only.f 10000 c s = some (onlyE (leftF s c 0)) := by
  have := only_l0 c s hc hl c.length 0 0 10000 (by omega) (by omega)
  exact this
end Go.Proofs.YtifhiloeghmfiaaDoor.Cnf

/- The document's Spread: the walk. -/
namespace Go.Proofs.YtifhiloeghmfiaaDoor.Cnf
open Go.RowKit Go.Proofs.YtifhiloeghmfiaaDoorW.PrintWords Go.Proofs.YtifhiloeghmfiaaDoorW.PrintLast Go.Proofs.YtifhiloeghmfiaaDoorW.PrintMore
open Go.Proofs.YtifhiloeghmfiaaDoor.PR

/-- The document's row of signs, in a world that grew from w0. -/
structure Sg (w0 w : World) (v : Value) (s : List Int) : Prop where
  below : Below w0.heap.size w0 w
  row : Kd.R (Kd.int .i64) 3 w w0.heap.size (fun k => some k = v.ownBlock) v s
theorem Sg.put {w0 w : World} {v : Value} {s : List Int} (h : Sg w0 w v s) (l : Int) (hl : -4096 ≤ l ∧ l ≤ 4096) (hs : absI l < s.length) :
    Calls Tryd.prog 47 #[v, .int .i64 l] w fun e w' => e = .returned (.bool (putR s l).1) ∧ Sg w0 w' v (putR s l).2 := by
  refine (assizeref15_put.calls _ v s l (putR s l).1 (putR s l).2 w0 w h.below h.row (put_link s l hl hs)).mono ?_
  rintro e w' ⟨rfl, h1, h2, _⟩
  exact ⟨rfl, h2, Kd.R_tight rfl h1⟩
theorem Sg.step {w0 w w' : World} {v : Value} {s : List Int} (h : Sg w0 w v s) (hb : Below w.heap.size w w') : Sg w0 w' v s := ⟨h.below.trans (hb.mono h.below.size), Kd.R_below h.row hb⟩
theorem Sg.alloc {w0 w : World} {v : Value} {s : List Int} (h : Sg w0 w v s) (o : Obj) : Sg w0 (w.alloc o) v s := h.step ((Below.refl _ _).alloc (Nat.le_refl _) o)
theorem Sg.cell {w0 w : World} {A : Option Addr} {n c : Nat} {s : List Int} (h : Sg w0 w (.slice A n c) s) (i : Nat) (hi : i < s.length) : ∃ ad, A = some ad ∧ w.cell? (ad.add i) = some (.int .i64 (rd s i)) := by
  have hc := (Kd.R_reads' h.row).2.2
  obtain ⟨ad, e, hx⟩ := Kd.at_int hc i (by omega) (by omega)
  rw [Int.toNat_natCast] at hx
  exact ⟨ad, e, hx⟩
theorem Sg.only {w0 w : World} {A : Option Addr} {n c : Nat} {s : List Int} (h : Sg w0 w (.slice A n c) s) (A0 : Option Addr) (c0 : Nat) (x : List Int) (hx : Kd.C (Kd.int .i64) w A0 x.length x) (hc0 : x.length ≤ c0)
    (hc : ∀ l ∈ x, -4096 ≤ l ∧ l ≤ 4096 ∧ absI l < s.length) (hl : x.length ≤ 1000) :
    Calls Tryd.prog 48 #[.slice A0 x.length c0, .slice A n c] w fun e w' => e = .returned (.tuple #[.int .i64 (onlyE (leftF s x 0)).1, .int .i64 (onlyE (leftF s x 0)).2]) ∧ Sg w0 w' (.slice A n c) s := by
  obtain ⟨h1, h2, h3⟩ := Kd.R_reads' h.row
  subst h1
  refine (assizeref15_only.calls 10000 A0 c0 x A c s (onlyE (leftF s x 0)).1 (onlyE (leftF s x 0)).2 w hx hc0 h3 h2 (only_link x s hc hl)).mono ?_
  rintro e w' ⟨rfl, hb⟩
  exact ⟨rfl, h.step hb⟩
theorem putR_len (s : List Int) (l : Int) : (putR s l).2.length = s.length := by
  unfold putR
  cases rd s (absI l) == -sideF l <;> simp

def Tri (n : Nat) (s : List Int) : Prop := s.length = n ∧ ∀ x ∈ s, x = -1 ∨ x = 0 ∨ x = 1
theorem Tri.put {n : Nat} {s : List Int} (h : Tri n s) (l : Int) : Tri n (putR s l).2 := by
  refine ⟨(putR_len s l).trans h.1, fun x hx => ?_⟩
  unfold putR at hx
  cases hb : (rd s (absI l) == -sideF l) with
  | true => rw [hb] at hx; exact h.2 x hx
  | false =>
    rw [hb] at hx
    rcases List.mem_or_eq_of_mem_set hx with hx | hx
    · exact h.2 x hx
    · rw [hx]
      unfold sideF
      cases decide (l < 0)
      · exact .inr (.inr rfl)
      · exact .inl rfl
theorem Tri.zeros (n : Nat) : Tri n (zerosL n) := ⟨zerosL_length n, fun x hx => .inr (.inl (List.mem_replicate.1 hx).2)⟩

theorem onlyE_cases (o : Option Int) : onlyE o = (0, 0) ∨ onlyE o = (0, 2) ∨ ∃ l, l ≠ 0 ∧ o = some l ∧ onlyE o = (l, 1) := by
  cases o with
  | none => exact .inl rfl
  | some l =>
    by_cases h : l = 0
    · subst h; exact .inr (.inl rfl)
    · have : (l == 0) = false := by simpa using h
      exact .inr (.inr ⟨l, h, rfl, by simp only [onlyE, this, cond_false]⟩)

theorem make3 (u : World) (n : Nat) (hn : n ≤ 100000) : (Instr.makeSlice 25 (.int .i64 (n : Int)) (.int .i64 (n : Int))).run Tryd.prog u =
      .ok (.slice (some ⟨u.heap.size, 0, none⟩) n n) (u.alloc (.cells (nums .i64 (zerosL n)).toArray 3)) := by
  obtain ⟨i0, hi, hz0, hz1, hz2⟩ := info_parts info3
  have h := run_make (P := Tryd.prog) u 25 3 i0 (.int .i64 0) Tryd.underlying25 hi hz0 .i64 .i64 (n : Int) (n : Int) (by omega) (Int.le_refl _) (by rw [hz2]; omega) (by omega)
  rw [h]
  rw [hz1, Int.toNat_natCast, Nat.mul_one]
  have e : madeCells (Value.int .i64 0).cells n = (nums .i64 (zerosL n)).toArray := by
    apply Array.ext'
    rw [show (Value.int .i64 0).cells = #[.int .i64 0] from rfl, toList_madeCells_one]
    simp [nums, zerosL]
  rw [e]
theorem Sg.start (w0 w : World) (hb : Below w0.heap.size w0 w) (n : Nat) (hn : n ≤ 100000) : Sg w0 (w.alloc (.cells (nums .i64 (zerosL n)).toArray 3)) (.slice (some ⟨w.heap.size, 0, none⟩) n n) (zerosL n) := by
  refine ⟨hb.alloc hb.size _, fun k hk => hk.symm, ?_⟩
  have h := OwnRow.lit (R := fun (x : Int) (cs : List Value) => cs = [.int .i64 x]) (e := 3) (size := 1) w w0.heap.size (ps := zerosL n) (inner := nums .i64 (zerosL n)) (Kd.reps_scalar _) hb.size (by rw [zerosL_length]; omega)
  rw [zerosL_length] at h
  exact h

attribute [local go_sem] max2_int max_two
set_option maxRecDepth 100000 in
set_option maxHeartbeats 4000000 in
theorem Spread_calls (K : Nat) (n : Nat) (Ab : Option Addr) (cb : Nat) (A : Option Addr) (c : Nat) (cls : List (List Int)) (Al : Option Addr) (cl : Nat) (lits : List Int) (r1 : List Int) (r2 : Bool) (w : World) (hn : n ≤ 4096)
    (hr : Kd.C KL w A cls.length cls) (hc : cls.length ≤ c) (hlc : cls.length ≤ 131072) (hrl : Kd.C (Kd.int .i64) w Al lits.length lits) (hcl : lits.length ≤ cl) (hll : lits.length ≤ 1000000000000)
    (hfine : ∀ x ∈ cls, x.length ≤ 1000 ∧ ∀ l ∈ x, -4096 ≤ l ∧ l ≤ 4096 ∧ absI l < (n + 1 : Nat)) (hlits : ∀ l ∈ lits, -4096 ≤ l ∧ l ≤ 4096 ∧ absI l < (n + 1 : Nat)) (hfo : spreadR K n cls lits = some (r1, r2)) :
    Calls Tryd.prog 32 #[.int .i64 n, .slice A cls.length c, .slice Ab 0 cb, .slice Al lits.length cl] w fun e w' => ∃ v, e = .returned (.tuple #[v, .bool r2]) ∧
      w'.ownsRow w.heap.size 3 1 v r1.length (nums .i64 r1) ∧ Below w.heap.size w w' := by
  have HR := Aside0.mk hr
  have HRL := Aside0.mk hrl
  have HFINE := Aside0.mk hfine
  have HLITS := Aside0.mk hlits
  have HFO := Aside0.mk (show startR cls K (putAll (zerosL (n + 1)) lits) = some (r1, r2) from hfo)
  clear hr hrl hfo hfine hlits
  have hmk := fun u => make3 u (n + 1) (by omega)
  rw [show ((n + 1 : Nat) : Int) = (n : Int) + 1 by omega] at hmk
  go_enter Tryd.func32, Tryd.ntmps32
  go_wp2
  have SG := Aside0.mk (Sg.start w w (Below.refl _ _) (n + 1) (by omega))
  clear hmk
  have hl0 : Tri (n + 1) (zerosL (n + 1)) := Tri.zeros _
  have HL0 := Aside0.mk hl0
  clear hl0
  generalize zerosL (n + 1) = s0 at *
  go_loopg [11] lits.length (fun kq v11 w2 => ∃ (k : Nat) (s : List Int), k + kq = lits.length ∧ v11 = .int .i64 k ∧ Aside0 (Tri (n + 1) s) ∧ Aside0 (startR cls K (putAll s (lits.drop k)) = some (r1, r2)) ∧ Aside0 (Sg w w2 (.slice (some ⟨w.heap.size, 0, none⟩) (n + 1) (n + 1)) s))
  case atStart => exact ⟨0, s0, by simp, rfl, HL0, HFO, SG⟩
  case round =>
    clear SG HFO HL0
    obtain ⟨k, s, hk, rfl, HL, HFO, SG⟩ := hrel
    cases gk with
    | zero =>
      have hge : ¬ ((k : Int) < (lits.length : Int)) := by omega
      have hf := HFO.out
      rw [List.drop_of_length_le (l := lits) (by omega)] at hf
      have HFO2 := Aside0.mk (show outR (fixR cls K true s) = some (r1, r2) from hf)
      clear hf HFO
      go_wp2
      go_loopg [12, 13, 14, 15, 16] K (fun kq v12 v13 v14 v15 v16 w2 => ∃ (b : Bool) (s : List Int), v12 = .bool b ∧ Aside0 (Tri (n + 1) s) ∧ Aside0 (outR (fixR cls kq b s) = some (r1, r2)) ∧ Aside0 (Sg w w2 (.slice (some ⟨w.heap.size, 0, none⟩) (n + 1) (n + 1)) s))
      case atStart => exact ⟨true, s, rfl, HL, HFO2, SG⟩
      case round =>
        clear SG HFO2 HL
        obtain ⟨b, s, rfl, HL, HFO, SG⟩ := hrel
        cases gk with
        | zero => exact absurd HFO.out (by simp [fixR, outR])
        | succ k1 =>
          cases b with
          | false =>
            have hf : some (outF (s.drop 1) 1, true) = some (r1, r2) := HFO.out
            injection hf with hf
            simp only [Prod.mk.injEq] at hf
            obtain ⟨hf, rfl⟩ := hf
            have HE1 := Aside0.mk hf
            clear hf HFO
            go_wp2
            generalize hq : wr = w3 at *
            clear hq
            have HV := Aside0.mk (fun i (hi : i < s.length) => SG.out.cell i hi)
            have HBB := Aside0.mk SG.out.below
            have HTRI := Aside0.mk HL.out.2
            have hsl : s.length = n + 1 := HL.out.1
            have HSL := Aside0.mk hsl
            clear SG HL hsl
            go_loopg [17, 18] n (fun kq v17 v18 w4 => ∃ (k : Nat) (out : List Int), k + kq = n ∧ v18 = .int .i64 ((k : Int) + 1) ∧ Aside0 (r1 = out ++ outF (s.drop (k + 1)) ((k + 1 : Nat) : Int)) ∧ Aside0 (out.length ≤ k) ∧ Aside0 (w4.ownsRow w3.heap.size 3 1 v17 out.length (nums .i64 out)) ∧ Aside0 (Below w3.heap.size w3 w4))
            case atStart => exact ⟨0, [], by simp, rfl, ⟨HE1.out.symm⟩, ⟨Nat.le_refl _⟩, ⟨World.ownsRow_nil _ _ _ _⟩, ⟨Below.refl _ _⟩⟩
            case round =>
              clear HE1
              obtain ⟨k, out, hk, rfl, HO, HLO, HOWN, HB4⟩ := hrel
              cases gk with
              | zero =>
                have hge : ¬ ((k : Int) + 1 ≤ (n : Int)) := by omega
                have he : r1 = out := by rw [HO.out, List.drop_of_length_le (by rw [HSL.out]; omega)]; simp [outF]
                subst he
                go_wp2
                go_ret2
                exact ⟨_, rfl, own_weaken HOWN.out HBB.out.size, HBB.out.trans (HB4.out.mono HBB.out.size)⟩
              | succ k2 =>
                have hlt : (k : Int) + 1 ≤ (n : Int) := by omega
                have hlt' : k + 1 < s.length := by rw [HSL.out]; omega
                obtain ⟨ad, e, hx⟩ := HV.out (k + 1) hlt'
                cases e
                have hx2 := (HB4.out.cell (World.block_lt_of_cell? w3 _ hx)).trans hx
                have hd : s.drop (k + 1) = rd s ((k + 1 : Nat) : Int) :: s.drop (k + 1 + 1) := by rw [List.drop_eq_getElem_cons hlt']; simp only [rd, Int.toNat_natCast, List.getD_eq_getElem?_getD, List.getElem?_eq_getElem hlt', Option.getD_some]
                have hmem : rd s ((k + 1 : Nat) : Int) ∈ s := by simp only [rd, Int.toNat_natCast, List.getD_eq_getElem?_getD, List.getElem?_eq_getElem hlt', Option.getD_some]; exact List.getElem_mem _
                have ht := HTRI.out _ hmem
                have hO2 := HO.out
                rw [hd] at hO2
                simp only [outF] at hO2
                have HX := Aside0.mk hO2
                have HJ := Aside0.mk hk
                have hlo := HLO.out
                have hk5 : k ≤ 5000 := by omega
                have hb4 := HB4.out.size
                clear hd hmem hO2 HO hk hx
                generalize hgen : rd s ((k + 1 : Nat) : Int) = t at *
                clear hgen
                have hcast : ((k + 1 : Nat) : Int) = (k : Int) + 1 := by omega
                have htn : ((k : Int) + 1).toNat = k + 1 := by omega
                rw [show ((⟨w.heap.size, 0, none⟩ : Addr).add (k + 1)) = ⟨w.heap.size, k + 1, none⟩ by simp [Addr.add]] at hx2
                clear htn
                obtain ⟨i0, hi, hz0, hz1, hz2⟩ := info_parts info3
                rcases ht with rfl | rfl | rfl
                · have HO := Aside0.mk (show r1 = (out ++ [((k + 1 : Nat) : Int) * -1]) ++ outF (s.drop (k + 1 + 1)) ((k + 1 + 1 : Nat) : Int) by rw [HX.out]; simp)
                  clear HX
                  go_wp2_with (at_builtin; refine Hid.out ?_)
                  refine Lib.hid ?_
                  refine wpList_append_own _ rfl _ _ 25 rfl w3.heap.size 3 i0 (.int .i64 0) 1 8 Tryd.underlying25 hi hz0 hz1 hz2 rfl (by decide) _ out.length (nums .i64 out) rfl (HOWN.out.alloc _) ⟨_, 0, none⟩ 1 1 [.int .i64 (-((k : Int) + 1))] rfl rfl (cell_new1 _ _ _ _ rfl) (by simp [Value.oneCell']) (by simp only [maxLen]; omega) (by omega) (by simp; omega) ?_
                  intro v' w5 hown' hg' _
                  have HOWN5 := Aside0.mk (show w5.ownsRow w3.heap.size 3 1 v' (out ++ [((k + 1 : Nat) : Int) * -1]).length (nums .i64 (out ++ [((k + 1 : Nat) : Int) * -1])) by
                    rw [List.length_append, show nums .i64 (out ++ [((k + 1 : Nat) : Int) * -1]) = nums .i64 out ++ [.int .i64 (-((k : Int) + 1))] by simp [nums, hcast]]
                    exact hown')
                  have HB5 := Aside0.mk (show Below w3.heap.size w3 w5 from (HB4.out.alloc hb4 _).grown hg' (by simp; omega) (fun k hk => (q_typed (q_of_own HOWN.out) k hk).1))
                  clear hown' hg' HOWN HB4
                  go_wp2
                  go_roundg k2
                  case measure => omega
                  case rel => exact ⟨k + 1, out ++ [((k + 1 : Nat) : Int) * -1], by have := HJ.out; omega, by go_num, HO, ⟨by rw [List.length_append, List.length_cons, List.length_nil]; omega⟩, HOWN5, HB5⟩
                · have HO := Aside0.mk (show r1 = out ++ outF (s.drop (k + 1 + 1)) ((k + 1 + 1 : Nat) : Int) by rw [HX.out]; simp)
                  clear HX
                  go_wp2
                  go_roundg k2
                  case measure => omega
                  case rel => exact ⟨k + 1, out, by have := HJ.out; omega, by go_num, HO, ⟨by omega⟩, HOWN, HB4⟩
                · have HO := Aside0.mk (show r1 = (out ++ [((k + 1 : Nat) : Int) * 1]) ++ outF (s.drop (k + 1 + 1)) ((k + 1 + 1 : Nat) : Int) by rw [HX.out]; simp)
                  clear HX
                  go_wp2_with (at_builtin; refine Hid.out ?_)
                  refine Lib.hid ?_
                  refine wpList_append_own _ rfl _ _ 25 rfl w3.heap.size 3 i0 (.int .i64 0) 1 8 Tryd.underlying25 hi hz0 hz1 hz2 rfl (by decide) _ out.length (nums .i64 out) rfl (HOWN.out.alloc _) ⟨_, 0, none⟩ 1 1 [.int .i64 ((k : Int) + 1)] rfl rfl (cell_new1 _ _ _ _ rfl) (by simp [Value.oneCell']) (by simp only [maxLen]; omega) (by omega) (by simp; omega) ?_
                  intro v' w5 hown' hg' _
                  have HOWN5 := Aside0.mk (show w5.ownsRow w3.heap.size 3 1 v' (out ++ [((k + 1 : Nat) : Int) * 1]).length (nums .i64 (out ++ [((k + 1 : Nat) : Int) * 1])) by
                    rw [List.length_append, show nums .i64 (out ++ [((k + 1 : Nat) : Int) * 1]) = nums .i64 out ++ [.int .i64 ((k : Int) + 1)] by simp [nums, hcast]]
                    exact hown')
                  have HB5 := Aside0.mk (show Below w3.heap.size w3 w5 from (HB4.out.alloc hb4 _).grown hg' (by simp; omega) (fun k hk => (q_typed (q_of_own HOWN.out) k hk).1))
                  clear hown' hg' HOWN HB4
                  go_wp2
                  go_roundg k2
                  case measure => omega
                  case rel => exact ⟨k + 1, out ++ [((k + 1 : Nat) : Int) * 1], by have := HJ.out; omega, by go_num, HO, ⟨by rw [List.length_append, List.length_cons, List.length_nil]; omega⟩, HOWN5, HB5⟩
          | true =>
            have HFO2 := Aside0.mk (show outR (contR cls k1 (passR s false cls)) = some (r1, r2) by
              have := HFO.out
              simp only [fixR] at this
              revert this
              cases passR s false cls with
              | none => exact id
              | some x => exact id)
            clear HFO
            go_wp2
            go_loopg [12, 13, 14, 15, 16] cls.length (fun kq v12 v13 v14 v15 v16 w2 => ∃ (k : Nat) (b : Bool) (s : List Int), k + kq = cls.length ∧ v12 = .bool b ∧ v13 = .int .i64 k ∧ Aside0 (Tri (n + 1) s) ∧ Aside0 (outR (contR cls k1 (passR s b (cls.drop k))) = some (r1, r2)) ∧ Aside0 (Sg w w2 (.slice (some ⟨w.heap.size, 0, none⟩) (n + 1) (n + 1)) s))
            case atStart => exact ⟨0, false, s, by simp, rfl, rfl, HL, HFO2, SG⟩
            case round =>
              clear SG HFO2 HL
              obtain ⟨k, b, s, hk, rfl, rfl, HL, HFO, SG⟩ := hrel
              cases gk with
              | zero =>
                have hge : ¬ ((k : Int) < (cls.length : Int)) := by omega
                have hf := HFO.out
                rw [List.drop_of_length_le (l := cls) (by omega)] at hf
                have HFO2 := Aside0.mk (show outR (fixR cls k1 b s) = some (r1, r2) from hf)
                clear hf HFO
                go_wp2
                go_roundg k1
                case measure => omega
                case rel => exact ⟨b, s, rfl, HL, HFO2, SG⟩
              | succ k2 =>
                have hlt : (k : Int) < (cls.length : Int) := by omega
                have hlt' : k < cls.length := by omega
                obtain ⟨ad, A0, c0, e, hx, hl, hin⟩ := at_KL (Kd.C_below HR.out SG.out.below) k hlt'
                cases e
                have hd : cls.drop k = rdL cls k :: cls.drop (k + 1) := by rw [List.drop_eq_getElem_cons hlt']; simp [rdL, hlt']
                obtain ⟨hxl, hxf⟩ := HFINE.out _ (rdL_mem hlt')
                have hF2 := HFO.out
                rw [hd] at hF2
                simp only [passR] at hF2
                have HX := Aside0.mk hF2
                have HIN := Aside0.mk hin
                have HXF := Aside0.mk (show ∀ l ∈ rdL cls k, -4096 ≤ l ∧ l ≤ 4096 ∧ absI l < s.length by rw [HL.out.1]; exact hxf)
                have HK := Aside0.mk hk
                clear hd hF2 HFO hk hin hxf
                generalize rdL cls k = x at *
                go_wp2_with fail
                refine (SG.out.only A0 c0 x HIN.out hl HXF.out hxl).mono ?_
                rintro e w3 ⟨rfl, hs3⟩
                have SG3 := Aside0.mk hs3
                clear hs3 SG HIN hx
                have hF := HX.out
                rcases onlyE_cases (leftF s x 0) with he | he | ⟨l, hl0, hlf, he⟩
                · rw [he] at hF ⊢
                  have HFO := Aside0.mk (show outR (contR cls k1 (passR s b (cls.drop (k + 1)))) = some (r1, r2) from hF)
                  clear HX hF he
                  go_wp2
                  go_roundg k2
                  case measure => omega
                  case rel => exact ⟨k + 1, b, s, by have := HK.out; omega, rfl, by go_num, HL, HFO, SG3⟩
                · rw [he] at hF ⊢
                  have hf : some ([], false) = some (r1, r2) := hF
                  injection hf with hf
                  simp only [Prod.mk.injEq] at hf
                  obtain ⟨rfl, rfl⟩ := hf
                  clear HX hF he
                  go_wp2
                  go_ret2
                  exact ⟨_, rfl, World.ownsRow_nil _ _ _ _, SG3.out.below⟩
                · rw [he] at hF ⊢
                  rcases leftF_mem s x 0 l hlf with h0 | hmem
                  · exact absurd h0 hl0
                  obtain ⟨h1, h2, h3⟩ := HXF.out l hmem
                  have HF := Aside0.mk hF
                  clear HX hF he hlf hmem
                  have h4 : 0 ≤ absI l := by unfold absI; split <;> omega
                  have h5 : 0 < absI l := by unfold absI; split <;> omega
                  have hmx : (if l < -l then -l else l) = absI l := by unfold absI; split <;> split <;> omega
                  have HL1 := HL.out.1
                  obtain ⟨ad, e, hx2⟩ := SG3.out.cell (absI l).toNat (by omega)
                  cases e
                  rw [Int.toNat_of_nonneg h4] at hx2
                  rw [show ((⟨w.heap.size, 0, none⟩ : Addr).add (absI l).toNat) = ⟨w.heap.size, (absI l).toNat, none⟩ by simp only [Addr.add, Nat.zero_add]; rw [if_neg (by omega)]] at hx2
                  by_cases hz : rd s (absI l) = 0
                  · have hF := HF.out
                    rw [hz] at hF hx2
                    have HFO0 := Aside0.mk (show outR (contR cls k1 (passR (putR s l).2 true (cls.drop (k + 1)))) = some (r1, r2) from hF)
                    clear hF HF hz
                    go_wp2_with fail
                    refine (SG3.out.put l ⟨h1, h2⟩ h3).mono ?_
                    rintro e w4 ⟨rfl, hs4⟩
                    have SG4 := Aside0.mk hs4
                    have HL2 := Aside0.mk (HL.out.put l)
                    clear hs4 hx2 SG3
                    generalize putR s l = y at *
                    go_wp2
                    go_roundg k2
                    case measure => omega
                    case rel => exact ⟨k + 1, true, y.2, by have := HK.out; omega, rfl, by go_num, HL2, HFO0, SG4⟩
                  · have hz' : (rd s (absI l) == 0) = false := by simpa using hz
                    have hF := HF.out
                    rw [hz'] at hF
                    have HFO := Aside0.mk (show outR (contR cls k1 (passR s b (cls.drop (k + 1)))) = some (r1, r2) from hF)
                    clear hF HF
                    generalize rd s (absI l) = t at *
                    clear hz
                    go_wp2
                    go_roundg k2
                    case measure => omega
                    case rel => exact ⟨k + 1, b, s, by have := HK.out; omega, rfl, by go_num, HL, HFO, SG3⟩
    | succ k2 =>
      have hlt : (k : Int) < (lits.length : Int) := by omega
      have hlt' : k < lits.length := by omega
      obtain ⟨ad2, e, hx2⟩ := Kd.at_int (Kd.C_below HRL.out SG.out.below) k (by omega) hlt
      cases e
      rw [Int.toNat_natCast] at hx2
      have hd : lits.drop k = rd lits k :: lits.drop (k + 1) := by rw [List.drop_eq_getElem_cons hlt']; simp [rd, hlt']
      have hmem : rd lits k ∈ lits := by simp only [rd, Int.toNat_natCast, List.getD_eq_getElem?_getD, List.getElem?_eq_getElem hlt', Option.getD_some]; exact List.getElem_mem _
      obtain ⟨hl3, hl4, hl5⟩ := HLITS.out _ hmem
      have hF2 := HFO.out
      rw [hd] at hF2
      simp only [putAll] at hF2
      have HX := Aside0.mk hF2
      have HJ := Aside0.mk hk
      clear hd hmem hF2 HFO hk
      generalize rd lits k = l at *
      have hl6 : absI l < s.length := by rw [HL.out.1]; exact hl5
      go_wp2_with fail
      refine (SG.out.put l ⟨hl3, hl4⟩ hl6).mono ?_
      rintro e w3 ⟨rfl, hs3⟩
      have HL2 := Aside0.mk (HL.out.put l)
      have hI2 := HX.out
      generalize putR s l = y at *
      obtain ⟨y1, y2⟩ := y
      have SG3 := Aside0.mk hs3
      clear hs3 HX SG
      cases y1
      · have he : some ([], false) = some (r1, r2) := hI2
        injection he with he
        simp only [Prod.mk.injEq] at he
        obtain ⟨rfl, rfl⟩ := he
        clear hI2
        go_wp2
        go_ret2
        exact ⟨_, rfl, World.ownsRow_nil _ _ _ _, SG3.out.below⟩
      · have HFO := Aside0.mk (show startR cls K (putAll y2 (lits.drop (k + 1))) = some (r1, r2) from hI2)
        clear hI2
        go_wp2
        go_roundg k2
        case measure => omega
        case rel => exact ⟨k + 1, y2, by have := HJ.out; omega, by go_num, HL2, HFO, SG3⟩
end Go.Proofs.YtifhiloeghmfiaaDoor.Cnf

/- The contracts of Check, True, Follow and the document's Spread, in the form that the printed texts call. -/
namespace Go.Proofs.YtifhiloeghmfiaaDoor.PS
open Go.RowKit Go.Proofs.YtifhiloeghmfiaaDoorW.PrintWords Go.Proofs.YtifhiloeghmfiaaDoorW.PrintLast Go.Proofs.YtifhiloeghmfiaaDoorW.PrintMore
open Go.Proofs.YtifhiloeghmfiaaDoor.Cnf

def okI (v : Int) : Bool := decide (-9223372036854775808 ≤ v) && decide (v ≤ 9223372036854775807)
theorem okI_of {v : Int} (h : okI v = true) : -9223372036854775808 ≤ v ∧ v ≤ 9223372036854775807 := by simpa [okI] using h

def cnf_Check.f (vars : Int) (cls : List (List Int)) : Option Int := bif okI vars then some (checkF vars cls) else none
theorem cnf_Check.calls (vars : Int) (A : Option Addr) (c : Nat) (cls : List (List Int)) (r : Int) (w : World) (hr : Kd.C (Kd.slice 3 (Kd.int .i64)) w A cls.length cls) (hc : cls.length ≤ c) (h : cnf_Check.f vars cls = some r) :
    Calls Tryd.prog 18 #[.agg #[.int .i64 vars, .slice A cls.length c]] w fun e w' => e = .returned (.int .i64 r) ∧ Below w.heap.size w w' := by
  unfold cnf_Check.f at h
  cases hk : okI vars with
  | false => rw [hk] at h; cases h
  | true =>
    rw [hk] at h
    obtain rfl := Option.some.inj h
    exact Check_calls vars A c cls w (okI_of hk) hr hc

def cnf_True.f (_ : Nat) (vars : Int) (cls : List (List Int)) (model : List Bool) : Option (Bool × Int) := bif okI vars && decide (model.length ≤ 140737488355328) then some (trueF vars cls model) else none
theorem cnf_True.mono (a0 : Int) (a1 : List (List Int)) (a2 : List Bool) (k : Nat) : LeO (cnf_True.f k a0 a1 a2) (cnf_True.f (k + 1) a0 a1 a2) := LeO.refl _
theorem cnf_True.calls (k : Nat) (vars : Int) (A : Option Addr) (c : Nat) (cls : List (List Int)) (Am : Option Addr) (cm : Nat) (model : List Bool) (r1 : Bool) (r2 : Int) (w : World) (hr : Kd.C (Kd.slice 3 (Kd.int .i64)) w A cls.length cls) (hc : cls.length ≤ c)
    (hrm : Kd.C Kd.bool w Am model.length model) (hcm : model.length ≤ cm) (h : cnf_True.f k vars cls model = some (r1, r2)) :
    Calls Tryd.prog 16 #[.agg #[.int .i64 vars, .slice A cls.length c], .slice Am model.length cm] w fun e w' => e = .returned (.tuple #[.bool r1, .int .i64 r2]) ∧ Below w.heap.size w w' := by
  unfold cnf_True.f at h
  cases hk : (okI vars && decide (model.length ≤ 140737488355328)) with
  | false => rw [hk] at h; cases h
  | true =>
    rw [hk] at h
    have h2 := Option.some.inj h
    rw [Bool.and_eq_true] at hk
    have h3 := True_calls vars A c cls Am cm model w (okI_of hk.1) hr hc hrm hcm (of_decide_eq_true hk.2)
    rw [h2] at h3
    exact h3

def K0 : Nat := 10000
def cnf_Follow.f (_ : Nat) (vars : Int) (cls : List (List Int)) (lits : List Int) : Option (List Int × Bool × Int) := bif okI vars && decide (lits.length ≤ 1000000000000) then followF K0 vars cls lits else none
theorem cnf_Follow.mono (a0 : Int) (a1 : List (List Int)) (a2 : List Int) (k : Nat) : LeO (cnf_Follow.f k a0 a1 a2) (cnf_Follow.f (k + 1) a0 a1 a2) := LeO.refl _
theorem cnf_Follow.calls (k : Nat) (vars : Int) (A : Option Addr) (c : Nat) (cls : List (List Int)) (Al : Option Addr) (cl : Nat) (lits : List Int) (r1 : List Int) (r2 : Bool) (r3 : Int) (w : World)
    (hr : Kd.C (Kd.slice 3 (Kd.int .i64)) w A cls.length cls) (hc : cls.length ≤ c) (hrl : Kd.C (Kd.int .i64) w Al lits.length lits) (hcl : lits.length ≤ cl) (h : cnf_Follow.f k vars cls lits = some (r1, r2, r3)) :
    Calls Tryd.prog 11 #[.agg #[.int .i64 vars, .slice A cls.length c], .slice Al lits.length cl] w fun e w' => ∃ v, e = .returned (.tuple #[v, .bool r2, .int .i64 r3]) ∧
      Kd.R (Kd.int .i64) 3 w' w.heap.size (fun _ => True) v r1 ∧ Below w.heap.size w w' := by
  unfold cnf_Follow.f at h
  cases hk : (okI vars && decide (lits.length ≤ 1000000000000)) with
  | false => rw [hk] at h; cases h
  | true =>
    rw [hk] at h
    rw [Bool.and_eq_true] at hk
    refine (Follow_calls K0 vars A c cls Al cl lits r1 r2 r3 w (okI_of hk.1) hr hc hrl hcl (of_decide_eq_true hk.2) h).mono ?_
    rintro e w' ⟨v, rfl, h1, h2⟩
    exact ⟨v, rfl, Kd.R_of_own h1 (fun _ _ => True.intro), h2⟩

def fineR (n : Int) (l : Int) : Bool := decide (-4096 ≤ l) && decide (l ≤ 4096) && decide (absI l < n + 1)
theorem fineR_of {n : Nat} {l : Int} (h : fineR n l = true) : -4096 ≤ l ∧ l ≤ 4096 ∧ absI l < (n + 1 : Nat) := by
  simp [fineR] at h
  omega
def goodR (vars : Int) (cls b : List (List Int)) (lits : List Int) : Bool :=
  b.isEmpty && decide (0 ≤ vars) && decide (vars ≤ 4096) && decide (cls.length ≤ 131072) && decide (lits.length ≤ 1000000000000) && lits.all (fineR vars) && cls.all fun x => decide (x.length ≤ 1000) && x.all (fineR vars)
def assizeref15_Spread.f (_ : Nat) (vars : Int) (cls b : List (List Int)) (lits : List Int) : Option (List Int × Bool) := bif goodR vars cls b lits then spreadR K0 vars.toNat cls lits else none
theorem assizeref15_Spread.mono (a0 : Int) (a1 a2 : List (List Int)) (a3 : List Int) (k : Nat) : LeO (assizeref15_Spread.f k a0 a1 a2 a3) (assizeref15_Spread.f (k + 1) a0 a1 a2 a3) := LeO.refl _
theorem assizeref15_Spread.calls (k : Nat) (vars : Int) (A : Option Addr) (c : Nat) (cls : List (List Int)) (Ab : Option Addr) (cb : Nat) (b : List (List Int)) (Al : Option Addr) (cl : Nat) (lits : List Int) (r1 : List Int) (r2 : Bool) (w : World)
    (hr : Kd.C (Kd.slice 3 (Kd.int .i64)) w A cls.length cls) (hc : cls.length ≤ c) (_ : Kd.C (Kd.slice 3 (Kd.int .i64)) w Ab b.length b) (_ : b.length ≤ cb) (hrl : Kd.C (Kd.int .i64) w Al lits.length lits) (hcl : lits.length ≤ cl) (h : assizeref15_Spread.f k vars cls b lits = some (r1, r2)) :
    Calls Tryd.prog 32 #[.int .i64 vars, .slice A cls.length c, .slice Ab b.length cb, .slice Al lits.length cl] w fun e w' => ∃ v, e = .returned (.tuple #[v, .bool r2]) ∧
      Kd.R (Kd.int .i64) 3 w' w.heap.size (fun _ => True) v r1 ∧ Below w.heap.size w w' := by
  unfold assizeref15_Spread.f at h
  cases hk : goodR vars cls b lits with
  | false => rw [hk] at h; cases h
  | true =>
    rw [hk] at h
    unfold goodR at hk
    simp only [Bool.and_eq_true, decide_eq_true_eq, List.all_eq_true, List.isEmpty_iff] at hk
    obtain ⟨⟨⟨⟨⟨⟨rfl, h1⟩, h2⟩, h3⟩, h4⟩, h5⟩, h6⟩ := hk
    obtain ⟨n, rfl⟩ : ∃ n : Nat, vars = n := ⟨vars.toNat, by omega⟩
    refine (Spread_calls K0 n Ab cb A c cls Al cl lits r1 r2 w (by omega) hr hc h3 hrl hcl h4 (fun x hx => ⟨(h6 x hx).1, fun l hl => fineR_of ((h6 x hx).2 l hl)⟩) (fun l hl => fineR_of (h5 l hl)) h).mono ?_
    rintro e w' ⟨v, rfl, h1, h2⟩
    exact ⟨v, rfl, Kd.R_of_own h1 (fun _ _ => True.intro), h2⟩
end Go.Proofs.YtifhiloeghmfiaaDoor.PS
