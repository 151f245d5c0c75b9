/- The printed words of layer 15, told plainly. -/
import Derived.Test.YtifhiloeghmfiaaDoorCnfP
import Derived.Test.YtifhiloeghmfiaaDoorPSxA
import Derived.Test.YtifhiloeghmfiaaDoorLaw
import Derived.DataShut
set_option linter.unusedVariables false
set_option linter.unusedSimpArgs false
namespace Go.Proofs.YtifhiloeghmfiaaDoor.PS
open Go.RowKit Go.Proofs.YtifhiloeghmfiaaDoorW.PrintWords Go.Proofs.YtifhiloeghmfiaaDoorW.PrintLast Go.Proofs.YtifhiloeghmfiaaDoorW.PrintMore
open Go.Proofs.YtifhiloeghmfiaaDoor.Cnf

theorem step64 (i : Nat) (h : i ≤ 1000000000000) : wrap64 ((i : Int) + 1) = ((i + 1 : Nat) : Int) := by rw [w64_in _ (by omega)]; omega
theorem rd_nat (l : List Int) (i : Nat) (h : i < l.length) : rd l (i : Int) = l[i] := by simp [rd, h]
theorem rdL1_nat (l : List (List Int)) (i : Nat) (h : i < l.length) : rd_L1 l (i : Int) = l[i] := by simp [rd_L1, h]
theorem rd_memQ (l : List Int) (i : Nat) (h : i < l.length) : rd l (i : Int) ∈ l := by rw [rd_nat l i h]; exact List.getElem_mem h
theorem rdL1_mem (l : List (List Int)) (i : Nat) (h : i < l.length) : rd_L1 l (i : Int) ∈ l := by rw [rdL1_nat l i h]; exact List.getElem_mem h

theorem in_l0 (l : List Int) (x : Int) (hl : l.length ≤ 1000000000000) : ∀ (r i k : Nat), i + r = l.length → r < k → assizelaw15_in.l0 k l x i = some (decide (x ∈ l.drop i))
  | 0, i, k + 1, hi, _ => by
    unfold assizelaw15_in.l0
    rw [if_neg (by omega), List.drop_of_length_le (by omega)]
    simp
  | r + 1, i, k + 1, hi, hk => by
    unfold assizelaw15_in.l0
    have hlt : i < l.length := by omega
    rw [if_pos (by omega), if_pos (by omega), rd_nat l i hlt, List.drop_eq_getElem_cons hlt]
    by_cases h : l[i] = x
    · rw [if_pos h]; simp [h]
    · rw [if_neg h, step64 i (by omega), in_l0 l x hl r (i + 1) k (by omega) (by omega)]
      exact congrArg some (decide_eq_decide.2 ⟨fun h' => List.mem_cons_of_mem _ h', fun h' => (List.mem_cons.1 h').resolve_left (Ne.symm h)⟩)
theorem in_f (l : List Int) (x : Int) (hl : l.length ≤ 1000000000000) (k : Nat) (hk : l.length < k) : assizelaw15_in.f k l x = some (decide (x ∈ l)) := in_l0 l x hl l.length 0 k (by omega) hk

theorem sameInts_l0 (l : List Int) (hl : l.length ≤ 1000000000000) : ∀ (r i k : Nat), i + r = l.length → r < k → assizeref15_SameInts.l0 k l l i = some true
  | 0, i, k + 1, hi, _ => by
    unfold assizeref15_SameInts.l0
    rw [if_neg (by omega)]
  | r + 1, i, k + 1, hi, hk => by
    unfold assizeref15_SameInts.l0
    rw [if_pos (by omega), if_pos (by omega), if_pos (by omega), if_pos rfl, step64 i (by omega), sameInts_l0 l hl r (i + 1) k (by omega) (by omega)]
theorem sameInts_f (l : List Int) (hl : l.length ≤ 1000000000000) (k : Nat) (hk : l.length < k) : assizeref15_SameInts.f k l l = some true := by
  unfold assizeref15_SameInts.f
  rw [if_pos rfl]
  exact sameInts_l0 l hl l.length 0 k (by omega) hk
theorem sameLists_l0 (l : List (List Int)) (M : Nat) (hl : l.length ≤ 1000000000000) (hM : M ≤ 1000000000000) (hc : ∀ c, c ∈ l → c.length ≤ M) : ∀ (r i k : Nat), i + r = l.length → r + M + 1 < k → assizeref15_SameLists.l0 k l l i = some true
  | 0, i, k + 1, hi, _ => by
    unfold assizeref15_SameLists.l0
    rw [if_neg (by omega)]
  | r + 1, i, k + 1, hi, hk => by
    unfold assizeref15_SameLists.l0
    have hlt : i < l.length := by omega
    have hm := hc _ (rdL1_mem l i hlt)
    rw [if_pos (by omega), if_pos (by omega), if_pos (by omega), sameInts_f _ (by omega) k (by omega)]
    simp only [Option.bind_some, if_true]
    rw [step64 i (by omega), sameLists_l0 l M hl hM hc r (i + 1) k (by omega) (by omega)]
theorem sameLists_f (l : List (List Int)) (M : Nat) (hl : l.length ≤ 1000000000000) (hM : M ≤ 1000000000000) (hc : ∀ c, c ∈ l → c.length ≤ M) (k : Nat) (hk : l.length + M + 1 < k) : assizeref15_SameLists.f k l l = some true := by
  unfold assizeref15_SameLists.f
  rw [if_pos rfl]
  exact sameLists_l0 l M hl hM hc l.length 0 k (by omega) hk
theorem copyLists_l0 (l : List (List Int)) (M : Nat) (hl : l.length ≤ 1000000000000) (hM : M ≤ 1000000000000) (hc : ∀ c, c ∈ l → c.length ≤ M) : ∀ (r i k : Nat), i + r = l.length → r < k → assizeref15_CopyLists.l0 k l (l.take i) i = some l
  | 0, i, k + 1, hi, _ => by
    unfold assizeref15_CopyLists.l0
    rw [if_neg (by omega), List.take_of_length_le (by omega)]
  | r + 1, i, k + 1, hi, hk => by
    unfold assizeref15_CopyLists.l0
    have hlt : i < l.length := by omega
    have hm := hc _ (rdL1_mem l i hlt)
    rw [if_pos (by omega)]
    simp only [Option.bind_some]
    rw [if_pos (by omega), if_pos (by simp only [List.length_nil]; omega), if_pos (by rw [List.length_take]; omega), step64 i (by omega), List.nil_append]
    have e : l.take i ++ [rd_L1 l (i : Int)] = l.take (i + 1) := by rw [rdL1_nat l i hlt]; exact (List.take_succ_eq_append_getElem hlt).symm
    rw [e]
    exact copyLists_l0 l M hl hM hc r (i + 1) k (by omega) (by omega)
theorem copy_f (vars : Int) (l : List (List Int)) (M : Nat) (hl : l.length ≤ 1000000000000) (hM : M ≤ 1000000000000) (hc : ∀ c, c ∈ l → c.length ≤ M) (k : Nat) (hk : l.length < k) : assizeref15_Copy.f k vars l = some (vars, l) := by
  unfold assizeref15_Copy.f assizeref15_CopyLists.f
  have := copyLists_l0 l M hl hM hc l.length 0 k (by omega) hk
  rw [List.take_zero, show ((0 : Nat) : Int) = 0 from rfl] at this
  rw [this]
  rfl

theorem literal_f (vars l : Int) (hv : 0 ≤ vars ∧ vars ≤ 4096) : assizeref15_literal.f vars l = some (soundB vars l) := by
  unfold assizeref15_literal.f soundB
  rw [w64_in (-vars) (by omega)]
  by_cases h0 : l = 0
  · rw [if_pos h0]; simp [h0]
  · rw [if_neg h0]
    by_cases h1 : l ≥ -vars
    · rw [if_pos h1]; simp [h0]; omega
    · rw [if_neg h1]; simp [h0]; omega
theorem check_l1 (vars : Int) (hv : 0 ≤ vars ∧ vars ≤ 4096) (cls : List (List Int)) (i : Nat) (c : List Int) (hlc : c.length ≤ 128) (res : Int) (hres : ∀ k, 1 ≤ k → k ≤ 20000000 → True) :
    ∀ (r j k : Nat), j + r = c.length → r < k → assizeref15_Check.l1 k i c j vars cls = if ((c.drop j).any fun l => !soundB vars l) = true then some 150 else assizeref15_Check.l0 (k - r - 1) (wrap64 ((i : Int) + 1)) vars cls
  | 0, j, k + 1, hj, _ => by
    unfold assizeref15_Check.l1
    rw [if_neg (by omega), List.drop_of_length_le (by omega)]
    simp
  | r + 1, j, k + 1, hj, hk => by
    have hlt : j < c.length := by omega
    unfold assizeref15_Check.l1
    rw [if_pos (by omega), if_pos (by omega), literal_f vars _ hv, rd_nat c j hlt, List.drop_eq_getElem_cons hlt]
    simp only [Option.bind_some, List.any_cons]
    have : k + 1 - (r + 1) - 1 = k - r - 1 := by omega
    rw [step64 j (by omega), check_l1 vars hv cls i c hlc res hres r (j + 1) k (by omega) (by omega), this]
    rcases Bool.eq_false_or_eq_true (soundB vars c[j]) with hs | hs
    · simp only [hs, Bool.not_true, Bool.false_or, if_true]
    · simp only [hs, Bool.not_false, Bool.true_or, if_true, Bool.false_eq_true, if_false]
theorem check_l0 (vars : Int) (hv : 0 ≤ vars ∧ vars ≤ 4096) (cls : List (List Int)) (hl : cls.length ≤ 131072) : ∀ (r i k : Nat), i + r = cls.length → 131 * r < k → assizeref15_Check.l0 k i vars cls = some (errB ((cls.drop i).any (badC vars)))
  | 0, i, k + 1, hi, _ => by
    unfold assizeref15_Check.l0
    rw [if_neg (by omega), List.drop_of_length_le (by omega)]
    rfl
  | r + 1, i, k + 1, hi, hk => by
    have hlt : i < cls.length := by omega
    unfold assizeref15_Check.l0
    rw [if_pos (by omega), if_pos (by omega), rdL1_nat cls i hlt, List.drop_eq_getElem_cons hlt]
    simp only [List.any_cons, badC]
    by_cases h : ((cls[i].length : Nat) : Int) > 128
    · rw [if_pos h]
      have : decide (128 < ((cls[i].length : Nat) : Int)) = true := by simpa using h
      rw [this]
      rfl
    · rw [if_neg h]
      have hd : decide (128 < ((cls[i].length : Nat) : Int)) = false := by simpa using h
      have := check_l1 vars hv cls i cls[i] (by omega) 0 (fun _ _ _ => True.intro) cls[i].length 0 k (by omega) (by omega)
      rw [show ((0 : Nat) : Int) = 0 from rfl] at this
      rw [this, hd, List.drop_zero, Bool.false_or]
      cases ha : (cls[i].any fun l => !soundB vars l) with
      | true => rw [if_pos rfl]; rfl
      | false =>
        rw [if_neg (by decide), step64 i (by omega), check_l0 vars hv cls hl r (i + 1) _ (by omega) (by omega)]
        rfl
theorem check_f (vars : Int) (cls : List (List Int)) (hl : cls.length ≤ 1000000000000) (k : Nat) (hk : 20000000 ≤ k) : assizeref15_Check.f k vars cls = some (checkF vars cls) := by
  obtain ⟨k, rfl⟩ : ∃ m, k = m + 1 := ⟨k - 1, by omega⟩
  unfold assizeref15_Check.f checkF badF
  simp only [assizeref15_Check.j0]
  by_cases h1 : vars < 0
  · rw [if_pos h1, if_pos True.intro, decide_eq_true h1]; rfl
  · rw [if_neg h1, decide_eq_false h1]
    by_cases h2 : vars > 4096
    · rw [if_pos h2, if_pos True.intro, decide_eq_true (show 4096 < vars from h2)]; rfl
    · rw [if_neg h2, decide_eq_false (show ¬ 4096 < vars from h2)]
      by_cases h3 : (cls.length : Int) > 131072
      · rw [if_pos (decide_eq_true h3), decide_eq_true (show 131072 < (cls.length : Int) from h3)]; rfl
      · rw [if_neg (by rw [decide_eq_false h3]; decide), decide_eq_false (show ¬ 131072 < (cls.length : Int) from h3)]
        have := check_l0 vars (by omega) cls (by omega) cls.length 0 k (by omega) (by omega)
        exact this

theorem alive_f (k : Nat) : assizelaw15_alive.f k = some true := by kernel_rfl

/-- The guard of the program's Check and of the literals, as both tell it. -/
theorem okay_of {vars : Int} {cls : List (List Int)} {lits : List Int} (hz : checkF vars cls = 0) (hb : badL vars lits = false) : ∃ n : Nat, vars = n ∧ n ≤ 4096 ∧ Okay n cls lits := by
  obtain ⟨h1, h2, h3⟩ := checkF_zero hz
  refine ⟨vars.toNat, by omega, by omega, fun c hc l hl => ?_, fun l hl => ?_⟩
  · have := absI_range ((h3 c hc).2 l hl) h1
    exact ⟨this.1, by omega⟩
  · have hs : soundB vars l = true := by have := List.any_eq_false.1 hb l hl; simpa using this
    have := absI_range hs h1
    exact ⟨this.1, by omega⟩
theorem follow_f (vars : Int) (cls : List (List Int)) (lits : List Int) (k : Nat) (hv : okI vars = true) (hl : lits.length ≤ 1000000000000) :
    (¬ (checkF vars cls = 0 ∧ badL vars lits = false) ∧ cnf_Follow.f k vars cls lits = some ([], false, 150)) ∨
    (∃ n : Nat, vars = n ∧ n ≤ 4096 ∧ checkF vars cls = 0 ∧ badL vars lits = false ∧ Okay n cls lits ∧ ((cnf_Follow.f k vars cls lits = some ([], true, 0) ∧ Bad cls lits) ∨ (∃ val, cnf_Follow.f k vars cls lits = some (outF val 0, false, 0) ∧ ¬ Bad cls lits ∧ Sole n cls lits val))) := by
  have e : cnf_Follow.f k vars cls lits = followF K0 vars cls lits := by
    unfold cnf_Follow.f
    rw [hv, decide_eq_true hl]
    rfl
  rw [e]
  rcases checkF_or vars cls with hz | hz
  · rcases Bool.eq_false_or_eq_true (badL vars lits) with hb | hb
    · refine .inl ⟨fun h => by rw [hb] at h; exact absurd h.2 (by decide), ?_⟩
      unfold followF
      rw [hz, hb]
      rfl
    · obtain ⟨n, h1, h2, h3⟩ := okay_of hz hb
      refine .inr ⟨n, h1, h2, hz, hb, h3, ?_⟩
      have e2 : followF K0 vars cls lits = goTake cls PS.K0 (takeAll (zerosL (n + 1)) [] lits) := by
        unfold followF
        rw [hz, hb, show (vars + 1).toNat = n + 1 by omega]
        rfl
      rw [e2]
      exact prog_res h3 h2
  · refine .inl ⟨fun h => by rw [hz] at h; exact absurd h.1 (by decide), ?_⟩
    unfold followF
    rw [hz]
    rfl

theorem goodR_of {n : Nat} {cls : List (List Int)} {lits : List Int} (hz : checkF (n : Int) cls = 0) (hb : badL (n : Int) lits = false) (hl : lits.length ≤ 1000000000000) : goodR (n : Int) cls [] lits = true := by
  obtain ⟨h1, h2, h3⟩ := checkF_zero hz
  have fine : ∀ l, soundB (n : Int) l = true → fineR (n : Int) l = true := fun l hs => by
    obtain ⟨q1, q2, q3, q4⟩ := absI_range hs h1
    unfold fineR
    rw [decide_eq_true q3, decide_eq_true q4, decide_eq_true (by omega : absI l < (n : Int) + 1)]
    rfl
  unfold goodR
  simp only [Bool.and_eq_true, decide_eq_true_eq, List.all_eq_true, List.isEmpty_iff]
  refine ⟨⟨⟨⟨⟨⟨True.intro, h1.1⟩, h1.2⟩, h2⟩, hl⟩, fun l hl' => fine l ?_⟩, fun c hc => ⟨by have := (h3 c hc).1; omega, fun l hl' => fine l ((h3 c hc).2 l hl')⟩⟩
  have := List.any_eq_false.1 hb l hl'
  simpa using this
theorem refFollow_l0 (n : Nat) (hn : n ≤ 4096) (cls : List (List Int)) (lits : List Int) (hl : lits.length ≤ 1000000000000) (hz : checkF (n : Int) cls = 0) :
    ∀ (r i k : Nat) (b : Bool), i + r = lits.length → r < k → assizeref15_Follow.l0 k lits b i n cls = if b = true ∧ badL (n : Int) (lits.drop i) = false then (assizeref15_Spread.f 0 n cls [] lits).bind fun x => some (x.1, !x.2, 0) else some ([], false, 150)
  | 0, i, k + 1, b, hi, _ => by
    unfold assizeref15_Follow.l0
    rw [if_neg (by omega), List.drop_of_length_le (by omega)]
    cases b
    · rfl
    · rfl
  | r + 1, i, k + 1, b, hi, hk => by
    have hlt : i < lits.length := by omega
    unfold assizeref15_Follow.l0
    rw [if_pos (by omega), List.drop_eq_getElem_cons hlt]
    cases b with
    | false => rfl
    | true =>
      rw [if_pos rfl, if_pos (by omega), literal_f _ _ (by omega), rd_nat lits i hlt]
      simp only [Option.bind_some]
      rw [step64 i (by omega), refFollow_l0 n hn cls lits hl hz r (i + 1) k _ (by omega) (by omega)]
      unfold badL
      simp only [List.any_cons]
      rcases Bool.eq_false_or_eq_true (soundB (n : Int) lits[i]) with hs | hs
      · simp only [hs, Bool.not_true, Bool.false_or]
      · simp only [hs, Bool.not_false, Bool.true_or, Bool.false_eq_true, false_and, if_false, and_false, reduceCtorEq]
theorem refFollow_f (vars : Int) (cls : List (List Int)) (lits : List Int) (hl : lits.length ≤ 1000000000000) (hlc : cls.length ≤ 1000000000000) (k : Nat) (hk : 20000000 ≤ k) (hkl : lits.length < k) :
    (¬ (checkF vars cls = 0 ∧ badL vars lits = false) ∧ assizeref15_Follow.f k vars cls lits = some ([], false, 150)) ∨
    (∃ n : Nat, vars = n ∧ n ≤ 4096 ∧ checkF vars cls = 0 ∧ badL vars lits = false ∧ Okay n cls lits ∧ ((assizeref15_Follow.f k vars cls lits = some ([], true, 0) ∧ Bad cls lits) ∨ (∃ val, assizeref15_Follow.f k vars cls lits = some (outF val 0, false, 0) ∧ ¬ Bad cls lits ∧ Sole n cls lits val))) := by
  have e : assizeref15_Follow.f k vars cls lits = assizeref15_Follow.l0 k lits (checkF vars cls == 0) ((0 : Nat) : Int) vars cls := by
    unfold assizeref15_Follow.f
    rw [check_f vars cls hlc k hk]
    rfl
  rw [e]
  rcases checkF_or vars cls with hz | hz
  · obtain ⟨h1, _⟩ := checkF_zero hz
    obtain ⟨n, rfl⟩ : ∃ n : Nat, vars = n := ⟨vars.toNat, by omega⟩
    have e2 := refFollow_l0 n (by omega) cls lits hl hz lits.length 0 k true (by omega) hkl
    rw [List.drop_zero] at e2
    have e3 : assizeref15_Follow.l0 k lits (checkF (n : Int) cls == 0) ((0 : Nat) : Int) n cls = if true = true ∧ badL (n : Int) lits = false then (assizeref15_Spread.f 0 n cls [] lits).bind fun x => some (x.1, !x.2, 0) else some ([], false, 150) := by
      rw [hz]
      exact e2
    rw [e3]
    rcases Bool.eq_false_or_eq_true (badL (n : Int) lits) with hb | hb
    · exact .inl ⟨fun h => by rw [hb] at h; exact absurd h.2 (by decide), by rw [if_neg (by rintro ⟨_, h⟩; rw [hb] at h; cases h)]⟩
    · obtain ⟨m, h2, h3, h4⟩ := okay_of hz hb
      obtain rfl : n = m := by omega
      refine .inr ⟨n, rfl, h3, hz, hb, h4, ?_⟩
      rw [if_pos ⟨rfl, hb⟩]
      unfold assizeref15_Spread.f
      rw [goodR_of hz hb hl, Int.toNat_natCast]
      rcases ref_res h4 h3 with ⟨h5, h6⟩ | ⟨val, h5, h6, h7⟩
      · simp only [cond_true, h5]
        exact .inl ⟨rfl, h6⟩
      · simp only [cond_true, h5]
        refine .inr ⟨val, ?_, h6, h7⟩
        rw [outF_zero h7.zero (by have := h7.tri.1; omega)]
        rfl
  · refine .inl ⟨fun h => by rw [hz] at h; exact absurd h.1 (by decide), ?_⟩
    rw [hz]
    obtain ⟨k, rfl⟩ : ∃ m, k = m + 1 := ⟨k - 1, by omega⟩
    unfold assizeref15_Follow.l0
    rw [show ((150 : Int) == 0) = false from rfl]
    by_cases h : ((0 : Nat) : Int) < (lits.length : Int)
    · rw [if_pos h]; rfl
    · rw [if_neg h]; rfl
/-- Both answer the same. -/
theorem follow_same (vars : Int) (cls : List (List Int)) (lits : List Int) (hv : okI vars = true) (hl : lits.length ≤ 1000000000000) (hlc : cls.length ≤ 1000000000000) (k k' : Nat) (hk : 20000000 ≤ k) (hkl : lits.length < k) :
    assizeref15_Follow.f k vars cls lits = cnf_Follow.f k' vars cls lits ∧ ∃ r, cnf_Follow.f k' vars cls lits = some r ∧ r.1.length ≤ 1000000000 := by
  have hlen : ∀ (val : List Int) (i : Int), (outF val i).length ≤ val.length := by
    intro val
    induction val with
    | nil => intro i; simp [outF]
    | cons a r ih =>
      intro i
      unfold outF
      have := ih (i + 1)
      cases (a != 0)
      · simp only [cond_false, List.length_cons]; omega
      · simp only [cond_true, List.length_cons]; omega
  rcases refFollow_f vars cls lits hl hlc k hk hkl with ⟨h1, h2⟩ | ⟨n, h1, h2, h3, h4, h5, h6⟩
  · rcases follow_f vars cls lits k' hv hl with ⟨_, h4⟩ | ⟨m, _, _, h5, h6, _⟩
    · exact ⟨h2.trans h4.symm, _, h4, by simp⟩
    · exact absurd ⟨h5, h6⟩ h1
  · rcases follow_f vars cls lits k' hv hl with ⟨q1, _⟩ | ⟨m, q1, q2, q3, q4, q5, q6⟩
    · exact absurd ⟨h3, h4⟩ q1
    · obtain rfl : n = m := by omega
      rcases h6 with ⟨h7, h8⟩ | ⟨val, h7, h8, h9⟩
      · rcases q6 with ⟨q7, _⟩ | ⟨_, _, q8, _⟩
        · exact ⟨h7.trans q7.symm, _, q7, by simp⟩
        · exact absurd h8 q8
      · rcases q6 with ⟨_, q8⟩ | ⟨val', q7, _, q9⟩
        · exact absurd q8 h8
        · have := h9.unique q9 (fun _ _ => Iff.rfl)
          subst this
          refine ⟨h7.trans q7.symm, _, q7, ?_⟩
          have := hlen val 0
          have := q9.tri.1
          show (outF val 0).length ≤ _
          omega

theorem Der.mono {cls cls' : List (List Int)} {lits lits' : List Int} (hc : ∀ c, c ∈ cls → c ∈ cls') (hl : ∀ l, l ∈ lits → Der cls' lits' l) {l : Int} (h : Der cls lits l) : Der cls' lits' l := by
  induction h with
  | lit h => exact hl _ h
  | unit h1 h2 _ ih => exact .unit (hc _ h1) h2 ih
theorem Bad.mono {cls cls' : List (List Int)} {lits lits' : List Int} (hc : ∀ c, c ∈ cls → c ∈ cls') (hl : ∀ l, l ∈ lits → Der cls' lits' l) (h : Bad cls lits) : Bad cls' lits' := by
  rcases h with h | ⟨l, h1, h2⟩
  · exact .inl (hc _ h)
  · exact .inr ⟨l, Der.mono hc hl h1, Der.mono hc hl h2⟩
theorem outF_len : ∀ (val : List Int) (i : Int), (outF val i).length ≤ val.length
  | [], _ => Nat.le_refl _
  | a :: r, i => by
    have := outF_len r (i + 1)
    unfold outF
    cases (a != 0)
    · simp only [cond_false, List.length_cons]; omega
    · simp only [cond_true, List.length_cons]; omega
theorem sound_of_lit {n : Nat} {l : Int} (h : LitN n l) : soundB (n : Int) l = true := by
  obtain ⟨h1, h2⟩ := h
  unfold soundB
  unfold absI at h1 h2
  split at h1 <;> split at h2 <;> simp <;> omega
theorem badL_of_lit {n : Nat} {ls : List Int} (h : ∀ l, l ∈ ls → LitN n l) : badL (n : Int) ls = false := by
  unfold badL
  rw [List.any_eq_false]
  intro l hl
  rw [sound_of_lit (h l hl)]
  decide

end Go.Proofs.YtifhiloeghmfiaaDoor.PS

/- What a law's arguments open: a formula, a list of literals, a model; the table; a world for the witness. -/
namespace Go.Proofs.YtifhiloeghmfiaaDoor.Cnf
open Go.ChangeShapes Go.WideShapes Go.ChangeAt
open Go.RowKit Go.Proofs.YtifhiloeghmfiaaDoorW.PrintWords Go.Proofs.YtifhiloeghmfiaaDoorW.PrintLast Go.Proofs.YtifhiloeghmfiaaDoorW.PrintMore
open Go.Proofs.YtifhiloeghmfiaaDoor.Opn

theorem opens_ints : Opens 25 (Kd.slice 3 (Kd.int .i64)) (fun xs => (∀ p, p ∈ xs → (Lit.int .i64 p).wf = true) ∧ xs.length ≤ maxLen) (fun xs => (xs.map fun _ => 1).sum + 1) := opens_slice Tryd.underlying25 (by kernel_rfl) (opens_int Tryd.underlying3)
theorem opens_lists : Opens 22 (Kd.slice 25 (Kd.slice 3 (Kd.int .i64))) (fun xs => (∀ p, p ∈ xs → (∀ q, q ∈ p → (Lit.int .i64 q).wf = true) ∧ p.length ≤ maxLen) ∧ xs.length ≤ maxLen) (fun xs => (xs.map fun l => (l.map fun _ => 1).sum + 1).sum + 1) := opens_slice Tryd.underlying22 (by kernel_rfl) opens_ints
theorem opens_bools : Opens 36 (Kd.slice 4 Kd.bool) (fun xs => (∀ p, p ∈ xs → True) ∧ xs.length ≤ maxLen) (fun xs => (xs.map fun _ => 1).sum + 1) := opens_slice Tryd.underlying36 (by kernel_rfl) (opens_bool Tryd.underlying4)

theorem wf_okI {n : Int} (h : (Lit.int .i64 n).wf = true) : PS.okI n = true := by
  obtain ⟨h1, h2⟩ := (Lit.wf_int_iff .i64 n).1 h
  have e1 : IntKind.i64.min = -9223372036854775808 := by decide
  have e2 : IntKind.i64.max = 9223372036854775807 := by decide
  unfold PS.okI
  simp only [Bool.and_eq_true, decide_eq_true_eq]
  omega

section
variable {H : Type} {enc : TypeId × Value → H} {W : World} {base b0 : Nat} {sp : Nat → Bool} {held : Bool} {v : Value} {x : DataW H} {ps : List MemPlace} {r : Reach}
theorem sum_len {α : Type} {f : α → Nat} (h : ∀ a, 1 ≤ f a) : ∀ (l : List α), l.length ≤ (l.map f).sum
  | [] => Nat.le_refl _
  | a :: l => by
    have := h a
    have := sum_len h l
    simp only [List.map_cons, List.sum_cons, List.length_cons]
    omega
theorem sum_part {α : Type} {f : α → Nat} {a : α} : ∀ {l : List α}, a ∈ l → f a ≤ (l.map f).sum
  | b :: l, h => by
    simp only [List.map_cons, List.sum_cons]
    rcases List.mem_cons.1 h with rfl | h
    · omega
    · have := sum_part (f := f) h; omega
set_option maxRecDepth 100000 in
theorem arg_ints (hval : Value.okWide Tryd.prog W r b0 25 v) (h : DataW.Trod enc Tryd.prog W base sp held 25 v x ps) :
    ∃ A c l, v = .slice A (l : List Int).length c ∧ l.length ≤ c ∧ Kd.C (Kd.int .i64) W A l.length l ∧ l.length ≤ Rows.uptoBulk x := by
  obtain ⟨a, n, c, rfl⟩ := okWide_slice Tryd.underlying25 hval
  obtain ⟨l, ⟨A, c', he, hl, hC⟩, _, hs⟩ := open_arg opens_ints h
  have he' : Value.slice a n c = .slice A l.length c' := by simpa [Value.cells] using he
  cases he'
  have := sum_len (f := fun _ : Int => 1) (fun _ => Nat.le_refl 1) l
  exact ⟨_, _, l, rfl, hl, hC, by omega⟩
set_option maxRecDepth 100000 in
theorem arg_bools (hval : Value.okWide Tryd.prog W r b0 36 v) (h : DataW.Trod enc Tryd.prog W base sp held 36 v x ps) :
    ∃ A c l, v = .slice A (l : List Bool).length c ∧ l.length ≤ c ∧ Kd.C Kd.bool W A l.length l ∧ l.length ≤ Rows.uptoBulk x := by
  obtain ⟨a, n, c, rfl⟩ := okWide_slice Tryd.underlying36 hval
  obtain ⟨l, ⟨A, c', he, hl, hC⟩, _, hs⟩ := open_arg opens_bools h
  have he' : Value.slice a n c = .slice A l.length c' := by simpa [Value.cells] using he
  cases he'
  have := sum_len (f := fun _ : Bool => 1) (fun _ => Nat.le_refl 1) l
  exact ⟨_, _, l, rfl, hl, hC, by omega⟩
set_option maxRecDepth 100000 in
theorem arg_cnf (hval : Value.okWide Tryd.prog W r b0 24 v) (h : DataW.Trod enc Tryd.prog W base sp held 24 v x ps) :
    ∃ n A c cls, v = .agg #[.int .i64 n, .slice A (cls : List (List Int)).length c] ∧ PS.okI n = true ∧ cls.length ≤ c ∧ Kd.C KL W A cls.length cls ∧ cls.length ≤ Rows.uptoBulk x ∧ ∀ l, l ∈ cls → l.length ≤ Rows.uptoBulk x := by
  obtain ⟨cs, rfl, hsz⟩ := okWide_struct Tryd.underlying24 hval
  have h2 : Tryd.prog.cellsOf 24 = 2 := by kernel_rfl
  rw [h2] at hsz
  obtain ⟨v0, v1, rfl⟩ : ∃ v0 v1, cs = #[v0, v1] := by
    obtain ⟨l⟩ := cs
    match l, hsz with
    | [a, b], _ => exact ⟨a, b, rfl⟩
  obtain ⟨n, hn, hw, _⟩ := open_field Tryd.underlying24 h 0 _ rfl (opens_int Tryd.underlying3)
  obtain ⟨cls, ⟨A, c, hc, hl, hC⟩, _, hs⟩ := open_field Tryd.underlying24 h 1 _ rfl opens_lists
  have c3 : Tryd.prog.cellsOf 3 = 1 := by kernel_rfl
  have c22 : Tryd.prog.cellsOf 22 = 1 := by kernel_rfl
  have e0 : v0 = .int .i64 n := by
    have : ([v0, v1].drop 0).take (Tryd.prog.cellsOf 3) = [.int .i64 n] := hn
    rw [c3] at this
    simpa using this
  have e1 : v1 = .slice A cls.length c := by
    have : ([v0, v1].drop 1).take (Tryd.prog.cellsOf 22) = [.slice A cls.length c] := hc
    rw [c22] at this
    simpa using this
  subst e0
  subst e1
  have hpos : ∀ l : List Int, 1 ≤ (l.map fun _ => 1).sum + 1 := fun l => by omega
  have s1 := sum_len hpos cls
  refine ⟨n, A, c, cls, rfl, wf_okI hw, hl, hC, by omega, fun l hl' => ?_⟩
  have s2 := sum_part (f := fun l : List Int => (l.map fun _ => 1).sum + 1) hl'
  have s3 := sum_len (f := fun _ : Int => 1) (fun _ => Nat.le_refl 1) l
  omega
end

theorem pow_tab {W : World} {laid : List (String × DataW Unit)} {ps : List MemPlace} (h : DataW.LaidVars Tryd.prog W laid ps) (hm : ("internal/strconv.uint64pow10", Rows.laid_internal_strconv_uint64pow10) ∈ laid) : Tab W :=
  laid_mem (g := 0) (t := 117) (e := 93) (n := 20) (by kernel_rfl) (by kernel_rfl) Tryd.underlying117 Tryd.underlying93 (by kernel_rfl) (by kernel_rfl) h ⟨_, hm, rfl⟩
theorem bulk2 {H : Type} {a b : DataW H} (h : Rows.uptoSmall H ([a, b] ++ []) = true) : Rows.uptoBulk a ≤ 1048576 ∧ Rows.uptoBulk b ≤ 1048576 := by
  simp [Rows.uptoSmall, Rows.uptoBulkAll] at h
  omega
theorem bulk3 {H : Type} {a b c : DataW H} (h : Rows.uptoSmall H ([a, b, c] ++ []) = true) : Rows.uptoBulk a ≤ 1048576 ∧ Rows.uptoBulk b ≤ 1048576 ∧ Rows.uptoBulk c ≤ 1048576 := by
  simp [Rows.uptoSmall, Rows.uptoBulkAll] at h
  omega
theorem tab_of {W : World} {laid : List (String × DataW Unit)} (hp : (laid.filter fun x => x.2.handleName?.isSome) = []) (h : laidMetH Tryd.prog laid W) (hm : ("internal/strconv.uint64pow10", Rows.laid_internal_strconv_uint64pow10) ∈ laid) : Tab W := by
  unfold laidMetH at h
  rw [hp] at h
  obtain ⟨ps, hL, _⟩ := h
  exact pow_tab hL hm
end Go.Proofs.YtifhiloeghmfiaaDoor.Cnf
