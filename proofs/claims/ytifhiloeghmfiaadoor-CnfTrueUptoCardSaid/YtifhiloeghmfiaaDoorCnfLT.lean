/- CnfTrue told plainly. -/
import Derived.Test.YtifhiloeghmfiaaDoorCnfPure
import Derived.Test.YtifhiloeghmfiaaDoorPSxT
set_option linter.unusedVariables false
set_option linter.unusedSimpArgs false
namespace Go.Proofs.YtifhiloeghmfiaaDoor.PS
open Go.RowKit Go.Proofs.YtifhiloeghmfiaaDoorW.PrintWords Go.Proofs.YtifhiloeghmfiaaDoorW.PrintLast Go.Proofs.YtifhiloeghmfiaaDoorW.PrintMore
open Go.Proofs.YtifhiloeghmfiaaDoor.Cnf

theorem rdOf_rdB (model : List Bool) (i : Int) : rdOf false model i = rdB model i := rfl
theorem holds_f (model : List Bool) (l : Int) (h0 : l ≠ 0) (hb : -4096 ≤ l ∧ l ≤ 4096) (hlt : absI l < (model.length : Int)) : assizeref15_holds.f model l = some (litT model l) := by
  unfold assizeref15_holds.f litT
  rw [w64_in (-l) (by omega)]
  by_cases hn : l < 0
  · have ha : absI l = -l := by unfold absI; rw [if_pos hn]
    rw [ha] at hlt ⊢
    rw [if_pos hn, if_pos (by omega), if_pos hlt, rdOf_rdB, decide_eq_false (by omega : ¬ 0 < l)]
    cases rdB model (-l) <;> rfl
  · have ha : absI l = l := by unfold absI; rw [if_neg hn]
    rw [ha] at hlt ⊢
    rw [if_neg hn, if_pos (by omega), if_pos hlt, rdOf_rdB, decide_eq_true (by omega : 0 < l)]
    cases rdB model l <;> rfl
theorem Holds_l0 (c : List Int) (model : List Bool) (hl : c.length ≤ 1000) (hc : ∀ l, l ∈ c → l ≠ 0 ∧ (-4096 ≤ l ∧ l ≤ 4096) ∧ absI l < (model.length : Int)) : ∀ (r i k : Nat), i + r = c.length → r < k → assizeref15_Holds.l0 k c model i = some ((c.drop i).any (litT model))
  | 0, i, k + 1, hi, _ => by
    unfold assizeref15_Holds.l0
    rw [if_neg (by omega), List.drop_of_length_le (by omega)]
    rfl
  | r + 1, i, k + 1, hi, hk => by
    have hlt : i < c.length := by omega
    unfold assizeref15_Holds.l0
    obtain ⟨q1, q2, q3⟩ := hc _ (rd_memQ c i hlt)
    rw [if_pos (by omega), if_pos (by omega), holds_f model _ q1 q2 q3, rd_nat c i hlt, List.drop_eq_getElem_cons hlt]
    simp only [Option.bind_some, List.any_cons]
    rw [step64 i (by omega), Holds_l0 c model hl hc r (i + 1) k (by omega) (by omega)]
    rcases Bool.eq_false_or_eq_true (litT model c[i]) with hs | hs
    · simp only [hs, if_true, Bool.true_or]
    · simp only [hs, Bool.false_eq_true, if_false, Bool.false_or]
theorem True_l0 (cls : List (List Int)) (vars : Int) (model : List Bool) (hl : cls.length ≤ 1000000) (hc : ∀ c, c ∈ cls → c.length ≤ 1000 ∧ ∀ l, l ∈ c → l ≠ 0 ∧ (-4096 ≤ l ∧ l ≤ 4096) ∧ absI l < (model.length : Int)) :
    ∀ (r i k : Nat), i + r = cls.length → r + 1001 < k → assizeref15_True.l0 k model i vars cls = some ((cls.drop i).all (fun c => c.any (litT model)), 0)
  | 0, i, k + 1, hi, _ => by
    unfold assizeref15_True.l0
    rw [if_neg (by omega), List.drop_of_length_le (by omega)]
    rfl
  | r + 1, i, k + 1, hi, hk => by
    have hlt : i < cls.length := by omega
    unfold assizeref15_True.l0
    obtain ⟨q1, q2⟩ := hc _ (rdL1_mem cls i hlt)
    have hH : assizeref15_Holds.f k (rd_L1 cls i) model = some ((rd_L1 cls (i : Int)).any (litT model)) := Holds_l0 _ model q1 q2 (rd_L1 cls (i : Int)).length 0 k (by omega) (by omega)
    rw [if_pos (by omega), if_pos (by omega), hH, rdL1_nat cls i hlt, List.drop_eq_getElem_cons hlt]
    simp only [Option.bind_some, List.all_cons]
    rw [step64 i (by omega), True_l0 cls vars model hl hc r (i + 1) k (by omega) (by omega)]
    rcases Bool.eq_false_or_eq_true (cls[i].any (litT model)) with hs | hs
    · simp only [hs, if_true, Bool.true_and]
    · simp only [hs, Bool.false_eq_true, if_false, Bool.false_and]
theorem refTrue_f (vars : Int) (cls : List (List Int)) (model : List Bool) (hv : okI vars = true) (hlc : cls.length ≤ 1000000000000) (k : Nat) (hk : 20000000 ≤ k) : assizeref15_True.f k vars cls model = some (trueF vars cls model) := by
  obtain ⟨k, rfl⟩ : ∃ m, k = m + 1 := ⟨k - 1, by omega⟩
  unfold assizeref15_True.f trueF
  rw [check_f vars cls hlc _ hk]
  simp only [Option.bind_some, assizeref15_True.j0]
  rcases checkF_or vars cls with hz | hz
  · obtain ⟨h1, h2, h3⟩ := checkF_zero hz
    rw [if_pos hz, w64_in (vars + 1) (by omega)]
    by_cases hm : (model.length : Int) = vars + 1
    · have hb : ((model.length : Int) != vars + 1) = false := by simpa using hm
      rw [if_neg (by rw [hb]; decide), if_pos ⟨hz, hm⟩]
      have := True_l0 cls vars model (by omega) (fun c hc => ⟨by have := (h3 c hc).1; omega, fun l hl => by
        obtain ⟨q1, q2, q3, q4⟩ := absI_range ((h3 c hc).2 l hl) h1
        exact ⟨by rintro rfl; simp [absI] at q1, ⟨q3, q4⟩, by omega⟩⟩) cls.length 0 k (by omega) (by omega)
      rw [List.drop_zero] at this
      exact this
    · have hb : ((model.length : Int) != vars + 1) = true := by simpa using hm
      rw [if_pos hb, if_neg (fun h => hm h.2)]
  · rw [if_neg (by omega), if_pos True.intro, if_neg (fun h => by omega)]

theorem CnfTrue_pure (vars : Int) (cls : List (List Int)) (model : List Bool) (hv : okI vars = true) (hl : model.length ≤ 1000000000000) (hlc : cls.length ≤ 1000000000000) : assizelaw15_CnfTrue.f 20000000 vars cls model = some true := by
  generalize hK : 20000000 = k
  have hT : cnf_True.f k vars cls model = some (trueF vars cls model) := by
    unfold cnf_True.f
    rw [hv, decide_eq_true (by omega : model.length ≤ 140737488355328)]
    rfl
  have hC : cnf_Check.f vars cls = some (checkF vars cls) := by unfold cnf_Check.f; rw [hv]; rfl
  unfold assizelaw15_CnfTrue.f
  rw [alive_f]
  simp only [Option.bind_some, if_true, List.nil_append]
  rw [if_pos (by simp only [List.length_nil]; omega), hT, refTrue_f vars cls model hv hlc k (by omega), hC, check_f vars cls hlc k (by omega)]
  simp

end Go.Proofs.YtifhiloeghmfiaaDoor.PS
