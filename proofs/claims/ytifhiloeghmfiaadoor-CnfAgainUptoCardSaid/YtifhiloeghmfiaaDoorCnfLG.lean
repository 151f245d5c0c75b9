/- CnfAgain told plainly. -/
import Derived.Test.YtifhiloeghmfiaaDoorCnfPure
import Derived.Test.YtifhiloeghmfiaaDoorPSxG
set_option linter.unusedVariables false
set_option linter.unusedSimpArgs false
namespace Go.Proofs.YtifhiloeghmfiaaDoor.PS
open Go.RowKit Go.Proofs.YtifhiloeghmfiaaDoorW.PrintWords Go.Proofs.YtifhiloeghmfiaaDoorW.PrintLast Go.Proofs.YtifhiloeghmfiaaDoorW.PrintMore
open Go.Proofs.YtifhiloeghmfiaaDoor.Cnf

theorem again_l1 (n : Nat) (hn : n ≤ 4096) (cls : List (List Int)) (lits val : List Int) (hz : checkF (n : Int) cls = 0) (hok : Okay n cls lits) (hnb : ¬ Bad cls lits) (hS : Sole n cls lits val) :
    ∀ (r i k : Nat), i + r = (outF val 0).length → r + 10000 < k → assizelaw15_CnfAgain.l1 k (outF val 0) i n cls = some true
  | 0, i, k + 1, hi, hk => by
    unfold assizelaw15_CnfAgain.l1
    rw [if_neg (by omega)]
    have hlen := outF_len val 0
    have ht := hS.tri.1
    rcases follow_f (n : Int) cls (outF val 0) k (by unfold okI; simp; omega) (by omega) with ⟨q1, _⟩ | ⟨m, q1, q2, q3, q4, q5, q6⟩
    · exact absurd ⟨hz, badL_of_lit (fun l hl => ((hS.mem l).1 hl).1)⟩ q1
    · obtain rfl : n = m := by omega
      have hlit : ∀ l, l ∈ outF val 0 → Der cls lits l := fun l hl => ((hS.mem l).1 hl).2
      rcases q6 with ⟨_, q7⟩ | ⟨val', q7, _, q8⟩
      · exact absurd (Bad.mono (fun _ h => h) hlit q7) hnb
      · have : val = val' := hS.unique q8 (fun l hl => ⟨fun h => Der.mono (fun _ h => h) (fun x hx => .lit ((hS.mem x).2 ⟨hok.li x hx, .lit hx⟩)) h, fun h => Der.mono (fun _ h => h) hlit h⟩)
        subst this
        rw [q7]
        simp only [Option.bind_some, if_true, Bool.false_eq_true, if_false]
        rw [sameInts_f _ (by omega) k (by omega)]
        rfl
  | r + 1, i, k + 1, hi, hk => by
    have hlen := outF_len val 0
    have ht := hS.tri.1
    have hlt : i < (outF val 0).length := by omega
    unfold assizelaw15_CnfAgain.l1
    have hm := (hS.mem _).1 (rd_memQ _ i hlt)
    have hr := hm.1.2
    have hr1 := hm.1.1
    have hneg : wrap64 (-(rd (outF val 0) (i : Int))) = -(rd (outF val 0) (i : Int)) := w64_in _ (by unfold absI at hr; split at hr <;> omega)
    rw [if_pos (by omega), if_pos (by omega), hneg, in_f _ _ (by omega) k (by omega)]
    have : decide (-(rd (outF val 0) (i : Int)) ∈ outF val 0) = false := decide_eq_false (fun h => hnb (.inr ⟨_, hm.2, ((hS.mem _).1 h).2⟩))
    rw [this]
    simp only [Option.bind_some, Bool.false_eq_true, if_false]
    rw [step64 i (by omega), again_l1 n hn cls lits val hz hok hnb hS r (i + 1) k (by omega) (by omega)]
theorem again_l0 (n : Nat) (cls : List (List Int)) (lits l : List Int) (hl : lits.length ≤ 1000000000) (hll : l.length ≤ 1000000000) (hin : ∀ x, x ∈ lits → x ∈ l) (K : Nat) (hend : ∀ k, K ≤ k → assizelaw15_CnfAgain.l1 k l ((0 : Nat) : Int) n cls = some true) :
    ∀ (r i k : Nat), i + r = lits.length → r + K + l.length < k → assizelaw15_CnfAgain.l0 k lits l i n cls = some true
  | 0, i, k + 1, hi, hk => by
    unfold assizelaw15_CnfAgain.l0
    rw [if_neg (by omega)]
    exact hend k (by omega)
  | r + 1, i, k + 1, hi, hk => by
    have hlt : i < lits.length := by omega
    unfold assizelaw15_CnfAgain.l0
    rw [if_pos (by omega), if_pos (by omega), in_f _ _ (by omega) k (by omega), decide_eq_true (hin _ (rd_memQ lits i hlt))]
    simp only [Option.bind_some, if_true]
    rw [step64 i (by omega), again_l0 n cls lits l hl hll hin K hend r (i + 1) k (by omega) (by omega)]
theorem CnfAgain_pure (vars : Int) (cls : List (List Int)) (lits : List Int) (hv : okI vars = true) (hl : lits.length ≤ 1000000000) : assizelaw15_CnfAgain.f (2000000000 + 1) vars cls lits = some true := by
  unfold assizelaw15_CnfAgain.f
  rw [alive_f]
  simp only [Option.bind_some, if_true]
  rcases follow_f vars cls lits (2000000000 + 1) hv (by omega) with ⟨_, h1⟩ | ⟨n, rfl, h2, h3, h4, h5, ⟨h6, _⟩ | ⟨val, h6, h7, h8⟩⟩
  · rw [h1]
    simp only [Option.bind_some, assizelaw15_CnfAgain.j0]
    rw [if_neg (by decide), if_pos True.intro]
    rfl
  · rw [h6]
    simp only [Option.bind_some, assizelaw15_CnfAgain.j0, if_true]
    rfl
  · rw [h6]
    simp only [Option.bind_some, assizelaw15_CnfAgain.j0, if_true, Bool.false_eq_true, if_false]
    have hlen := outF_len val 0
    have ht := h8.tri.1
    have := again_l0 n cls lits (outF val 0) hl (by omega) (fun x hx => (h8.mem x).2 ⟨h5.li x hx, .lit hx⟩) 20000 (fun k hk => again_l1 n h2 cls lits val h3 h5 h7 h8 (outF val 0).length 0 k (by omega) (by omega)) lits.length 0 2000000000 (by omega) (by omega)
    exact this

end Go.Proofs.YtifhiloeghmfiaaDoor.PS
