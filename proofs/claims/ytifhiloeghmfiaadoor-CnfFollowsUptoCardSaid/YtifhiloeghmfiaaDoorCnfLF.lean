/- CnfFollows told plainly. -/
import Derived.Test.YtifhiloeghmfiaaDoorCnfPure
import Derived.Test.YtifhiloeghmfiaaDoorPSxF
set_option linter.unusedVariables false
set_option linter.unusedSimpArgs false
namespace Go.Proofs.YtifhiloeghmfiaaDoor.PS
open Go.RowKit Go.Proofs.YtifhiloeghmfiaaDoorW.PrintWords Go.Proofs.YtifhiloeghmfiaaDoorW.PrintLast Go.Proofs.YtifhiloeghmfiaaDoorW.PrintMore
open Go.Proofs.YtifhiloeghmfiaaDoor.Cnf

theorem CnfFollows_pure (vars : Int) (cls : List (List Int)) (lits : List Int) (M : Nat) (hv : okI vars = true) (hl : lits.length ≤ 1000000000000) (hlc : cls.length ≤ 1000000000000) (hM : M ≤ 1000000000000) (hc : ∀ c, c ∈ cls → c.length ≤ M) :
    assizelaw15_CnfFollows.f (1000000000 + lits.length + cls.length + M + 2) vars cls lits = some true := by
  generalize hK : 1000000000 + lits.length + cls.length + M + 2 = k
  unfold assizelaw15_CnfFollows.f
  rw [alive_f, copy_f vars cls M hlc hM hc k (by omega)]
  simp only [Option.bind_some, if_true, List.nil_append]
  rw [if_pos (by simp only [List.length_nil]; omega)]
  obtain ⟨h1, r, h2, h3⟩ := follow_same vars cls lits hv hl hlc k k (by omega) (by omega)
  rw [h1, h2]
  simp only [Option.bind_some, if_true, beq_self_eq_true]
  rw [sameInts_f r.1 (by omega) k (by omega)]
  simp only [Option.bind_some, if_true]
  rw [sameLists_f cls M hlc hM hc k (by omega)]
  simp only [Option.bind_some, if_true]
  rw [sameInts_f lits hl k (by omega)]
  rfl
end Go.Proofs.YtifhiloeghmfiaaDoor.PS
