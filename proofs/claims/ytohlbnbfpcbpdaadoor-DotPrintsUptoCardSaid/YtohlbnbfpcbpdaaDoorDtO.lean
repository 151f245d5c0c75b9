/- dot: DotPrints: the plain law. -/
import Derived.Test.YtohlbnbfpcbpdaaDoorPSxP
import Derived.Test.YtohlbnbfpcbpdaaDoorDtK
set_option linter.unusedVariables false
set_option linter.unusedSimpArgs false
namespace Go.Proofs.YtohlbnbfpcbpdaaDoor.PS
open Go.RowKit Go.Proofs.YtohlbnbfpcbpdaaDoorW.PrintWords Go.Proofs.YtohlbnbfpcbpdaaDoorW.PrintLast Go.Proofs.YtohlbnbfpcbpdaaDoorW.PrintMore
open Go.Proofs.YtohlbnbfpcbpdaaDoor.Lx Go.Proofs.YtohlbnbfpcbpdaaDoor.Dt

theorem DotPrints_pure (l0 : List ByteArray) (l1 : List S34) (hn : namesOk l0 = true) (h1 : edsOk l1 = true) (hl1 : l1.length ≤ 1048576) : assizelaw23_DotPrints.f KK l0 l1 = some true := by
  have hr : assizeref23_Print.f KK l0 l1 = some (toB (printR (lists l0) (l1.map toE)).1, (printR (lists l0) (l1.map toE)).2) := by
    unfold assizeref23_Print.f
    rw [hn, h1]
    rfl
  unfold assizelaw23_DotPrints.f
  rw [alive_pure, Option.bind_some, if_pos rfl, Option.bind_some, if_pos (by simp only [List.length_nil]; omega), Option.bind_some, List.nil_append, Print_f KK hn h1, Option.bind_some, hr, Option.bind_some]
  simp only
  rw [if_pos trivial, if_pos trivial, same_pure l1 (by omega) KK (by unfold KK; omega)]
  rfl
end Go.Proofs.YtohlbnbfpcbpdaaDoor.PS
