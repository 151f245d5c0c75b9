-- MADE BY A PROGRAM (the kit's print.py, several functions in one set) out of the translation; Lean checks it.
import Derived.Test.YtllgcpoljdjjnaaGreatProg
import Derived.Below
import Derived.Deep.Draws
import Derived.Deep.AppendLies
import Derived.Maps.AppendAt
import Derived.OwnWalk
import Derived.Laws.BytesArg
import Derived.Laws.MakeOwn
import Derived.Laws.OwnMore
import Derived.Deep.OwnRows
import Derived.Tactics
import Derived.Lib.ConvBytes
import Derived.Laws.Slices
import Derived.WalkKit
import Derived.KernelRfl
import Derived.RowKit3
import Derived.Deep.LoopGhost
import Derived.Deep.QuietTactic
import Derived.BigQuiet
import Derived.WideLaws
import Derived.Deep.DeepCutAuto
import Derived.Deep.CutBlock
import Derived.Deep.RegionHeld3
import Derived.Laws.Rows
import Derived.Lib.AppendStr
import Derived.ArgAppend
import Derived.Laws.IdiomCopy
import Derived.OrdersHeld
import Derived.Laws.BitsLemmas
import Derived.RowKit
import Derived.Test.YtllgcpoljdjjnaaGreatWWords
import Derived.Test.YtllgcpoljdjjnaaGreatWLast
import Derived.Test.YtllgcpoljdjjnaaGreatWTab
import Derived.Test.YtllgcpoljdjjnaaGreatWFour
import Derived.Test.YtllgcpoljdjjnaaGreatWQPut
import Derived.Test.YtllgcpoljdjjnaaGreatWApart
import Derived.Test.YtllgcpoljdjjnaaGreatWArr
import Derived.Test.YtllgcpoljdjjnaaGreatWZeros
import Derived.Test.YtllgcpoljdjjnaaGreatWFoot
import Derived.Test.YtllgcpoljdjjnaaGreatWKept
import Derived.Test.YtllgcpoljdjjnaaGreatWShare
import Derived.Test.YtllgcpoljdjjnaaGreatWN
import Derived.Test.YtllgcpoljdjjnaaGreatWFootNe
import Derived.Test.YtllgcpoljdjjnaaGreatWAt
import Derived.Test.YtllgcpoljdjjnaaGreatWEqStruct
import Derived.Test.YtllgcpoljdjjnaaGreatWRepsOne
import Derived.Test.YtllgcpoljdjjnaaGreatWInv
import Derived.Test.YtllgcpoljdjjnaaGreatWInvWords
import Derived.Test.YtllgcpoljdjjnaaGreatWGuard
import Derived.Test.YtllgcpoljdjjnaaGreatWNEv
import Derived.Test.YtllgcpoljdjjnaaGreatWMore
namespace Go.Proofs.YtllgcpoljdjjnaaGreat.PV
open Go.RowKit Go.Proofs.YtllgcpoljdjjnaaGreatW.PrintWords Go.Proofs.YtllgcpoljdjjnaaGreatW.PrintLast Go.Proofs.YtllgcpoljdjjnaaGreatW.PrintMore
attribute [local go_sem] max2_int min2_int max_two min_two max_three min_three max_four min_four   -- for this text's walks alone
set_option linter.unusedVariables false
set_option linter.unusedSimpArgs false



def errW : Option Int → Value
  | none => .nilIface
  | some c => .iface 0 (.int .i64 c)
theorem errW_none : errW none = .nilIface := rfl
theorem errW_some (c : Int) : errW (some c) = .iface 0 (.int .i64 c) := rfl

theorem info9 : (Tryz.prog.info? 9).map (fun i => (i.zero, i.size, i.bytes)) = some (some (.string ⟨#[]⟩), 1, 16) := by kernel_rfl
-- the values' own types

end Go.Proofs.YtllgcpoljdjjnaaGreat.PV
