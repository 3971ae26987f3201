-- Written for this claim by a program of this session, out of the translation and given contracts.
import Derived.Test.YtncnhgiilolomaaProg
import Derived.Below
import Derived.Deep.Draws
import Derived.Deep.AppendLies
import Derived.Maps.AppendAt
import Derived.OwnWalk
import Derived.Laws.BytesArg
import Derived.Laws.MakeOwn
import Derived.Laws.OwnMore
import Derived.Deep.OwnRows
import Derived.Tactics
import Derived.Lib.ConvBytes
import Derived.Laws.Slices
import Derived.WalkKit
import Derived.KernelRfl
import Derived.RowKit3
import Derived.Deep.LoopGhost
import Derived.Deep.QuietTactic
import Derived.BigQuiet
import Derived.WideLaws
import Derived.Deep.DeepCutAuto
import Derived.Deep.CutBlock
import Derived.Deep.RegionHeld3
import Derived.Laws.Rows
import Derived.Lib.AppendStr
import Derived.ArgAppend
import Derived.Laws.IdiomCopy
import Derived.OrdersHeld
import Derived.Laws.BitsLemmas
import Derived.RowKit
import Derived.Test.YtncnhgiilolomaaGSort
import Derived.Sort.OwnSortedInts
import Derived.Lib.SlicesCompact
import Derived.Test.YtncnhgiilolomaaGIns
import Derived.Test.YtncnhgiilolomaaWWords
import Derived.Test.YtncnhgiilolomaaWLast
import Derived.Test.YtncnhgiilolomaaWTab
import Derived.Test.YtncnhgiilolomaaWFour
import Derived.Test.YtncnhgiilolomaaWQPut
import Derived.Test.YtncnhgiilolomaaWApart
import Derived.Test.YtncnhgiilolomaaWArr
import Derived.Test.YtncnhgiilolomaaWZeros
import Derived.Test.YtncnhgiilolomaaWFoot
import Derived.Test.YtncnhgiilolomaaWKept
import Derived.Test.YtncnhgiilolomaaWShare
import Derived.Test.YtncnhgiilolomaaWN
import Derived.Test.YtncnhgiilolomaaWFootNe
import Derived.Test.YtncnhgiilolomaaWAt
import Derived.Test.YtncnhgiilolomaaWEqStruct
import Derived.Test.YtncnhgiilolomaaWRepsOne
import Derived.Test.YtncnhgiilolomaaWInv
import Derived.Test.YtncnhgiilolomaaWInvWords
import Derived.Test.YtncnhgiilolomaaWGuard
import Derived.Test.YtncnhgiilolomaaWNEv
import Derived.Test.YtncnhgiilolomaaWMore
namespace Go.Proofs.Ytncnhgiilolomaa.PFnExactAddOffsets
open Go.RowKit Go.Proofs.YtncnhgiilolomaaW.PrintWords Go.Proofs.YtncnhgiilolomaaW.PrintLast Go.Proofs.YtncnhgiilolomaaW.PrintMore
attribute [local go_sem] max2_int min2_int max_two min_two max_three min_three max_four min_four   -- for this text's walks alone
set_option linter.unusedVariables false
set_option linter.unusedSimpArgs false



def errW : Option Int → Value
  | none => .nilIface
  | some c => .iface 0 (.int .i64 c)
theorem errW_none : errW none = .nilIface := rfl
theorem errW_some (c : Int) : errW (some c) = .iface 0 (.int .i64 c) := rfl

theorem info3 : (Try.prog.info? 3).map (fun i => (i.zero, i.size, i.bytes)) = some (some (.int .i64 0), 1, 8) := by kernel_rfl
-- the values' own types

end Go.Proofs.Ytncnhgiilolomaa.PFnExactAddOffsets
