/- Written by wip/myprint.py of this repository (a driver over the kit's print; no print of print.sh) for the seat Ytbaogajiogaogaa: contracts of functions and rows of laws, each stated whole in its theorem; no condition beside those in the statements. -/
import Derived.Test.YtbaogajiogaogaaProg
import Derived.Below
import Derived.Deep.Draws
import Derived.Deep.AppendLies
import Derived.Maps.AppendAt
import Derived.OwnWalk
import Derived.Laws.BytesArg
import Derived.Laws.MakeOwn
import Derived.Laws.OwnMore
import Derived.Deep.OwnRows
import Derived.Tactics
import Derived.Lib.ConvBytes
import Derived.Laws.Slices
import Derived.WalkKit
import Derived.KernelRfl
import Derived.RowKit3
import Derived.Deep.LoopGhost
import Derived.Deep.QuietTactic
import Derived.BigQuiet
import Derived.WideLaws
import Derived.Deep.DeepCutAuto
import Derived.Deep.CutBlock
import Derived.Deep.RegionHeld3
import Derived.Laws.Rows
import Derived.Lib.AppendStr
import Derived.ArgAppend
import Derived.Laws.IdiomCopy
import Derived.OrdersHeld
import Derived.Laws.BitsLemmas
import Derived.RowKit
import Derived.Laws.CopyOwn
import Derived.Test.YtbaogajiogaogaaCrc
import Derived.Test.YtbaogajiogaogaaExtra
import Derived.Test.YtbaogajiogaogaaWWords
import Derived.Test.YtbaogajiogaogaaWLast
import Derived.Test.YtbaogajiogaogaaWTab
import Derived.Test.YtbaogajiogaogaaWFour
import Derived.Test.YtbaogajiogaogaaWQPut
import Derived.Test.YtbaogajiogaogaaWApart
import Derived.Test.YtbaogajiogaogaaWArr
import Derived.Test.YtbaogajiogaogaaWZeros
import Derived.Test.YtbaogajiogaogaaWFoot
import Derived.Test.YtbaogajiogaogaaWKept
import Derived.Test.YtbaogajiogaogaaWShare
import Derived.Test.YtbaogajiogaogaaWN
import Derived.Test.YtbaogajiogaogaaWFootNe
import Derived.Test.YtbaogajiogaogaaWAt
import Derived.Test.YtbaogajiogaogaaWEqStruct
import Derived.Test.YtbaogajiogaogaaWRepsOne
import Derived.Test.YtbaogajiogaogaaWInv
import Derived.Test.YtbaogajiogaogaaWInvWords
import Derived.Test.YtbaogajiogaogaaWGuard
import Derived.Test.YtbaogajiogaogaaWNEv
import Derived.Test.YtbaogajiogaogaaWMore
namespace Go.Proofs.Ytbaogajiogaogaa.M
open Go.RowKit Go.Proofs.YtbaogajiogaogaaW.PrintWords Go.Proofs.YtbaogajiogaogaaW.PrintLast Go.Proofs.YtbaogajiogaogaaW.PrintMore
attribute [local go_sem] max2_int min2_int max_two min_two max_three min_three max_four min_four   -- for this text's walks alone
set_option linter.unusedVariables false
set_option linter.unusedSimpArgs false



def errW : Option Int → Value
  | none => .nilIface
  | some c => .iface 0 (.int .i64 c)
theorem errW_none : errW none = .nilIface := rfl
theorem errW_some (c : Int) : errW (some c) = .iface 0 (.int .i64 c) := rfl

theorem info5 : (Try.prog.info? 5).map (fun i => (i.zero, i.size, i.bytes)) = some (some (.int .u8 0), 1, 1) := by kernel_rfl
-- the values' own types

end Go.Proofs.Ytbaogajiogaogaa.M
