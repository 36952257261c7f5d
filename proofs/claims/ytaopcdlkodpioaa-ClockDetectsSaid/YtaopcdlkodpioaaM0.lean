/- Written by wip/myprint.py of this repository (a driver over the kit's print; no print of print.sh) for the seat Ytaopcdlkodpioaa: contracts of functions and rows of laws, each stated whole in its theorem; no condition beside those in the statements. -/
import Derived.Test.YtaopcdlkodpioaaProg
import Derived.Below
import Derived.Deep.Draws
import Derived.Deep.AppendLies
import Derived.Maps.AppendAt
import Derived.OwnWalk
import Derived.Laws.BytesArg
import Derived.Laws.MakeOwn
import Derived.Laws.OwnMore
import Derived.Deep.OwnRows
import Derived.Tactics
import Derived.Lib.ConvBytes
import Derived.Laws.Slices
import Derived.WalkKit
import Derived.KernelRfl
import Derived.RowKit3
import Derived.Deep.LoopGhost
import Derived.Deep.QuietTactic
import Derived.BigQuiet
import Derived.WideLaws
import Derived.Deep.DeepCutAuto
import Derived.Deep.CutBlock
import Derived.Deep.RegionHeld3
import Derived.Laws.Rows
import Derived.Lib.AppendStr
import Derived.ArgAppend
import Derived.Laws.IdiomCopy
import Derived.OrdersHeld
import Derived.Laws.BitsLemmas
import Derived.RowKit
import Derived.Test.YtaopcdlkodpioaaExtra
import Derived.Test.YtaopcdlkodpioaaFz
import Derived.Test.YtaopcdlkodpioaaPlain
import Derived.Test.YtaopcdlkodpioaaShelf
import Derived.Test.YtaopcdlkodpioaaWWords
import Derived.Test.YtaopcdlkodpioaaWLast
import Derived.Test.YtaopcdlkodpioaaWTab
import Derived.Test.YtaopcdlkodpioaaWFour
import Derived.Test.YtaopcdlkodpioaaWQPut
import Derived.Test.YtaopcdlkodpioaaWApart
import Derived.Test.YtaopcdlkodpioaaWArr
import Derived.Test.YtaopcdlkodpioaaWZeros
import Derived.Test.YtaopcdlkodpioaaWFoot
import Derived.Test.YtaopcdlkodpioaaWKept
import Derived.Test.YtaopcdlkodpioaaWShare
import Derived.Test.YtaopcdlkodpioaaWN
import Derived.Test.YtaopcdlkodpioaaWFootNe
import Derived.Test.YtaopcdlkodpioaaWAt
import Derived.Test.YtaopcdlkodpioaaWEqStruct
import Derived.Test.YtaopcdlkodpioaaWRepsOne
import Derived.Test.YtaopcdlkodpioaaWInv
import Derived.Test.YtaopcdlkodpioaaWInvWords
import Derived.Test.YtaopcdlkodpioaaWGuard
import Derived.Test.YtaopcdlkodpioaaWNEv
import Derived.Test.YtaopcdlkodpioaaWMore
namespace Go.Proofs.Ytaopcdlkodpioaa.M
open Go.RowKit Go.Proofs.YtaopcdlkodpioaaW.PrintWords Go.Proofs.YtaopcdlkodpioaaW.PrintLast Go.Proofs.YtaopcdlkodpioaaW.PrintMore
attribute [local go_sem] max2_int min2_int max_two min_two max_three min_three max_four min_four   -- for this text's walks alone
set_option linter.unusedVariables false
set_option linter.unusedSimpArgs false



def errW : Option Int → Value
  | none => .nilIface
  | some c => .iface 0 (.int .i64 c)
theorem errW_none : errW none = .nilIface := rfl
theorem errW_some (c : Int) : errW (some c) = .iface 0 (.int .i64 c) := rfl

theorem info5 : (Try.prog.info? 5).map (fun i => (i.zero, i.size, i.bytes)) = some (some (.int .u8 0), 1, 1) := by kernel_rfl
-- the values' own types

end Go.Proofs.Ytaopcdlkodpioaa.M
