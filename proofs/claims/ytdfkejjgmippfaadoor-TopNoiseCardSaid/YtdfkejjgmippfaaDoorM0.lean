/- Written by wip/myprint.py of this repository (a driver over the kit's print; no print of print.sh) for the seat YtdfkejjgmippfaaDoor: contracts of functions and rows of laws, each stated whole in its theorem; no condition beside those in the statements. -/
import Derived.Test.YtdfkejjgmippfaaDoorProg
import Derived.Below
import Derived.Deep.Draws
import Derived.Deep.AppendLies
import Derived.Maps.AppendAt
import Derived.OwnWalk
import Derived.Laws.BytesArg
import Derived.Laws.MakeOwn
import Derived.Laws.OwnMore
import Derived.Deep.OwnRows
import Derived.Tactics
import Derived.Lib.ConvBytes
import Derived.Laws.Slices
import Derived.WalkKit
import Derived.KernelRfl
import Derived.RowKit3
import Derived.Deep.LoopGhost
import Derived.Deep.QuietTactic
import Derived.BigQuiet
import Derived.WideLaws
import Derived.Deep.DeepCutAuto
import Derived.Deep.CutBlock
import Derived.Deep.RegionHeld3
import Derived.Laws.Rows
import Derived.Lib.AppendStr
import Derived.ArgAppend
import Derived.Laws.IdiomCopy
import Derived.OrdersHeld
import Derived.Laws.BitsLemmas
import Derived.RowKit
import Derived.Laws.CopyOwn
import Derived.Test.YtdfkejjgmippfaaDoorCrc
import Derived.Test.YtdfkejjgmippfaaDoorExtra
import Derived.Test.YtdfkejjgmippfaaDoorFz
import Derived.Test.YtdfkejjgmippfaaDoorPlain
import Derived.Test.YtdfkejjgmippfaaDoorWWords
import Derived.Test.YtdfkejjgmippfaaDoorWLast
import Derived.Test.YtdfkejjgmippfaaDoorWTab
import Derived.Test.YtdfkejjgmippfaaDoorWFour
import Derived.Test.YtdfkejjgmippfaaDoorWQPut
import Derived.Test.YtdfkejjgmippfaaDoorWApart
import Derived.Test.YtdfkejjgmippfaaDoorWArr
import Derived.Test.YtdfkejjgmippfaaDoorWZeros
import Derived.Test.YtdfkejjgmippfaaDoorWFoot
import Derived.Test.YtdfkejjgmippfaaDoorWKept
import Derived.Test.YtdfkejjgmippfaaDoorWShare
import Derived.Test.YtdfkejjgmippfaaDoorWN
import Derived.Test.YtdfkejjgmippfaaDoorWFootNe
import Derived.Test.YtdfkejjgmippfaaDoorWAt
import Derived.Test.YtdfkejjgmippfaaDoorWEqStruct
import Derived.Test.YtdfkejjgmippfaaDoorWRepsOne
import Derived.Test.YtdfkejjgmippfaaDoorWInv
import Derived.Test.YtdfkejjgmippfaaDoorWInvWords
import Derived.Test.YtdfkejjgmippfaaDoorWGuard
import Derived.Test.YtdfkejjgmippfaaDoorWNEv
import Derived.Test.YtdfkejjgmippfaaDoorWMore
namespace Go.Proofs.YtdfkejjgmippfaaDoor.M
open Go.RowKit Go.Proofs.YtdfkejjgmippfaaDoorW.PrintWords Go.Proofs.YtdfkejjgmippfaaDoorW.PrintLast Go.Proofs.YtdfkejjgmippfaaDoorW.PrintMore
attribute [local go_sem] max2_int min2_int max_two min_two max_three min_three max_four min_four   -- for this text's walks alone
set_option linter.unusedVariables false
set_option linter.unusedSimpArgs false



def errW : Option Int → Value
  | none => .nilIface
  | some c => .iface 0 (.int .i64 c)
theorem errW_none : errW none = .nilIface := rfl
theorem errW_some (c : Int) : errW (some c) = .iface 0 (.int .i64 c) := rfl

theorem info5 : (Tryd.prog.info? 5).map (fun i => (i.zero, i.size, i.bytes)) = some (some (.int .u8 0), 1, 1) := by kernel_rfl
-- the values' own types

end Go.Proofs.YtdfkejjgmippfaaDoor.M
