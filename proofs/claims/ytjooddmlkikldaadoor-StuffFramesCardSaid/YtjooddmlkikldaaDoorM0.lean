/- Written by wip/myprint.py of this repository (a driver over the kit's print; no print of print.sh) for the seat YtjooddmlkikldaaDoor: contracts of functions and rows of laws, each stated whole in its theorem; no condition beside those in the statements. -/
import Derived.Test.YtjooddmlkikldaaDoorProg
import Derived.Below
import Derived.Deep.Draws
import Derived.Deep.AppendLies
import Derived.Maps.AppendAt
import Derived.OwnWalk
import Derived.Laws.BytesArg
import Derived.Laws.MakeOwn
import Derived.Laws.OwnMore
import Derived.Deep.OwnRows
import Derived.Tactics
import Derived.Lib.ConvBytes
import Derived.Laws.Slices
import Derived.WalkKit
import Derived.KernelRfl
import Derived.RowKit3
import Derived.Deep.LoopGhost
import Derived.Deep.QuietTactic
import Derived.BigQuiet
import Derived.WideLaws
import Derived.Deep.DeepCutAuto
import Derived.Deep.CutBlock
import Derived.Deep.RegionHeld3
import Derived.Laws.Rows
import Derived.Lib.AppendStr
import Derived.ArgAppend
import Derived.Laws.IdiomCopy
import Derived.OrdersHeld
import Derived.Laws.BitsLemmas
import Derived.RowKit
import Derived.Shelf.Strings.Builder1
import Derived.Shelf.Strings.Builder2
import Derived.Test.YtjooddmlkikldaaDoorExtra
import Derived.Test.YtjooddmlkikldaaDoorFz
import Derived.Test.YtjooddmlkikldaaDoorPlain
import Derived.Test.YtjooddmlkikldaaDoorShelf
import Derived.Test.YtjooddmlkikldaaDoorStuffL
import Derived.Test.YtjooddmlkikldaaDoorWWords
import Derived.Test.YtjooddmlkikldaaDoorWLast
import Derived.Test.YtjooddmlkikldaaDoorWTab
import Derived.Test.YtjooddmlkikldaaDoorWFour
import Derived.Test.YtjooddmlkikldaaDoorWQPut
import Derived.Test.YtjooddmlkikldaaDoorWApart
import Derived.Test.YtjooddmlkikldaaDoorWArr
import Derived.Test.YtjooddmlkikldaaDoorWZeros
import Derived.Test.YtjooddmlkikldaaDoorWFoot
import Derived.Test.YtjooddmlkikldaaDoorWKept
import Derived.Test.YtjooddmlkikldaaDoorWShare
import Derived.Test.YtjooddmlkikldaaDoorWN
import Derived.Test.YtjooddmlkikldaaDoorWFootNe
import Derived.Test.YtjooddmlkikldaaDoorWAt
import Derived.Test.YtjooddmlkikldaaDoorWEqStruct
import Derived.Test.YtjooddmlkikldaaDoorWRepsOne
import Derived.Test.YtjooddmlkikldaaDoorWInv
import Derived.Test.YtjooddmlkikldaaDoorWInvWords
import Derived.Test.YtjooddmlkikldaaDoorWGuard
import Derived.Test.YtjooddmlkikldaaDoorWNEv
import Derived.Test.YtjooddmlkikldaaDoorWMore
namespace Go.Proofs.YtjooddmlkikldaaDoor.M
open Go.RowKit Go.Proofs.YtjooddmlkikldaaDoorW.PrintWords Go.Proofs.YtjooddmlkikldaaDoorW.PrintLast Go.Proofs.YtjooddmlkikldaaDoorW.PrintMore
attribute [local go_sem] max2_int min2_int max_two min_two max_three min_three max_four min_four   -- for this text's walks alone
set_option linter.unusedVariables false
set_option linter.unusedSimpArgs false



def errW : Option Int → Value
  | none => .nilIface
  | some c => .iface 0 (.int .i64 c)
theorem errW_none : errW none = .nilIface := rfl
theorem errW_some (c : Int) : errW (some c) = .iface 0 (.int .i64 c) := rfl

-- the values' own types

end Go.Proofs.YtjooddmlkikldaaDoor.M
