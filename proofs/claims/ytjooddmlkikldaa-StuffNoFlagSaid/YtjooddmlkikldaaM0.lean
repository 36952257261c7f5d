/- Written by wip/myprint.py of this repository (a driver over the kit's print; no print of print.sh) for the seat Ytjooddmlkikldaa: contracts of functions and rows of laws, each stated whole in its theorem; no condition beside those in the statements. -/
import Derived.Test.YtjooddmlkikldaaProg
import Derived.Below
import Derived.Deep.Draws
import Derived.Deep.AppendLies
import Derived.Maps.AppendAt
import Derived.OwnWalk
import Derived.Laws.BytesArg
import Derived.Laws.MakeOwn
import Derived.Laws.OwnMore
import Derived.Deep.OwnRows
import Derived.Tactics
import Derived.Lib.ConvBytes
import Derived.Laws.Slices
import Derived.WalkKit
import Derived.KernelRfl
import Derived.RowKit3
import Derived.Deep.LoopGhost
import Derived.Deep.QuietTactic
import Derived.BigQuiet
import Derived.WideLaws
import Derived.Deep.DeepCutAuto
import Derived.Deep.CutBlock
import Derived.Deep.RegionHeld3
import Derived.Laws.Rows
import Derived.Lib.AppendStr
import Derived.ArgAppend
import Derived.Laws.IdiomCopy
import Derived.OrdersHeld
import Derived.Laws.BitsLemmas
import Derived.RowKit
import Derived.Shelf.Strings.Builder1
import Derived.Shelf.Strings.Builder2
import Derived.Test.YtjooddmlkikldaaExtra
import Derived.Test.YtjooddmlkikldaaFz
import Derived.Test.YtjooddmlkikldaaPlain
import Derived.Test.YtjooddmlkikldaaShelf
import Derived.Test.YtjooddmlkikldaaStuffL
import Derived.Test.YtjooddmlkikldaaWWords
import Derived.Test.YtjooddmlkikldaaWLast
import Derived.Test.YtjooddmlkikldaaWTab
import Derived.Test.YtjooddmlkikldaaWFour
import Derived.Test.YtjooddmlkikldaaWQPut
import Derived.Test.YtjooddmlkikldaaWApart
import Derived.Test.YtjooddmlkikldaaWArr
import Derived.Test.YtjooddmlkikldaaWZeros
import Derived.Test.YtjooddmlkikldaaWFoot
import Derived.Test.YtjooddmlkikldaaWKept
import Derived.Test.YtjooddmlkikldaaWShare
import Derived.Test.YtjooddmlkikldaaWN
import Derived.Test.YtjooddmlkikldaaWFootNe
import Derived.Test.YtjooddmlkikldaaWAt
import Derived.Test.YtjooddmlkikldaaWEqStruct
import Derived.Test.YtjooddmlkikldaaWRepsOne
import Derived.Test.YtjooddmlkikldaaWInv
import Derived.Test.YtjooddmlkikldaaWInvWords
import Derived.Test.YtjooddmlkikldaaWGuard
import Derived.Test.YtjooddmlkikldaaWNEv
import Derived.Test.YtjooddmlkikldaaWMore
namespace Go.Proofs.Ytjooddmlkikldaa.M
open Go.RowKit Go.Proofs.YtjooddmlkikldaaW.PrintWords Go.Proofs.YtjooddmlkikldaaW.PrintLast Go.Proofs.YtjooddmlkikldaaW.PrintMore
attribute [local go_sem] max2_int min2_int max_two min_two max_three min_three max_four min_four   -- for this text's walks alone
set_option linter.unusedVariables false
set_option linter.unusedSimpArgs false



def errW : Option Int → Value
  | none => .nilIface
  | some c => .iface 0 (.int .i64 c)
theorem errW_none : errW none = .nilIface := rfl
theorem errW_some (c : Int) : errW (some c) = .iface 0 (.int .i64 c) := rfl

-- the values' own types

end Go.Proofs.Ytjooddmlkikldaa.M
