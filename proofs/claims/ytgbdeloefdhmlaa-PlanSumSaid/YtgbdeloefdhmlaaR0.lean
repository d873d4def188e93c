/- The machine side of functions of this seat, written by a program for this claim. Conditions: as each theorem says. -/
import Derived.Test.YtgbdeloefdhmlaaProg
import Derived.Below
import Derived.Deep.Draws
import Derived.Deep.AppendLies
import Derived.Maps.AppendAt
import Derived.OwnWalk
import Derived.Laws.BytesArg
import Derived.Laws.MakeOwn
import Derived.Laws.OwnMore
import Derived.Deep.OwnRows
import Derived.Tactics
import Derived.Lib.ConvBytes
import Derived.Laws.Slices
import Derived.WalkKit
import Derived.KernelRfl
import Derived.RowKit3
import Derived.Deep.LoopGhost
import Derived.Deep.QuietTactic
import Derived.BigQuiet
import Derived.WideLaws
import Derived.Deep.DeepCutAuto
import Derived.Deep.CutBlock
import Derived.Deep.RegionHeld3
import Derived.Laws.Rows
import Derived.Lib.AppendStr
import Derived.ArgAppend
import Derived.Laws.IdiomCopy
import Derived.OrdersHeld
import Derived.Laws.BitsLemmas
import Derived.RowKit
import Derived.Test.YtgbdeloefdhmlaaWWords
import Derived.Test.YtgbdeloefdhmlaaWLast
import Derived.Test.YtgbdeloefdhmlaaWTab
import Derived.Test.YtgbdeloefdhmlaaWFour
import Derived.Test.YtgbdeloefdhmlaaWQPut
import Derived.Test.YtgbdeloefdhmlaaWApart
import Derived.Test.YtgbdeloefdhmlaaWArr
import Derived.Test.YtgbdeloefdhmlaaWZeros
import Derived.Test.YtgbdeloefdhmlaaWFoot
import Derived.Test.YtgbdeloefdhmlaaWKept
import Derived.Test.YtgbdeloefdhmlaaWShare
import Derived.Test.YtgbdeloefdhmlaaWN
import Derived.Test.YtgbdeloefdhmlaaWFootNe
import Derived.Test.YtgbdeloefdhmlaaWAt
import Derived.Test.YtgbdeloefdhmlaaWEqStruct
import Derived.Test.YtgbdeloefdhmlaaWRepsOne
import Derived.Test.YtgbdeloefdhmlaaWInv
import Derived.Test.YtgbdeloefdhmlaaWInvWords
import Derived.Test.YtgbdeloefdhmlaaWGuard
import Derived.Test.YtgbdeloefdhmlaaWNEv
import Derived.Test.YtgbdeloefdhmlaaWMore
namespace Go.Proofs.Ytgbdeloefdhmlaa.R
open Go.RowKit Go.Proofs.YtgbdeloefdhmlaaW.PrintWords Go.Proofs.YtgbdeloefdhmlaaW.PrintLast Go.Proofs.YtgbdeloefdhmlaaW.PrintMore
attribute [local go_sem] max2_int min2_int max_two min_two max_three min_three max_four min_four   -- for this text's walks alone
set_option linter.unusedVariables false
set_option linter.unusedSimpArgs false



def errW : Option Int → Value
  | none => .nilIface
  | some c => .iface 0 (.int .i64 c)
theorem errW_none : errW none = .nilIface := rfl
theorem errW_some (c : Int) : errW (some c) = .iface 0 (.int .i64 c) := rfl

-- the values' own types

end Go.Proofs.Ytgbdeloefdhmlaa.R
