/- The machine side of functions of this seat, written by a program for this claim. Conditions: as each theorem says. -/
import Derived.Test.YtgbdeloefdhmlabProg
import Derived.Below
import Derived.Deep.Draws
import Derived.Deep.AppendLies
import Derived.Maps.AppendAt
import Derived.OwnWalk
import Derived.Laws.BytesArg
import Derived.Laws.MakeOwn
import Derived.Laws.OwnMore
import Derived.Deep.OwnRows
import Derived.Tactics
import Derived.Lib.ConvBytes
import Derived.Laws.Slices
import Derived.WalkKit
import Derived.KernelRfl
import Derived.RowKit3
import Derived.Deep.LoopGhost
import Derived.Deep.QuietTactic
import Derived.BigQuiet
import Derived.WideLaws
import Derived.Deep.DeepCutAuto
import Derived.Deep.CutBlock
import Derived.Deep.RegionHeld3
import Derived.Laws.Rows
import Derived.Lib.AppendStr
import Derived.ArgAppend
import Derived.Laws.IdiomCopy
import Derived.OrdersHeld
import Derived.Laws.BitsLemmas
import Derived.RowKit
import Derived.Test.YtgbdeloefdhmlabWWords
import Derived.Test.YtgbdeloefdhmlabWLast
import Derived.Test.YtgbdeloefdhmlabWTab
import Derived.Test.YtgbdeloefdhmlabWFour
import Derived.Test.YtgbdeloefdhmlabWQPut
import Derived.Test.YtgbdeloefdhmlabWApart
import Derived.Test.YtgbdeloefdhmlabWArr
import Derived.Test.YtgbdeloefdhmlabWZeros
import Derived.Test.YtgbdeloefdhmlabWFoot
import Derived.Test.YtgbdeloefdhmlabWKept
import Derived.Test.YtgbdeloefdhmlabWShare
import Derived.Test.YtgbdeloefdhmlabWN
import Derived.Test.YtgbdeloefdhmlabWFootNe
import Derived.Test.YtgbdeloefdhmlabWAt
import Derived.Test.YtgbdeloefdhmlabWEqStruct
import Derived.Test.YtgbdeloefdhmlabWRepsOne
import Derived.Test.YtgbdeloefdhmlabWInv
import Derived.Test.YtgbdeloefdhmlabWInvWords
import Derived.Test.YtgbdeloefdhmlabWGuard
import Derived.Test.YtgbdeloefdhmlabWNEv
import Derived.Test.YtgbdeloefdhmlabWMore
namespace Go.Proofs.Ytgbdeloefdhmlab.B
open Go.RowKit Go.Proofs.YtgbdeloefdhmlabW.PrintWords Go.Proofs.YtgbdeloefdhmlabW.PrintLast Go.Proofs.YtgbdeloefdhmlabW.PrintMore
attribute [local go_sem] max2_int min2_int max_two min_two max_three min_three max_four min_four   -- for this text's walks alone
set_option linter.unusedVariables false
set_option linter.unusedSimpArgs false



def errW : Option Int → Value
  | none => .nilIface
  | some c => .iface 0 (.int .i64 c)
theorem errW_none : errW none = .nilIface := rfl
theorem errW_some (c : Int) : errW (some c) = .iface 0 (.int .i64 c) := rfl

-- the values' own types

end Go.Proofs.Ytgbdeloefdhmlab.B
