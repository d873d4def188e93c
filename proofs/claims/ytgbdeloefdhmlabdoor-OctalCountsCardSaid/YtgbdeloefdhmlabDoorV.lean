/- The machine side of functions of this seat, written by a program for this claim. Conditions: as each theorem says. -/
import Derived.Test.YtgbdeloefdhmlabDoorV0
import Derived.Test.YtgbdeloefdhmlabDoorV1
import Derived.Test.YtgbdeloefdhmlabDoorV2
import Derived.Test.YtgbdeloefdhmlabDoorV3
namespace Go.Proofs.YtgbdeloefdhmlabDoor.V
open Go.RowKit Go.Proofs.YtgbdeloefdhmlabDoorW.PrintWords Go.Proofs.YtgbdeloefdhmlabDoorW.PrintLast Go.Proofs.YtgbdeloefdhmlabDoorW.PrintMore
attribute [local go_sem] max2_int min2_int max_two min_two max_three min_three max_four min_four   -- for this text's walks alone
set_option linter.unusedVariables false
set_option linter.unusedSimpArgs false

end Go.Proofs.YtgbdeloefdhmlabDoor.V
