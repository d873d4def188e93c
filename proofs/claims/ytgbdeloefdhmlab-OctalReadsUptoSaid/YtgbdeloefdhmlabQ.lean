/- The machine side of functions of this seat, written by a program for this claim. Conditions: as each theorem says. -/
import Derived.Test.YtgbdeloefdhmlabQ0
import Derived.Test.YtgbdeloefdhmlabQ1
import Derived.Test.YtgbdeloefdhmlabQ2
import Derived.Test.YtgbdeloefdhmlabQ3
namespace Go.Proofs.Ytgbdeloefdhmlab.Q
open Go.RowKit Go.Proofs.YtgbdeloefdhmlabW.PrintWords Go.Proofs.YtgbdeloefdhmlabW.PrintLast Go.Proofs.YtgbdeloefdhmlabW.PrintMore
attribute [local go_sem] max2_int min2_int max_two min_two max_three min_three max_four min_four   -- for this text's walks alone
set_option linter.unusedVariables false
set_option linter.unusedSimpArgs false

end Go.Proofs.Ytgbdeloefdhmlab.Q
