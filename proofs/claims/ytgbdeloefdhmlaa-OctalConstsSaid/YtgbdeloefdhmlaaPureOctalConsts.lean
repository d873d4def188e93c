/- The closed sentence OctalConsts answers true. No condition. -/
import Derived.Test.YtgbdeloefdhmlaaPOctalConstsx1
namespace Go.Proofs.Ytgbdeloefdhmlaa.Pure
open Go.RowKit Go.Proofs.Ytgbdeloefdhmlaa.POctalConsts Go.Proofs.YtgbdeloefdhmlaaW.PrintWords Go.Proofs.YtgbdeloefdhmlaaW.PrintLast

theorem OctalConsts : mullionlaw01_OctalConsts.Pure := rfl

end Go.Proofs.Ytgbdeloefdhmlaa.Pure
