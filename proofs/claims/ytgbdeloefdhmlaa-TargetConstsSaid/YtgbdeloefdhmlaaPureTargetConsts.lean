/- The closed sentence TargetConsts answers true. No condition. -/
import Derived.Test.YtgbdeloefdhmlaaPTargetConstsx1
namespace Go.Proofs.Ytgbdeloefdhmlaa.Pure
open Go.RowKit Go.Proofs.Ytgbdeloefdhmlaa.PTargetConsts Go.Proofs.YtgbdeloefdhmlaaW.PrintWords Go.Proofs.YtgbdeloefdhmlaaW.PrintLast

theorem TargetConsts : mullionlaw11_TargetConsts.Pure := rfl

end Go.Proofs.Ytgbdeloefdhmlaa.Pure
