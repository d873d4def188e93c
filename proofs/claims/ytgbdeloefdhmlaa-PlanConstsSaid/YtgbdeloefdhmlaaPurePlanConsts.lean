/- The closed sentence PlanConsts answers true. No condition. -/
import Derived.Test.YtgbdeloefdhmlaaPPlanConstsx1
namespace Go.Proofs.Ytgbdeloefdhmlaa.Pure
open Go.RowKit Go.Proofs.Ytgbdeloefdhmlaa.PPlanConsts Go.Proofs.YtgbdeloefdhmlaaW.PrintWords Go.Proofs.YtgbdeloefdhmlaaW.PrintLast

theorem PlanConsts : mullionlaw05_PlanConsts.Pure := rfl

end Go.Proofs.Ytgbdeloefdhmlaa.Pure
