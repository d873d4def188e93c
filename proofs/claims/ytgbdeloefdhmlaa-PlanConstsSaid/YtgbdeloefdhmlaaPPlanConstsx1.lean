-- PRINTED BY print.sh 35421559b90ae4d0a3588c463048766b98c2df88dd9212a6774a882060cdf62d: not written by this session
import Derived.Test.YtgbdeloefdhmlaaPPlanConstsx0
namespace Go.Proofs.Ytgbdeloefdhmlaa.PPlanConsts
open Go.RowKit Go.Proofs.YtgbdeloefdhmlaaW.PrintWords Go.Proofs.YtgbdeloefdhmlaaW.PrintLast Go.Proofs.YtgbdeloefdhmlaaW.PrintMore
attribute [local go_sem] max2_int min2_int max_two min_two max_three min_three max_four min_four   -- for this text's walks alone
set_option linter.unusedVariables false
set_option linter.unusedSimpArgs false

/-! ### mullionlaw05_PlanConsts: function 4 -/
def mullionlaw05_PlanConsts.f  : Option (Bool) := some true
set_option maxHeartbeats 8000000 in
set_option maxRecDepth 100000 in
theorem mullionlaw05_PlanConsts.calls  (r : Bool) (w : World) (h : mullionlaw05_PlanConsts.f  = some r) :
    Calls Try.prog 4 #[] w fun e w' => e = .returned (.bool r) ∧ Drawn0 w w' := by
  have H : (some true) = some r := h
  clear h
  obtain rfl := Option.some.inj H
  go_enter Try.func4, Try.ntmps4
  go_wp2
  go_ret
  exact ⟨by first | rfl | (simp; done) | (simp [*]; done), by repeat (first | exact Drawn0.refl _ | apply Drawn0.step)⟩

/-- THE ONE PURE STATEMENT of mullionlaw05_PlanConsts: yours. -/
def mullionlaw05_PlanConsts.Pure : Prop := mullionlaw05_PlanConsts.f  = some true
theorem mullionlaw05_PlanConsts.walk (P : mullionlaw05_PlanConsts.Pure)  (w : World)  :
    Calls Try.prog 4 #[] w fun e w' => e = .returned (.bool true) ∧ Below w.heap.size w w' := by
  have h := P  
  refine (mullionlaw05_PlanConsts.calls  true w h).mono ?_
  rintro e w' ⟨rfl, hd⟩
  exact ⟨rfl, hd.below⟩

end Go.Proofs.Ytgbdeloefdhmlaa.PPlanConsts
