/- strings.HasPrefix by the shelf's contract, in the print's own shape. No condition. -/
import Derived.Test.YtgbdeloefdhmlabShelf
import Derived.Test.YtgbdeloefdhmlabWMore
import Derived.Test.YtgbdeloefdhmlabTxt
namespace Go.Proofs.Ytgbdeloefdhmlab.Giv
open Go.RowKit Go.Proofs.Ytgbdeloefdhmlab.Txt Go.Proofs.YtgbdeloefdhmlabW.PrintWords

def strings_HasPrefix.f (a0 a1 : ByteArray) : Option Bool := some (Lib.hasPrefix a0.data.toList a1.data.toList)
theorem strings_HasPrefix.calls (a0 a1 : ByteArray) (r : Bool) (w : World) (h : strings_HasPrefix.f a0 a1 = some r) :
    Calls Try.prog 14 #[.string a0, .string a1] w fun e w' => e = .returned (.bool r) ∧ Drawn0 w w' := by
  obtain rfl := Option.some.inj h
  refine (Try.strings_HasPrefix a0 a1 w).mono ?_
  rintro e w' ⟨rfl, rfl⟩
  exact ⟨rfl, Drawn0.refl _⟩
theorem prefix_f (a b : List UInt8) : strings_HasPrefix.f (S a) (S b) = some (b.isPrefixOf a) := rfl

end Go.Proofs.Ytgbdeloefdhmlab.Giv
