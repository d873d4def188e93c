/- strings.HasPrefix by the shelf's contract, in the print's own shape. No condition. -/
import Derived.Test.YtgbdeloefdhmlabDoorShelf
import Derived.Test.YtgbdeloefdhmlabDoorWMore
import Derived.Test.YtgbdeloefdhmlabDoorTxt
namespace Go.Proofs.YtgbdeloefdhmlabDoor.Giv
open Go.RowKit Go.Proofs.YtgbdeloefdhmlabDoor.Txt Go.Proofs.YtgbdeloefdhmlabDoorW.PrintWords

def strings_HasPrefix.f (a0 a1 : ByteArray) : Option Bool := some (Lib.hasPrefix a0.data.toList a1.data.toList)
theorem strings_HasPrefix.calls (a0 a1 : ByteArray) (r : Bool) (w : World) (h : strings_HasPrefix.f a0 a1 = some r) :
    Calls Tryd.prog 40 #[.string a0, .string a1] w fun e w' => e = .returned (.bool r) ∧ Drawn0 w w' := by
  obtain rfl := Option.some.inj h
  refine (Tryd.strings_HasPrefix a0 a1 w).mono ?_
  rintro e w' ⟨rfl, rfl⟩
  exact ⟨rfl, Drawn0.refl _⟩
theorem prefix_f (a b : List UInt8) : strings_HasPrefix.f (S a) (S b) = some (b.isPrefixOf a) := rfl

end Go.Proofs.YtgbdeloefdhmlabDoor.Giv
