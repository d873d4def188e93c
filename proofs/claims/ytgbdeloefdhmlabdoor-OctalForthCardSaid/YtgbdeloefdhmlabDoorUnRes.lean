/- What Unescape answers, as bytes and an error's number. No condition. -/
import Derived.Test.YtgbdeloefdhmlabDoorOctU
import Derived.Test.YtgbdeloefdhmlabDoorTxt
namespace Go.Proofs.YtgbdeloefdhmlabDoor.Esc
open Go.Proofs.YtgbdeloefdhmlabDoor.Txt
/-- what Unescape answers -/
def res (o : Option (List UInt8)) : ByteArray × Int := match o with
  | some t => (S t, 0)
  | none => (S [], 10)
theorem tail4 (l : List UInt8) : (S l).extract 4 (S l).size = S (l.drop 4) := by
  rw [S_extract, S_size]
  congr 2
  rw [List.take_of_length_le]
  rw [List.length_drop]
  exact Nat.le_refl _

end Go.Proofs.YtgbdeloefdhmlabDoor.Esc
