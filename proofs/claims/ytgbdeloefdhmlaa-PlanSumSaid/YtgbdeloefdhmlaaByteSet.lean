/- A text's bytes copied, one of them written: what the copy reads as, and its text. No condition. -/
import Derived.Test.YtgbdeloefdhmlaaTxt
import Derived.Lib.ConvBytes
import Derived.WalkKit
namespace Go.Proofs.Ytgbdeloefdhmlaa.Bs
open Go.RowKit Go.Proofs.Ytgbdeloefdhmlaa.Txt Go.Proofs.YtgbdeloefdhmlaaW.PrintWords
set_option linter.unusedVariables false
set_option linter.unusedSimpArgs false

theorem cells_size (w : World) (e : TypeId) (s : ByteArray) : s.size ≤ (Lib.bytesCells w e s).size := by
  unfold Lib.bytesCells
  rw [Array.size_append, Array.size_map]
  exact Nat.le_add_right _ _
theorem free_at (w : World) (e : TypeId) (s : ByteArray) (j : Nat) (hj : j < s.size) : (Lib.bytesWorld w e s).frozen? ⟨w.heap.size, j, none⟩ = false := by
  have h := cells_size w e s
  unfold World.frozen?
  rw [Lib.bytesWorld_at_new]
  simp
  omega
theorem cell_at (w : World) (e : TypeId) (s : ByteArray) (j : Nat) (hj : j < s.size) : ∃ v, (Lib.bytesWorld w e s).cell? ⟨w.heap.size, j, none⟩ = some v := ⟨_, Lib.bytesWorld_cell w e s j hj⟩

/-- the world behind 'b := []byte(s); b[j] = u' -/
noncomputable def setWorld (w : World) (e : TypeId) (s : ByteArray) (j : Nat) (u : Int) : World := (Lib.bytesWorld w e s).setCell ⟨w.heap.size, j, none⟩ (.int .u8 u)
theorem set_below (w : World) (e : TypeId) (s : ByteArray) (j : Nat) (u : Int) : Below w.heap.size w (setWorld w e s j u) :=
  (bytes_below (Below.refl _ w) (Nat.le_refl _) e s).setCell (Nat.le_refl _) _
theorem set_reads (w : World) (e : TypeId) (s : ByteArray) (j : Nat) (hj : j < s.size) (hs : s.size ≤ 9223372036854775807) (u : Int) : ReadsInt (setWorld w e s j u) .u8 (some ⟨w.heap.size, 0, none⟩) s.size ((bytesOf s).set j u) := by
  refine ⟨by rw [List.length_set, bytesOf_length], hs, fun _ => ⟨_, rfl, fun i hi => ?_⟩⟩
  rw [add_plain]
  unfold setWorld
  by_cases e1 : i = j
  · subst e1
    rw [World.cell?_setCell_same _ _ _ (Lib.bytesWorld_cell w e s i hi)]
    simp [List.getD_eq_getElem?_getD, bytesOf_length, hi]
  · rw [World.cell?_setCell_other _ _ _ _ (by intro h; injection h with _ h2 _; exact e1 h2.symm)]
    rw [Lib.bytesWorld_cell w e s i hi]
    have h' : i < s.data.toList.length := by rw [data_length]; exact hi
    have e2 : ¬ j = i := fun h => e1 h.symm
    simp [bytesOf, List.getD_eq_getElem?_getD, List.getElem?_set, e2, List.getElem?_eq_getElem h']
theorem set_text (l : List UInt8) (j : Nat) (d : UInt8) : strOfNums ((bytesOf (S l)).set j (d.toNat : Int)) = S (l.set j d) := by
  have e : (bytesOf (S l)).set j (d.toNat : Int) = Txt.nums (l.set j d) := by
    unfold bytesOf Txt.nums
    rw [List.map_set]
  rw [e, S_nums]

end Go.Proofs.Ytgbdeloefdhmlaa.Bs
