/- The law OctalReads as a plain statement over the printed functions. Condition: texts of at most 2^40 bytes. -/
import Derived.Test.YtgbdeloefdhmlabReadPure
namespace Go.Proofs.Ytgbdeloefdhmlab.Esc
open Go.RowKit Go.Proofs.Ytgbdeloefdhmlab.Q Go.Proofs.Ytgbdeloefdhmlab.Txt Go.Proofs.Ytgbdeloefdhmlab.Giv Go.Proofs.YtgbdeloefdhmlabW.PrintWords Go.Proofs.YtgbdeloefdhmlabW.PrintLast
set_option linter.unusedVariables false

theorem pureReads (s : ByteArray) (h : s.size ≤ 1099511627776) : ∃ k, mullionlaw01_OctalReads.f k s = some true := by
  rw [S_of s]
  have hl : s.data.toList.length ≤ 1099511627776 := by rw [data_len]; exact h
  generalize s.data.toList = l at hl ⊢
  refine ⟨3 * l.length + 5, ?_⟩
  unfold mullionlaw01_OctalReads.f
  rw [ownUn l (by omega), refUnescape l _ (by omega) (by omega), ownUnBody l _ (by omega) (by omega), refUnBody l _ (by omega) (by omega)]
  simp

end Go.Proofs.Ytgbdeloefdhmlab.Esc
