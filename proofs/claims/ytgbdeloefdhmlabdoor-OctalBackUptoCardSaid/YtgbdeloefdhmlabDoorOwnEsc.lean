/- What the program's printed Escape and EscapeBody come to. Condition: texts of at most 2^44 bytes. -/
import Derived.Test.YtgbdeloefdhmlabDoorQ
import Derived.Test.YtgbdeloefdhmlabDoorGivEsc
import Derived.Test.YtgbdeloefdhmlabDoorOctB
import Derived.Test.YtgbdeloefdhmlabDoorTxt
namespace Go.Proofs.YtgbdeloefdhmlabDoor.Esc
open Go.RowKit Go.Proofs.YtgbdeloefdhmlabDoor.Q Go.Proofs.YtgbdeloefdhmlabDoor.Giv Go.Proofs.YtgbdeloefdhmlabDoor.Txt Go.Proofs.YtgbdeloefdhmlabDoorW.PrintWords Go.Proofs.YtgbdeloefdhmlabDoorW.PrintLast
set_option linter.unusedVariables false

theorem ownEscape' (l : List UInt8) (h0 : (Oct.escape l).length ≤ 140737488355328) : octal_Escape.f (S l) = some (S (Oct.escape l)) := by
  have := (Oct.escape_len l).1
  unfold octal_Escape.f
  rw [if_pos h0, if_pos (by rw [S_size]; omega)]
theorem ownEscape (l : List UInt8) (hl : l.length ≤ 17592186044416) : octal_Escape.f (S l) = some (S (Oct.escape l)) :=
  ownEscape' l (by have := (Oct.escape_len l).2; omega)

theorem ownBody' (l : List UInt8) (k : Nat) (h0 : (Oct.escBody l).length ≤ 140737488355328) (hk : 1 ≤ k) : octal_EscapeBody.f k (S l) = some (S (Oct.escBody l)) := by
  obtain ⟨k, rfl⟩ : ∃ m, k = m + 1 := ⟨k - 1, by omega⟩
  unfold octal_EscapeBody.f
  cases l with
  | nil =>
    rw [if_pos (by rw [S_toList])]
    simp only [octal_EscapeBody.j0]
    rw [if_neg (by simp), ownEscape' _ (by simp [Oct.escape])]
    rfl
  | cons c r =>
    rw [Oct.escBody_cons] at h0
    rw [if_neg (by rw [S_toList]; simp), if_pos (by rw [S_size, List.length_cons]; omega), bt_head]
    simp only [octal_EscapeBody.j0]
    rw [Oct.escBody_cons]
    by_cases hc : c = 37
    · subst hc
      rw [if_pos rfl] at h0
      simp only [List.length_cons] at h0
      rw [if_pos (by decide), if_pos (by rw [S_size]; simp; omega), S_tail, ownEscape' _ (by omega)]
      simp only [Option.bind_some]
      have he := (Oct.escape_len r).2
      rw [if_pos (by rw [S_size]; omega), if_pos trivial]
      exact congrArg some (S_app [92, 48, 52, 53] (Oct.escape r))
    · have hn : ((c.toNat : Int) == 37) = false := by
        rw [beq_eq_false_iff_ne]
        intro h
        exact hc (Oct.ext _ _ (by have : (37 : UInt8).toNat = 37 := rfl; omega))
      rw [if_neg hc] at h0
      rw [hn, if_neg (by simp), ownEscape' _ h0, if_neg hc]
      rfl

theorem ownBody (l : List UInt8) (k : Nat) (hl : l.length ≤ 17592186044416) (hk : 1 ≤ k) : octal_EscapeBody.f k (S l) = some (S (Oct.escBody l)) :=
  ownBody' l k (by have := Oct.escBody_len l; omega) hk

end Go.Proofs.YtgbdeloefdhmlabDoor.Esc
