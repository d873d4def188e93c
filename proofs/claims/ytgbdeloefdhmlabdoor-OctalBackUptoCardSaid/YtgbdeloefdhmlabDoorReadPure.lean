/- What the program's printed Unescape and UnescapeBody come to. Condition: texts of at most 2^47 - 4096 bytes. -/
import Derived.Test.YtgbdeloefdhmlabDoorUnRes
import Derived.Test.YtgbdeloefdhmlabDoorQ
import Derived.Test.YtgbdeloefdhmlabDoorGivUn
import Derived.Test.YtgbdeloefdhmlabDoorGivPre
namespace Go.Proofs.YtgbdeloefdhmlabDoor.Esc
open Go.RowKit Go.Proofs.YtgbdeloefdhmlabDoor.Q Go.Proofs.YtgbdeloefdhmlabDoor.Txt Go.Proofs.YtgbdeloefdhmlabDoor.Giv Go.Proofs.YtgbdeloefdhmlabDoorW.PrintWords Go.Proofs.YtgbdeloefdhmlabDoorW.PrintLast
set_option linter.unusedVariables false

theorem ownUn (l : List UInt8) (hl : l.length ≤ 140737488351232) : octal_Unescape.f (S l) = some (res (Oct.unescape l)) := by
  unfold octal_Unescape.f
  rw [if_pos (by rw [S_size]; omega)]
  rfl
theorem ownUnBody (l : List UInt8) (k : Nat) (hl : l.length ≤ 140737488351232) (hk : 1 ≤ k) : octal_UnescapeBody.f k (S l) = some (res (Oct.unBody l)) := by
  obtain ⟨k, rfl⟩ : ∃ m, k = m + 1 := ⟨k - 1, by omega⟩
  unfold octal_UnescapeBody.f
  have ep : (⟨#[92, 48, 52, 53]⟩ : ByteArray) = S [92, 48, 52, 53] := rfl
  have rest : l.head? ≠ some 37 → octal_UnescapeBody.j0 (k + 1) (S l) false = some (res (Oct.unBody l)) := by
    intro hh
    simp only [octal_UnescapeBody.j0]
    rw [if_neg (by simp), ep, prefix_f]
    simp only [Option.bind_some]
    unfold Oct.unBody
    rw [if_neg hh]
    cases hp : ([92, 48, 52, 53] : List UInt8).isPrefixOf l with
    | false =>
      rw [if_neg (by simp), if_neg (by simp), ownUn l hl]
      rfl
    | true =>
      have h4 : 4 ≤ l.length := by
        rw [List.isPrefixOf_iff_prefix] at hp
        have := hp.length_le
        simpa using this
      rw [if_pos rfl, if_pos rfl, if_pos (by rw [S_size]; omega), tail4, ownUn _ (by rw [List.length_drop]; omega)]
      simp only [Option.bind_some]
      cases hu : Oct.unescape (l.drop 4) with
      | none => rfl
      | some t =>
        have ht := Oct.unescape_len _ _ hu
        rw [List.length_drop] at ht
        have er : res (some t) = (S t, 0) := rfl
        have er2 : res (Option.map (fun x => 37 :: x) (some t)) = (S (37 :: t), 0) := rfl
        rw [er, er2]
        have hle : 1 + (S t).size ≤ 9223372036854775807 := by rw [S_size]; omega
        rw [if_pos rfl, if_pos hle]
        exact congrArg (fun x => some (x, (0 : Int))) (S_app [37] t)
  cases l with
  | nil =>
    rw [if_pos (by rw [S_toList])]
    exact rest (by simp)
  | cons c r =>
    rw [if_neg (by rw [S_toList]; simp), if_pos (by rw [S_size]; simp only [List.length_cons]; omega), bt_head]
    by_cases hc : c = 37
    · have e1 : ((c.toNat : Int) == 37) = true := by rw [hc]; rfl
      rw [e1]
      simp only [octal_UnescapeBody.j0]
      rw [if_pos trivial]
      unfold Oct.unBody
      rw [if_pos (by rw [hc]; rfl)]
      rfl
    · have e1 : ((c.toNat : Int) == 37) = false := by
        rw [beq_eq_false_iff_ne]
        exact fun h => hc (ext _ _ (by have : (37 : UInt8).toNat = 37 := rfl; omega))
      rw [e1]
      exact rest (by simpa using hc)

end Go.Proofs.YtgbdeloefdhmlabDoor.Esc
