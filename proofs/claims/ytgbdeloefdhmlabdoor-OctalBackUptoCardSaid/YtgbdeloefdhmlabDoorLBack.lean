/- The laws OctalBack and OctalForth as plain statements over the printed functions. Condition: texts of at most 2^40 bytes. -/
import Derived.Test.YtgbdeloefdhmlabDoorReadPure
import Derived.Test.YtgbdeloefdhmlabDoorOwnEsc
namespace Go.Proofs.YtgbdeloefdhmlabDoor.Esc
open Go.RowKit Go.Proofs.YtgbdeloefdhmlabDoor.Q Go.Proofs.YtgbdeloefdhmlabDoor.Txt Go.Proofs.YtgbdeloefdhmlabDoor.Giv Go.Proofs.YtgbdeloefdhmlabDoorW.PrintWords Go.Proofs.YtgbdeloefdhmlabDoorW.PrintLast
set_option linter.unusedVariables false
set_option linter.unusedSimpArgs false

theorem pureBack (s : ByteArray) (h : s.size ≤ 1099511627776) : ∃ k, mullionlaw01_OctalBack.f k s = some true := by
  rw [S_of s]
  have hl : s.data.toList.length ≤ 1099511627776 := by rw [data_len]; exact h
  generalize s.data.toList = l at hl ⊢
  refine ⟨1, ?_⟩
  have h1 := (Oct.escape_len l).2
  have h2 := Oct.escBody_len l
  have e1 : (⟨#[97, 10]⟩ : ByteArray) = S [97, 10] := rfl
  have b1 : Oct.unescape (Oct.escape l) = some l := Oct.unescape_back l
  have b2 : Oct.unBody (Oct.escBody l) = some l := (Oct.unBody_iff _ _).2 rfl
  have b3 : Oct.unescape (Oct.escape [97, 10]) = some [97, 10] := Oct.unescape_back _
  have r1 : res (some l) = (S l, 0) := rfl
  have r2 : res (some ([97, 10] : List UInt8)) = (S [97, 10], 0) := rfl
  unfold mullionlaw01_OctalBack.f
  rw [ownEscape l (by omega)]
  simp only [Option.bind_some]
  rw [ownUn _ (by omega), b1, r1, ownBody l _ (by omega) (by omega)]
  simp only [Option.bind_some]
  rw [ownUnBody _ _ (by omega) (by omega), b2, r1, e1, ownEscape [97, 10] (by simp)]
  simp only [Option.bind_some]
  rw [ownUn _ (by decide), b3, r2]
  simp

theorem pureForth (s : ByteArray) (h : s.size ≤ 140737488351232) : ∃ k, mullionlaw01_OctalForth.f k s = some true := by
  rw [S_of s]
  have hl : s.data.toList.length ≤ 140737488351232 := by rw [data_len]; exact h
  generalize s.data.toList = l at hl ⊢
  refine ⟨2, ?_⟩
  have e1 : (⟨#[112, 108, 97, 105, 110]⟩ : ByteArray) = S [112, 108, 97, 105, 110] := rfl
  have b3 : Oct.unescape [112, 108, 97, 105, 110] = some [112, 108, 97, 105, 110] := (Oct.unescape_iff _ _).2 (by decide)
  have r2 : res (some ([112, 108, 97, 105, 110] : List UInt8)) = (S [112, 108, 97, 105, 110], 0) := rfl
  have r0 : res none = (S [], 10) := rfl
  have rs : ∀ t, res (some t) = (S t, 0) := fun _ => rfl
  have rest : mullionlaw01_OctalForth.j0 2 (S l) false = some true := by
    simp only [mullionlaw01_OctalForth.j0]
    rw [if_neg (by simp), ownUnBody l _ (by omega) (by omega), e1, ownUn [112, 108, 97, 105, 110] (by decide), b3, r2]
    simp only [Option.bind_some]
    cases hu : Oct.unBody l with
    | none =>
      rw [r0]
      simp
    | some t =>
      have ht := Oct.unBody_len _ _ hu
      rw [rs]
      simp only [Option.bind_some]
      rw [if_pos trivial, ownBody' t _ (by rw [(Oct.unBody_iff _ _).1 hu]; omega) (by omega), (Oct.unBody_iff _ _).1 hu]
      simp
  unfold mullionlaw01_OctalForth.f
  rw [ownUn l (by omega)]
  cases hu : Oct.unescape l with
  | none =>
    rw [r0]
    simp only [Option.bind_some]
    rw [if_neg (by decide), S_toList]
    exact rest
  | some t =>
    have ht := Oct.unescape_len _ _ hu
    rw [rs]
    simp only [Option.bind_some]
    rw [if_pos trivial, ownEscape' t (by rw [(Oct.unescape_iff _ _).1 hu]; omega), (Oct.unescape_iff _ _).1 hu]
    simp only [Option.bind_some]
    rw [if_pos trivial]
    exact rest

end Go.Proofs.YtgbdeloefdhmlabDoor.Esc
