/- What the printed read of one escaped byte comes to; its contract for the walks. Condition: none but enough rounds. -/
import Derived.Test.YtgbdeloefdhmlabDoorB1
import Derived.Test.YtgbdeloefdhmlabDoorOctU
import Derived.Test.YtgbdeloefdhmlabDoorTxt
namespace Go.Proofs.YtgbdeloefdhmlabDoor.Giv
open Go.RowKit Go.Proofs.YtgbdeloefdhmlabDoor.B Go.Proofs.YtgbdeloefdhmlabDoor.Txt Go.Proofs.YtgbdeloefdhmlabDoorW.PrintWords Go.Proofs.YtgbdeloefdhmlabDoorW.PrintLast
set_option linter.unusedVariables false

theorem read_yes (x y z : UInt8) (r : List UInt8) (hx : Oct.isdig x = true) (hy : Oct.isdig y = true) (hz : Oct.isdig z = true) :
    octal_read.f 6 (S (92 :: x :: y :: z :: r)) = some ((Oct.worth x y z : Int) % 256, decide ((Oct.worth x y z : Int) < 256)) := by
  simp only [Oct.isdig, Bool.and_eq_true, decide_eq_true_eq] at hx hy hz
  unfold octal_read.f
  rw [if_neg (by rw [S_size]; simp only [List.length_cons]; omega), if_pos (by rw [S_size]; simp only [List.length_cons]; omega), bt_head]
  have e0 : (((92 : UInt8).toNat : Int) != 92) = false := rfl
  rw [e0]
  simp only [octal_read.j0]
  rw [if_neg (by simp)]
  have b1 : bt (S (92 :: x :: y :: z :: r)) 1 = (x.toNat : Int) := bt_mid [92] _ x 1 rfl
  have b2 : bt (S (92 :: x :: y :: z :: r)) 2 = (y.toNat : Int) := bt_mid [92, x] _ y 2 rfl
  have b3 : bt (S (92 :: x :: y :: z :: r)) 3 = (z.toNat : Int) := bt_mid [92, x, y] _ z 3 rfl
  have hs : (4 : Int) ≤ ((S (92 :: x :: y :: z :: r)).size : Int) := by rw [S_size]; simp; omega
  have w1 : wrap64 (1 + 1) = 2 := by unfold wrap64; omega
  have w2 : wrap64 (2 + 1) = 3 := by unfold wrap64; omega
  have w3 : wrap64 (3 + 1) = 4 := by unfold wrap64; omega
  generalize S (92 :: x :: y :: z :: r) = s at b1 b2 b3 hs ⊢
  simp only [octal_read.l0]
  rw [if_pos (by omega), if_pos (by omega), if_pos (by omega), b1, if_neg (by omega), if_neg (by omega), w1, if_pos (by omega), if_pos (by omega), if_pos (by omega), b2, if_neg (by omega), if_neg (by omega), w2, if_pos (by omega), if_pos (by omega), if_pos (by omega), b3, if_neg (by omega), if_neg (by omega), w3, if_neg (by omega)]
  have e : wrap64 (wrap64 (8 * wrap64 (wrap64 (8 * wrap64 (wrap64 (8 * 0) + ((x.toNat : Int) - 48) % 256)) + ((y.toNat : Int) - 48) % 256)) + ((z.toNat : Int) - 48) % 256) = (Oct.worth x y z : Int) := by
    unfold Oct.worth
    have a1 : wrap64 (8 * 0) = 0 := by unfold wrap64; omega
    have a2 : wrap64 (0 + ((x.toNat : Int) - 48) % 256) = (x.toNat : Int) - 48 := by unfold wrap64; omega
    have a3 : wrap64 (8 * ((x.toNat : Int) - 48)) = 8 * ((x.toNat : Int) - 48) := by unfold wrap64; omega
    have a4 : wrap64 (8 * ((x.toNat : Int) - 48) + ((y.toNat : Int) - 48) % 256) = 8 * ((x.toNat : Int) - 48) + ((y.toNat : Int) - 48) := by unfold wrap64; omega
    have a5 : wrap64 (8 * (8 * ((x.toNat : Int) - 48) + ((y.toNat : Int) - 48))) = 8 * (8 * ((x.toNat : Int) - 48) + ((y.toNat : Int) - 48)) := by unfold wrap64; omega
    rw [a1, a2, a3, a4, a5]
    unfold wrap64
    omega
  rw [e]

theorem short_no (l : List UInt8) (h : l.length < 4) : octal_read.f 6 (S l) = some (0, false) := by
  unfold octal_read.f
  rw [if_pos (by rw [S_size]; omega)]
  rfl
theorem head_no (c : UInt8) (l : List UInt8) (h : 3 ≤ l.length) (hc : c ≠ 92) : octal_read.f 6 (S (c :: l)) = some (0, false) := by
  unfold octal_read.f
  rw [if_neg (by rw [S_size, List.length_cons]; omega), if_pos (by rw [S_size, List.length_cons]; omega), bt_head]
  have e0 : ((c.toNat : Int) != 92) = true := by
    rw [bne_iff_ne]
    exact byte_ne hc
  rw [e0]
  rfl
theorem nodig {c : UInt8} (h : Oct.isdig c = false) : (c.toNat : Int) < 48 ∨ (c.toNat : Int) > 55 := by
  simp only [Oct.isdig, Bool.and_eq_false_iff, decide_eq_false_iff_not] at h
  omega
theorem dig_no (x y z : UInt8) (r : List UInt8) (h : Oct.isdig x = false ∨ Oct.isdig y = false ∨ Oct.isdig z = false) :
    octal_read.f 6 (S (92 :: x :: y :: z :: r)) = some (0, false) := by
  unfold octal_read.f
  rw [if_neg (by rw [S_size]; simp only [List.length_cons]; omega), if_pos (by rw [S_size]; simp only [List.length_cons]; omega), bt_head]
  have e0 : (((92 : UInt8).toNat : Int) != 92) = false := rfl
  rw [e0]
  simp only [octal_read.j0]
  rw [if_neg (by simp)]
  have b1 : bt (S (92 :: x :: y :: z :: r)) 1 = (x.toNat : Int) := bt_mid [92] _ x 1 rfl
  have b2 : bt (S (92 :: x :: y :: z :: r)) 2 = (y.toNat : Int) := bt_mid [92, x] _ y 2 rfl
  have b3 : bt (S (92 :: x :: y :: z :: r)) 3 = (z.toNat : Int) := bt_mid [92, x, y] _ z 3 rfl
  have hs : (4 : Int) ≤ ((S (92 :: x :: y :: z :: r)).size : Int) := by rw [S_size]; simp; omega
  have w1 : wrap64 (1 + 1) = 2 := by unfold wrap64; omega
  have w2 : wrap64 (2 + 1) = 3 := by unfold wrap64; omega
  generalize S (92 :: x :: y :: z :: r) = s at b1 b2 b3 hs ⊢
  simp only [octal_read.l0]
  rw [if_pos (by omega), if_pos (by omega), if_pos (by omega), b1]
  by_cases x1 : (x.toNat : Int) < 48
  · rw [if_pos x1]
  · rw [if_neg x1]
    by_cases x2 : (x.toNat : Int) > 55
    · rw [if_pos x2]
    · rw [if_neg x2, w1, if_pos (by omega), if_pos (by omega), if_pos (by omega), b2]
      by_cases y1 : (y.toNat : Int) < 48
      · rw [if_pos y1]
      · rw [if_neg y1]
        by_cases y2 : (y.toNat : Int) > 55
        · rw [if_pos y2]
        · rw [if_neg y2, w2, if_pos (by omega), if_pos (by omega), if_pos (by omega), b3]
          have hz : (z.toNat : Int) < 48 ∨ (z.toNat : Int) > 55 := by
            rcases h with h | h | h
            · have := nodig h; omega
            · have := nodig h; omega
            · exact nodig h
          by_cases z1 : (z.toNat : Int) < 48
          · rw [if_pos z1]
          · rw [if_neg z1, if_pos (by omega)]

/-- read, as a function: the value, and whether there is one -/
theorem read_f (l : List UInt8) : (∀ d, Oct.read l = some d → octal_read.f 6 (S l) = some ((d.toNat : Int), true)) ∧ (Oct.read l = none → ∃ v, octal_read.f 6 (S l) = some (v, false)) := by
  match l with
  | [] => exact ⟨fun d h => by simp [Oct.read] at h, fun _ => ⟨0, short_no _ (by simp)⟩⟩
  | [_] => exact ⟨fun d h => by simp [Oct.read] at h, fun _ => ⟨0, short_no _ (by simp)⟩⟩
  | [_, _] => exact ⟨fun d h => by simp [Oct.read] at h, fun _ => ⟨0, short_no _ (by simp)⟩⟩
  | [_, _, _] => exact ⟨fun d h => by simp [Oct.read] at h, fun _ => ⟨0, short_no _ (by simp)⟩⟩
  | c :: x :: y :: z :: r =>
    by_cases hc : c = 92
    · subst hc
      by_cases hd : Oct.isdig x = true ∧ Oct.isdig y = true ∧ Oct.isdig z = true
      · obtain ⟨hx, hy, hz⟩ := hd
        have e := read_yes x y z r hx hy hz
        by_cases hw : Oct.worth x y z < 256
        · have hr : Oct.read (92 :: x :: y :: z :: r) = some (UInt8.ofNat (Oct.worth x y z)) := by
            simp only [Oct.read]
            rw [hx, hy, hz, decide_eq_true hw]
            rfl
          refine ⟨fun d h => ?_, fun h => ?_⟩
          · rw [hr] at h
            obtain rfl := Option.some.inj h
            rw [e, decide_eq_true (by omega)]
            congr 2
          · rw [hr] at h
            cases h
        · have hr : Oct.read (92 :: x :: y :: z :: r) = none := by
            simp only [Oct.read]
            rw [hx, hy, hz, decide_eq_false hw]
            rfl
          refine ⟨fun d h => ?_, fun h => ?_⟩
          · rw [hr] at h
            cases h
          · exact ⟨_, by rw [e, decide_eq_false (by omega)]⟩
      · have hr : Oct.read (92 :: x :: y :: z :: r) = none := by
          simp only [Oct.read]
          rw [if_neg]
          intro h
          simp only [Bool.and_eq_true] at h
          exact hd ⟨h.1.1.1, h.1.1.2, h.1.2⟩
        refine ⟨fun d h => (by rw [hr] at h; cases h), fun _ => ⟨0, dig_no x y z r ?_⟩⟩
        cases h1 : Oct.isdig x with
        | false => exact .inl rfl
        | true =>
          cases h2 : Oct.isdig y with
          | false => exact .inr (.inl rfl)
          | true =>
            cases h3 : Oct.isdig z with
            | false => exact .inr (.inr rfl)
            | true => exact absurd ⟨h1, h2, h3⟩ hd
    · have hr : Oct.read (c :: x :: y :: z :: r) = none := by
        unfold Oct.read
        split
        · rename_i h
          injection h with h1 _
          exact absurd h1 hc
        · rfl
      exact ⟨fun d h => (by rw [hr] at h; cases h), fun _ => ⟨0, head_no c _ (by simp) hc⟩⟩

end Go.Proofs.YtgbdeloefdhmlabDoor.Giv
