/- Of the texts of this claim, what it needs, put together by a program of this claim's author. Conditions: as each theorem says. -/
import Derived.WalkKit
import Derived.BigCall
import Derived.Lib.Hide
import Derived.Deep.RegionLaw
import Derived.BigRegion
import Derived.Deep.DeepCutAuto
import Derived.Maps.OwnSet
import Derived.Lib.Builder
import Derived.Lib.AppendStr
import Derived.Lib.UnsafeStr
import Derived.Lib.OthersKept
import Derived.Test.YtmpnkckaohfflaaDoorPtT4
section
namespace Go.Proofs.YtmpnkckaohfflaaDoor.L
open Go.Proofs.YtmpnkckaohfflaaDoor.K Go.RowKit Go.Proofs.YtmpnkckaohfflaaDoorW.PrintWords Go.Proofs.YtmpnkckaohfflaaDoorW.PrintLast Go.Proofs.YtmpnkckaohfflaaDoorW.PrintMore
attribute [local go_sem] max2_int min2_int max_two min_two max_three min_three max_four min_four
set_option linter.unusedVariables false
set_option linter.unusedSimpArgs false
mutual
def mullionref05_body.j0 : Nat → List (S45) → Int → ByteArray → ByteArray → ByteArray → Option (ByteArray)
  | 0, _, _, _, _, _ => none
  | k + 1, x0, x1, x6, x7, x8 => if x6.size + x7.size ≤ 9223372036854775807 then ((mullionref05_behind.f k x0 x1).bind fun t206 => (mullionref05_body.l0 k x0 x1 (x6 ++ x7) x8 t206 (wrap64 (x1 + 1)))) else (none)
def mullionref05_body.l0 : Nat → List (S45) → Int → ByteArray → ByteArray → Int → Int → Option (ByteArray)
  | 0, _, _, _, _, _, _ => none
  | k + 1, x0, x1, x6, x8, x9, x10 => if x10 < x9 then (if x10 > (wrap64 (x1 + 1)) then (if x6.size + 1 ≤ 9223372036854775807 then ((mullionref05_body.f k x0 x10).bind fun t207 => (if (x6 ++ (⟨#[44]⟩ : ByteArray)).size + t207.size ≤ 9223372036854775807 then ((mullionref05_behind.f k x0 x10).bind fun t208 => (mullionref05_body.l0 k x0 x1 ((x6 ++ (⟨#[44]⟩ : ByteArray)) ++ t207) x8 x9 t208)) else (none))) else (none)) else ((mullionref05_body.f k x0 x10).bind fun t209 => (if x6.size + t209.size ≤ 9223372036854775807 then ((mullionref05_behind.f k x0 x10).bind fun t210 => (mullionref05_body.l0 k x0 x1 (x6 ++ t209) x8 x9 t210)) else (none)))) else (if x6.size + x8.size ≤ 9223372036854775807 then (some (x6 ++ x8)) else (none))
def mullionref05_body.f : Nat → List (S45) → Int → Option (ByteArray)
  | 0, _, _ => none
  | k + 1, l0, a1 => if 0 ≤ a1 then (if a1 < (l0.length : Int) then ((mullionref01_PutNumber.f k ((rd_T45 l0 a1).f4)).bind fun t201 => (if t201.size + 1 ≤ 9223372036854775807 then ((mullionref01_PutNumber.f k ((rd_T45 l0 a1).f5)).bind fun t202 => (if (t201 ++ (⟨#[120]⟩ : ByteArray)).size + t202.size ≤ 9223372036854775807 then (if ((t201 ++ (⟨#[120]⟩ : ByteArray)) ++ t202).size + 1 ≤ 9223372036854775807 then ((mullionref01_PutNumber.f k ((rd_T45 l0 a1).f2)).bind fun t203 => (if (((t201 ++ (⟨#[120]⟩ : ByteArray)) ++ t202) ++ (⟨#[44]⟩ : ByteArray)).size + t203.size ≤ 9223372036854775807 then (if ((((t201 ++ (⟨#[120]⟩ : ByteArray)) ++ t202) ++ (⟨#[44]⟩ : ByteArray)) ++ t203).size + 1 ≤ 9223372036854775807 then ((mullionref01_PutNumber.f k ((rd_T45 l0 a1).f3)).bind fun t204 => (if (((((t201 ++ (⟨#[120]⟩ : ByteArray)) ++ t202) ++ (⟨#[44]⟩ : ByteArray)) ++ t203) ++ (⟨#[44]⟩ : ByteArray)).size + t204.size ≤ 9223372036854775807 then (if ((rd_T45 l0 a1).f1) = 1 then (if ((((((t201 ++ (⟨#[120]⟩ : ByteArray)) ++ t202) ++ (⟨#[44]⟩ : ByteArray)) ++ t203) ++ (⟨#[44]⟩ : ByteArray)) ++ t204).size + 1 ≤ 9223372036854775807 then ((mullionref01_PutNumber.f k ((rd_T45 l0 a1).f6)).bind fun t205 => (if (((((((t201 ++ (⟨#[120]⟩ : ByteArray)) ++ t202) ++ (⟨#[44]⟩ : ByteArray)) ++ t203) ++ (⟨#[44]⟩ : ByteArray)) ++ t204) ++ (⟨#[44]⟩ : ByteArray)).size + t205.size ≤ 9223372036854775807 then (some ((((((((t201 ++ (⟨#[120]⟩ : ByteArray)) ++ t202) ++ (⟨#[44]⟩ : ByteArray)) ++ t203) ++ (⟨#[44]⟩ : ByteArray)) ++ t204) ++ (⟨#[44]⟩ : ByteArray)) ++ t205)) else (none))) else (none)) else (if ((rd_T45 l0 a1).f1) = 3 then (mullionref05_body.j0 k l0 a1 ((((((t201 ++ (⟨#[120]⟩ : ByteArray)) ++ t202) ++ (⟨#[44]⟩ : ByteArray)) ++ t203) ++ (⟨#[44]⟩ : ByteArray)) ++ t204) (⟨#[91]⟩ : ByteArray) (⟨#[93]⟩ : ByteArray)) else (mullionref05_body.j0 k l0 a1 ((((((t201 ++ (⟨#[120]⟩ : ByteArray)) ++ t202) ++ (⟨#[44]⟩ : ByteArray)) ++ t203) ++ (⟨#[44]⟩ : ByteArray)) ++ t204) (⟨#[123]⟩ : ByteArray) (⟨#[125]⟩ : ByteArray)))) else (none))) else (none)) else (none))) else (none)) else (none))) else (none))) else (none)) else (none)
end
theorem mullionref05_body.mono_l : ∀ k, (∀ y0 y1, LeO (mullionref05_body.f k y0 y1) (mullionref05_body.f (k + 1) y0 y1)) ∧ (∀ y0 y1 y2 y3 y4, LeO (mullionref05_body.j0 k y0 y1 y2 y3 y4) (mullionref05_body.j0 (k + 1) y0 y1 y2 y3 y4)) ∧ (∀ y0 y1 y2 y3 y4 y5, LeO (mullionref05_body.l0 k y0 y1 y2 y3 y4 y5) (mullionref05_body.l0 (k + 1) y0 y1 y2 y3 y4 y5))
  | 0 => ⟨fun _ _ r h => by simp [mullionref05_body.f] at h, fun _ _ _ _ _ r h => by simp [mullionref05_body.j0] at h, fun _ _ _ _ _ _ r h => by simp [mullionref05_body.l0] at h⟩
  | k + 1 => by
    obtain ⟨ih0, ih1, ih2⟩ := mullionref05_body.mono_l k
    refine ⟨?_, ?_, ?_⟩
    · intro y0 y1
      unfold mullionref05_body.f
      repeat' first
      | (with_reducible exact ih0 _ _)
      | (with_reducible exact ih1 _ _ _ _ _)
      | (with_reducible exact ih2 _ _ _ _ _ _)
      | (with_reducible exact mullionref01_PutNumber.mono _ _)
      | (with_reducible exact mullionref05_behind.mono _ _ _)
      | (with_reducible exact LeO.refl _)
      | (with_reducible exact LeO.none _)
      | (with_reducible refine LeO.ite ?_ ?_)
      | (with_reducible refine LeO.bind ?_ (fun _ => ?_))
      | exact ih0 _ _
      | exact ih1 _ _ _ _ _
      | exact ih2 _ _ _ _ _ _
      | exact mullionref01_PutNumber.mono _ _
      | exact mullionref05_behind.mono _ _ _
      | exact LeO.none _
      | refine LeO.ite ?_ ?_
      | refine LeO.bind ?_ (fun _ => ?_)
    · intro y0 y1 y2 y3 y4
      unfold mullionref05_body.j0
      repeat' first
      | (with_reducible exact ih0 _ _)
      | (with_reducible exact ih1 _ _ _ _ _)
      | (with_reducible exact ih2 _ _ _ _ _ _)
      | (with_reducible exact mullionref01_PutNumber.mono _ _)
      | (with_reducible exact mullionref05_behind.mono _ _ _)
      | (with_reducible exact LeO.refl _)
      | (with_reducible exact LeO.none _)
      | (with_reducible refine LeO.ite ?_ ?_)
      | (with_reducible refine LeO.bind ?_ (fun _ => ?_))
      | exact ih0 _ _
      | exact ih1 _ _ _ _ _
      | exact ih2 _ _ _ _ _ _
      | exact mullionref01_PutNumber.mono _ _
      | exact mullionref05_behind.mono _ _ _
      | exact LeO.none _
      | refine LeO.ite ?_ ?_
      | refine LeO.bind ?_ (fun _ => ?_)
    · intro y0 y1 y2 y3 y4 y5
      unfold mullionref05_body.l0
      repeat' first
      | (with_reducible exact ih0 _ _)
      | (with_reducible exact ih1 _ _ _ _ _)
      | (with_reducible exact ih2 _ _ _ _ _ _)
      | (with_reducible exact mullionref01_PutNumber.mono _ _)
      | (with_reducible exact mullionref05_behind.mono _ _ _)
      | (with_reducible exact LeO.refl _)
      | (with_reducible exact LeO.none _)
      | (with_reducible refine LeO.ite ?_ ?_)
      | (with_reducible refine LeO.bind ?_ (fun _ => ?_))
      | exact ih0 _ _
      | exact ih1 _ _ _ _ _
      | exact ih2 _ _ _ _ _ _
      | exact mullionref01_PutNumber.mono _ _
      | exact mullionref05_behind.mono _ _ _
      | exact LeO.none _
      | refine LeO.ite ?_ ?_
      | refine LeO.bind ?_ (fun _ => ?_)
theorem mullionref05_body.mono : ∀ a0 a1 k, LeO (mullionref05_body.f k a0 a1) (mullionref05_body.f (k + 1) a0 a1) := by
  intro a0 a1 k
  obtain ⟨ih0, ih1, ih2⟩ := mullionref05_body.mono_l k
  exact ih0 a0 a1
def mullionref05_body.T2 : Bool × List (List Nat × List Nat) := (true, [([], []), ([0], [0]), ([1], [1]), ([2], [2]), ([], []), ([4], [4]), ([5, 2], [5]), ([3, 6], [3, 6]), ([7], [7]), ([], []), ([9], [9]), ([10, 6], [10]), ([8, 11], [8, 11]), ([12], [12]), ([], []), ([14], [14]), ([15, 11], [15]), ([13, 16], [13, 16]), ([17, 16, 0, 1, 2, 3, 4, 5, 6, 7, 8, 9, 10, 11, 12, 13, 14, 15, 16, 17], [17])])
def mullionref05_body.B2 : List Nat := [0, 1, 3, 7, 0, 16, 55, 127, 255, 0, 512, 1655, 4095, 8191, 0, 16384, 52855, 131071, 262143]
theorem mullionref05_body.tab2 : rtab .any (opsOf Tryd.f26 2) = mullionref05_body.T2 := by kernel_rfl
theorem mullionref05_body.bits2 : waitsOk mullionref05_body.T2.2 mullionref05_body.B2 = true := by kernel_rfl
set_option maxHeartbeats 8000000 in
set_option maxRecDepth 100000 in
theorem mullionref05_body.calls (k : Nat) : ∀ (A0 : Option Addr) (c0 : Nat) (l0 : List (S45)) (a1 : Int) (r : ByteArray) (w : World) (hr0 : Kd.C k45 w A0 l0.length l0) (hc0 : l0.length ≤ c0) (h : mullionref05_body.f k l0 a1 = some r),
    Calls Tryd.prog 26 #[.slice A0 l0.length c0, .int .i64 a1] w fun e w' => e = .returned (.string r) ∧ Below w.heap.size w w' := by
  induction k using Nat.strongRecOn with
  | _ k ih =>
  intro A0 c0 l0 a1 r w hr0 hc0 h
  cases k with
  | zero => exact absurd h (by simp [mullionref05_body.f])
  | succ k =>
  simp only [mullionref05_body.f] at h
  have hu45 := Tryd.underlying45
  have HR0 := Aside0.mk hr0
  have HC0 := Aside0.mk hc0
  clear hr0 hc0
  have HB := Aside0.mk (Below.refl w.heap.size w)
  have H : (if 0 ≤ a1 then (if a1 < (l0.length : Int) then ((mullionref01_PutNumber.f k ((rd_T45 l0 a1).f4)).bind fun t201 => (if t201.size + 1 ≤ 9223372036854775807 then ((mullionref01_PutNumber.f k ((rd_T45 l0 a1).f5)).bind fun t202 => (if (t201 ++ (⟨#[120]⟩ : ByteArray)).size + t202.size ≤ 9223372036854775807 then (if ((t201 ++ (⟨#[120]⟩ : ByteArray)) ++ t202).size + 1 ≤ 9223372036854775807 then ((mullionref01_PutNumber.f k ((rd_T45 l0 a1).f2)).bind fun t203 => (if (((t201 ++ (⟨#[120]⟩ : ByteArray)) ++ t202) ++ (⟨#[44]⟩ : ByteArray)).size + t203.size ≤ 9223372036854775807 then (if ((((t201 ++ (⟨#[120]⟩ : ByteArray)) ++ t202) ++ (⟨#[44]⟩ : ByteArray)) ++ t203).size + 1 ≤ 9223372036854775807 then ((mullionref01_PutNumber.f k ((rd_T45 l0 a1).f3)).bind fun t204 => (if (((((t201 ++ (⟨#[120]⟩ : ByteArray)) ++ t202) ++ (⟨#[44]⟩ : ByteArray)) ++ t203) ++ (⟨#[44]⟩ : ByteArray)).size + t204.size ≤ 9223372036854775807 then (if ((rd_T45 l0 a1).f1) = 1 then (if ((((((t201 ++ (⟨#[120]⟩ : ByteArray)) ++ t202) ++ (⟨#[44]⟩ : ByteArray)) ++ t203) ++ (⟨#[44]⟩ : ByteArray)) ++ t204).size + 1 ≤ 9223372036854775807 then ((mullionref01_PutNumber.f k ((rd_T45 l0 a1).f6)).bind fun t205 => (if (((((((t201 ++ (⟨#[120]⟩ : ByteArray)) ++ t202) ++ (⟨#[44]⟩ : ByteArray)) ++ t203) ++ (⟨#[44]⟩ : ByteArray)) ++ t204) ++ (⟨#[44]⟩ : ByteArray)).size + t205.size ≤ 9223372036854775807 then (some ((((((((t201 ++ (⟨#[120]⟩ : ByteArray)) ++ t202) ++ (⟨#[44]⟩ : ByteArray)) ++ t203) ++ (⟨#[44]⟩ : ByteArray)) ++ t204) ++ (⟨#[44]⟩ : ByteArray)) ++ t205)) else (none))) else (none)) else (if ((rd_T45 l0 a1).f1) = 3 then (mullionref05_body.j0 k l0 a1 ((((((t201 ++ (⟨#[120]⟩ : ByteArray)) ++ t202) ++ (⟨#[44]⟩ : ByteArray)) ++ t203) ++ (⟨#[44]⟩ : ByteArray)) ++ t204) (⟨#[91]⟩ : ByteArray) (⟨#[93]⟩ : ByteArray)) else (mullionref05_body.j0 k l0 a1 ((((((t201 ++ (⟨#[120]⟩ : ByteArray)) ++ t202) ++ (⟨#[44]⟩ : ByteArray)) ++ t203) ++ (⟨#[44]⟩ : ByteArray)) ++ t204) (⟨#[123]⟩ : ByteArray) (⟨#[125]⟩ : ByteArray)))) else (none))) else (none)) else (none))) else (none)) else (none))) else (none))) else (none)) else (none)) = some r := h
  clear h
  by_cases c3 : 0 ≤ a1
  · rw [if_pos c3] at H
    have c3b0 : decide (0 ≤ a1) = true := decide_eq_true c3
    clear c3
    by_cases c4 : a1 < (l0.length : Int)
    · rw [if_pos c4] at H
      have c4b0 : decide (a1 < (l0.length : Int)) = true := decide_eq_true c4
      clear c4
      replace H := Option.bind_eq_some_iff.mp H
      obtain ⟨t201, A50, H⟩ := H
      replace H : (if t201.size + 1 ≤ 9223372036854775807 then ((mullionref01_PutNumber.f k ((rd_T45 l0 a1).f5)).bind fun t202 => (if (t201 ++ (⟨#[120]⟩ : ByteArray)).size + t202.size ≤ 9223372036854775807 then (if ((t201 ++ (⟨#[120]⟩ : ByteArray)) ++ t202).size + 1 ≤ 9223372036854775807 then ((mullionref01_PutNumber.f k ((rd_T45 l0 a1).f2)).bind fun t203 => (if (((t201 ++ (⟨#[120]⟩ : ByteArray)) ++ t202) ++ (⟨#[44]⟩ : ByteArray)).size + t203.size ≤ 9223372036854775807 then (if ((((t201 ++ (⟨#[120]⟩ : ByteArray)) ++ t202) ++ (⟨#[44]⟩ : ByteArray)) ++ t203).size + 1 ≤ 9223372036854775807 then ((mullionref01_PutNumber.f k ((rd_T45 l0 a1).f3)).bind fun t204 => (if (((((t201 ++ (⟨#[120]⟩ : ByteArray)) ++ t202) ++ (⟨#[44]⟩ : ByteArray)) ++ t203) ++ (⟨#[44]⟩ : ByteArray)).size + t204.size ≤ 9223372036854775807 then (if ((rd_T45 l0 a1).f1) = 1 then (if ((((((t201 ++ (⟨#[120]⟩ : ByteArray)) ++ t202) ++ (⟨#[44]⟩ : ByteArray)) ++ t203) ++ (⟨#[44]⟩ : ByteArray)) ++ t204).size + 1 ≤ 9223372036854775807 then ((mullionref01_PutNumber.f k ((rd_T45 l0 a1).f6)).bind fun t205 => (if (((((((t201 ++ (⟨#[120]⟩ : ByteArray)) ++ t202) ++ (⟨#[44]⟩ : ByteArray)) ++ t203) ++ (⟨#[44]⟩ : ByteArray)) ++ t204) ++ (⟨#[44]⟩ : ByteArray)).size + t205.size ≤ 9223372036854775807 then (some ((((((((t201 ++ (⟨#[120]⟩ : ByteArray)) ++ t202) ++ (⟨#[44]⟩ : ByteArray)) ++ t203) ++ (⟨#[44]⟩ : ByteArray)) ++ t204) ++ (⟨#[44]⟩ : ByteArray)) ++ t205)) else (none))) else (none)) else (if ((rd_T45 l0 a1).f1) = 3 then (mullionref05_body.j0 k l0 a1 ((((((t201 ++ (⟨#[120]⟩ : ByteArray)) ++ t202) ++ (⟨#[44]⟩ : ByteArray)) ++ t203) ++ (⟨#[44]⟩ : ByteArray)) ++ t204) (⟨#[91]⟩ : ByteArray) (⟨#[93]⟩ : ByteArray)) else (mullionref05_body.j0 k l0 a1 ((((((t201 ++ (⟨#[120]⟩ : ByteArray)) ++ t202) ++ (⟨#[44]⟩ : ByteArray)) ++ t203) ++ (⟨#[44]⟩ : ByteArray)) ++ t204) (⟨#[123]⟩ : ByteArray) (⟨#[125]⟩ : ByteArray)))) else (none))) else (none)) else (none))) else (none)) else (none))) else (none)) = some r := H
      have A5 := Aside0.mk A50
      clear A50
      by_cases c6 : t201.size + 1 ≤ 9223372036854775807
      · rw [if_pos c6] at H
        have c6b0 := eq_true c6
        have c6b1 : decide (t201.size + 1 ≤ 9223372036854775807) = true := decide_eq_true c6
        try have c6b2 : (9223372036854775807 < t201.size + 1) = False := eq_false (Nat.not_lt.2 c6)
        replace H := Option.bind_eq_some_iff.mp H
        obtain ⟨t202, A70, H⟩ := H
        replace H : (if (t201 ++ (⟨#[120]⟩ : ByteArray)).size + t202.size ≤ 9223372036854775807 then (if ((t201 ++ (⟨#[120]⟩ : ByteArray)) ++ t202).size + 1 ≤ 9223372036854775807 then ((mullionref01_PutNumber.f k ((rd_T45 l0 a1).f2)).bind fun t203 => (if (((t201 ++ (⟨#[120]⟩ : ByteArray)) ++ t202) ++ (⟨#[44]⟩ : ByteArray)).size + t203.size ≤ 9223372036854775807 then (if ((((t201 ++ (⟨#[120]⟩ : ByteArray)) ++ t202) ++ (⟨#[44]⟩ : ByteArray)) ++ t203).size + 1 ≤ 9223372036854775807 then ((mullionref01_PutNumber.f k ((rd_T45 l0 a1).f3)).bind fun t204 => (if (((((t201 ++ (⟨#[120]⟩ : ByteArray)) ++ t202) ++ (⟨#[44]⟩ : ByteArray)) ++ t203) ++ (⟨#[44]⟩ : ByteArray)).size + t204.size ≤ 9223372036854775807 then (if ((rd_T45 l0 a1).f1) = 1 then (if ((((((t201 ++ (⟨#[120]⟩ : ByteArray)) ++ t202) ++ (⟨#[44]⟩ : ByteArray)) ++ t203) ++ (⟨#[44]⟩ : ByteArray)) ++ t204).size + 1 ≤ 9223372036854775807 then ((mullionref01_PutNumber.f k ((rd_T45 l0 a1).f6)).bind fun t205 => (if (((((((t201 ++ (⟨#[120]⟩ : ByteArray)) ++ t202) ++ (⟨#[44]⟩ : ByteArray)) ++ t203) ++ (⟨#[44]⟩ : ByteArray)) ++ t204) ++ (⟨#[44]⟩ : ByteArray)).size + t205.size ≤ 9223372036854775807 then (some ((((((((t201 ++ (⟨#[120]⟩ : ByteArray)) ++ t202) ++ (⟨#[44]⟩ : ByteArray)) ++ t203) ++ (⟨#[44]⟩ : ByteArray)) ++ t204) ++ (⟨#[44]⟩ : ByteArray)) ++ t205)) else (none))) else (none)) else (if ((rd_T45 l0 a1).f1) = 3 then (mullionref05_body.j0 k l0 a1 ((((((t201 ++ (⟨#[120]⟩ : ByteArray)) ++ t202) ++ (⟨#[44]⟩ : ByteArray)) ++ t203) ++ (⟨#[44]⟩ : ByteArray)) ++ t204) (⟨#[91]⟩ : ByteArray) (⟨#[93]⟩ : ByteArray)) else (mullionref05_body.j0 k l0 a1 ((((((t201 ++ (⟨#[120]⟩ : ByteArray)) ++ t202) ++ (⟨#[44]⟩ : ByteArray)) ++ t203) ++ (⟨#[44]⟩ : ByteArray)) ++ t204) (⟨#[123]⟩ : ByteArray) (⟨#[125]⟩ : ByteArray)))) else (none))) else (none)) else (none))) else (none)) else (none)) = some r := H
        have A7 := Aside0.mk A70
        clear A70
        by_cases c8 : (t201 ++ (⟨#[120]⟩ : ByteArray)).size + t202.size ≤ 9223372036854775807
        · rw [if_pos c8] at H
          have c8b0 := eq_true c8
          have c8b1 : decide ((t201 ++ (⟨#[120]⟩ : ByteArray)).size + t202.size ≤ 9223372036854775807) = true := decide_eq_true c8
          try have c8b2 : (9223372036854775807 < (t201 ++ (⟨#[120]⟩ : ByteArray)).size + t202.size) = False := eq_false (Nat.not_lt.2 c8)
          try have c8b3 : (9223372036854775807 < t201.size + 1 + t202.size) = False := eq_false (by have h_ := c8; simp only [ByteArray.size_append] at h_; exact Nat.not_lt.2 h_)
          by_cases c9 : ((t201 ++ (⟨#[120]⟩ : ByteArray)) ++ t202).size + 1 ≤ 9223372036854775807
          · rw [if_pos c9] at H
            have c9b0 := eq_true c9
            have c9b1 : decide (((t201 ++ (⟨#[120]⟩ : ByteArray)) ++ t202).size + 1 ≤ 9223372036854775807) = true := decide_eq_true c9
            try have c9b2 : (9223372036854775807 < ((t201 ++ (⟨#[120]⟩ : ByteArray)) ++ t202).size + 1) = False := eq_false (Nat.not_lt.2 c9)
            try have c9b3 : (9223372036854775807 < t201.size + 1 + t202.size + 1) = False := eq_false (by have h_ := c9; simp only [ByteArray.size_append] at h_; exact Nat.not_lt.2 h_)
            replace H := Option.bind_eq_some_iff.mp H
            obtain ⟨t203, A100, H⟩ := H
            replace H : (if (((t201 ++ (⟨#[120]⟩ : ByteArray)) ++ t202) ++ (⟨#[44]⟩ : ByteArray)).size + t203.size ≤ 9223372036854775807 then (if ((((t201 ++ (⟨#[120]⟩ : ByteArray)) ++ t202) ++ (⟨#[44]⟩ : ByteArray)) ++ t203).size + 1 ≤ 9223372036854775807 then ((mullionref01_PutNumber.f k ((rd_T45 l0 a1).f3)).bind fun t204 => (if (((((t201 ++ (⟨#[120]⟩ : ByteArray)) ++ t202) ++ (⟨#[44]⟩ : ByteArray)) ++ t203) ++ (⟨#[44]⟩ : ByteArray)).size + t204.size ≤ 9223372036854775807 then (if ((rd_T45 l0 a1).f1) = 1 then (if ((((((t201 ++ (⟨#[120]⟩ : ByteArray)) ++ t202) ++ (⟨#[44]⟩ : ByteArray)) ++ t203) ++ (⟨#[44]⟩ : ByteArray)) ++ t204).size + 1 ≤ 9223372036854775807 then ((mullionref01_PutNumber.f k ((rd_T45 l0 a1).f6)).bind fun t205 => (if (((((((t201 ++ (⟨#[120]⟩ : ByteArray)) ++ t202) ++ (⟨#[44]⟩ : ByteArray)) ++ t203) ++ (⟨#[44]⟩ : ByteArray)) ++ t204) ++ (⟨#[44]⟩ : ByteArray)).size + t205.size ≤ 9223372036854775807 then (some ((((((((t201 ++ (⟨#[120]⟩ : ByteArray)) ++ t202) ++ (⟨#[44]⟩ : ByteArray)) ++ t203) ++ (⟨#[44]⟩ : ByteArray)) ++ t204) ++ (⟨#[44]⟩ : ByteArray)) ++ t205)) else (none))) else (none)) else (if ((rd_T45 l0 a1).f1) = 3 then (mullionref05_body.j0 k l0 a1 ((((((t201 ++ (⟨#[120]⟩ : ByteArray)) ++ t202) ++ (⟨#[44]⟩ : ByteArray)) ++ t203) ++ (⟨#[44]⟩ : ByteArray)) ++ t204) (⟨#[91]⟩ : ByteArray) (⟨#[93]⟩ : ByteArray)) else (mullionref05_body.j0 k l0 a1 ((((((t201 ++ (⟨#[120]⟩ : ByteArray)) ++ t202) ++ (⟨#[44]⟩ : ByteArray)) ++ t203) ++ (⟨#[44]⟩ : ByteArray)) ++ t204) (⟨#[123]⟩ : ByteArray) (⟨#[125]⟩ : ByteArray)))) else (none))) else (none)) else (none)) = some r := H
            have A10 := Aside0.mk A100
            clear A100
            by_cases c11 : (((t201 ++ (⟨#[120]⟩ : ByteArray)) ++ t202) ++ (⟨#[44]⟩ : ByteArray)).size + t203.size ≤ 9223372036854775807
            · rw [if_pos c11] at H
              have c11b0 := eq_true c11
              have c11b1 : decide ((((t201 ++ (⟨#[120]⟩ : ByteArray)) ++ t202) ++ (⟨#[44]⟩ : ByteArray)).size + t203.size ≤ 9223372036854775807) = true := decide_eq_true c11
              try have c11b2 : (9223372036854775807 < (((t201 ++ (⟨#[120]⟩ : ByteArray)) ++ t202) ++ (⟨#[44]⟩ : ByteArray)).size + t203.size) = False := eq_false (Nat.not_lt.2 c11)
              try have c11b3 : (9223372036854775807 < t201.size + 1 + t202.size + 1 + t203.size) = False := eq_false (by have h_ := c11; simp only [ByteArray.size_append] at h_; exact Nat.not_lt.2 h_)
              by_cases c12 : ((((t201 ++ (⟨#[120]⟩ : ByteArray)) ++ t202) ++ (⟨#[44]⟩ : ByteArray)) ++ t203).size + 1 ≤ 9223372036854775807
              · rw [if_pos c12] at H
                have c12b0 := eq_true c12
                have c12b1 : decide (((((t201 ++ (⟨#[120]⟩ : ByteArray)) ++ t202) ++ (⟨#[44]⟩ : ByteArray)) ++ t203).size + 1 ≤ 9223372036854775807) = true := decide_eq_true c12
                try have c12b2 : (9223372036854775807 < ((((t201 ++ (⟨#[120]⟩ : ByteArray)) ++ t202) ++ (⟨#[44]⟩ : ByteArray)) ++ t203).size + 1) = False := eq_false (Nat.not_lt.2 c12)
                try have c12b3 : (9223372036854775807 < t201.size + 1 + t202.size + 1 + t203.size + 1) = False := eq_false (by have h_ := c12; simp only [ByteArray.size_append] at h_; exact Nat.not_lt.2 h_)
                replace H := Option.bind_eq_some_iff.mp H
                obtain ⟨t204, A130, H⟩ := H
                replace H : (if (((((t201 ++ (⟨#[120]⟩ : ByteArray)) ++ t202) ++ (⟨#[44]⟩ : ByteArray)) ++ t203) ++ (⟨#[44]⟩ : ByteArray)).size + t204.size ≤ 9223372036854775807 then (if ((rd_T45 l0 a1).f1) = 1 then (if ((((((t201 ++ (⟨#[120]⟩ : ByteArray)) ++ t202) ++ (⟨#[44]⟩ : ByteArray)) ++ t203) ++ (⟨#[44]⟩ : ByteArray)) ++ t204).size + 1 ≤ 9223372036854775807 then ((mullionref01_PutNumber.f k ((rd_T45 l0 a1).f6)).bind fun t205 => (if (((((((t201 ++ (⟨#[120]⟩ : ByteArray)) ++ t202) ++ (⟨#[44]⟩ : ByteArray)) ++ t203) ++ (⟨#[44]⟩ : ByteArray)) ++ t204) ++ (⟨#[44]⟩ : ByteArray)).size + t205.size ≤ 9223372036854775807 then (some ((((((((t201 ++ (⟨#[120]⟩ : ByteArray)) ++ t202) ++ (⟨#[44]⟩ : ByteArray)) ++ t203) ++ (⟨#[44]⟩ : ByteArray)) ++ t204) ++ (⟨#[44]⟩ : ByteArray)) ++ t205)) else (none))) else (none)) else (if ((rd_T45 l0 a1).f1) = 3 then (mullionref05_body.j0 k l0 a1 ((((((t201 ++ (⟨#[120]⟩ : ByteArray)) ++ t202) ++ (⟨#[44]⟩ : ByteArray)) ++ t203) ++ (⟨#[44]⟩ : ByteArray)) ++ t204) (⟨#[91]⟩ : ByteArray) (⟨#[93]⟩ : ByteArray)) else (mullionref05_body.j0 k l0 a1 ((((((t201 ++ (⟨#[120]⟩ : ByteArray)) ++ t202) ++ (⟨#[44]⟩ : ByteArray)) ++ t203) ++ (⟨#[44]⟩ : ByteArray)) ++ t204) (⟨#[123]⟩ : ByteArray) (⟨#[125]⟩ : ByteArray)))) else (none)) = some r := H
                have A13 := Aside0.mk A130
                clear A130
                by_cases c14 : (((((t201 ++ (⟨#[120]⟩ : ByteArray)) ++ t202) ++ (⟨#[44]⟩ : ByteArray)) ++ t203) ++ (⟨#[44]⟩ : ByteArray)).size + t204.size ≤ 9223372036854775807
                · rw [if_pos c14] at H
                  have c14b0 := eq_true c14
                  have c14b1 : decide ((((((t201 ++ (⟨#[120]⟩ : ByteArray)) ++ t202) ++ (⟨#[44]⟩ : ByteArray)) ++ t203) ++ (⟨#[44]⟩ : ByteArray)).size + t204.size ≤ 9223372036854775807) = true := decide_eq_true c14
                  try have c14b2 : (9223372036854775807 < (((((t201 ++ (⟨#[120]⟩ : ByteArray)) ++ t202) ++ (⟨#[44]⟩ : ByteArray)) ++ t203) ++ (⟨#[44]⟩ : ByteArray)).size + t204.size) = False := eq_false (Nat.not_lt.2 c14)
                  try have c14b3 : (9223372036854775807 < t201.size + 1 + t202.size + 1 + t203.size + 1 + t204.size) = False := eq_false (by have h_ := c14; simp only [ByteArray.size_append] at h_; exact Nat.not_lt.2 h_)
                  by_cases c15 : ((rd_T45 l0 a1).f1) = 1
                  · rw [if_pos c15] at H
                    have c15b0 : (((rd_T45 l0 a1).f1) == 1) = true := beq_iff_eq.mpr c15
                    have c15b1 : (((rd_T45 l0 a1).f1) != 1) = false := bne_eq_false_iff_eq.mpr c15
                    clear c15
                    by_cases c16 : ((((((t201 ++ (⟨#[120]⟩ : ByteArray)) ++ t202) ++ (⟨#[44]⟩ : ByteArray)) ++ t203) ++ (⟨#[44]⟩ : ByteArray)) ++ t204).size + 1 ≤ 9223372036854775807
                    · rw [if_pos c16] at H
                      have c16b0 := eq_true c16
                      have c16b1 : decide (((((((t201 ++ (⟨#[120]⟩ : ByteArray)) ++ t202) ++ (⟨#[44]⟩ : ByteArray)) ++ t203) ++ (⟨#[44]⟩ : ByteArray)) ++ t204).size + 1 ≤ 9223372036854775807) = true := decide_eq_true c16
                      try have c16b2 : (9223372036854775807 < ((((((t201 ++ (⟨#[120]⟩ : ByteArray)) ++ t202) ++ (⟨#[44]⟩ : ByteArray)) ++ t203) ++ (⟨#[44]⟩ : ByteArray)) ++ t204).size + 1) = False := eq_false (Nat.not_lt.2 c16)
                      try have c16b3 : (9223372036854775807 < t201.size + 1 + t202.size + 1 + t203.size + 1 + t204.size + 1) = False := eq_false (by have h_ := c16; simp only [ByteArray.size_append] at h_; exact Nat.not_lt.2 h_)
                      replace H := Option.bind_eq_some_iff.mp H
                      obtain ⟨t205, A170, H⟩ := H
                      replace H : (if (((((((t201 ++ (⟨#[120]⟩ : ByteArray)) ++ t202) ++ (⟨#[44]⟩ : ByteArray)) ++ t203) ++ (⟨#[44]⟩ : ByteArray)) ++ t204) ++ (⟨#[44]⟩ : ByteArray)).size + t205.size ≤ 9223372036854775807 then (some ((((((((t201 ++ (⟨#[120]⟩ : ByteArray)) ++ t202) ++ (⟨#[44]⟩ : ByteArray)) ++ t203) ++ (⟨#[44]⟩ : ByteArray)) ++ t204) ++ (⟨#[44]⟩ : ByteArray)) ++ t205)) else (none)) = some r := H
                      have A17 := Aside0.mk A170
                      clear A170
                      by_cases c18 : (((((((t201 ++ (⟨#[120]⟩ : ByteArray)) ++ t202) ++ (⟨#[44]⟩ : ByteArray)) ++ t203) ++ (⟨#[44]⟩ : ByteArray)) ++ t204) ++ (⟨#[44]⟩ : ByteArray)).size + t205.size ≤ 9223372036854775807
                      · rw [if_pos c18] at H
                        have c18b0 := eq_true c18
                        have c18b1 : decide ((((((((t201 ++ (⟨#[120]⟩ : ByteArray)) ++ t202) ++ (⟨#[44]⟩ : ByteArray)) ++ t203) ++ (⟨#[44]⟩ : ByteArray)) ++ t204) ++ (⟨#[44]⟩ : ByteArray)).size + t205.size ≤ 9223372036854775807) = true := decide_eq_true c18
                        try have c18b2 : (9223372036854775807 < (((((((t201 ++ (⟨#[120]⟩ : ByteArray)) ++ t202) ++ (⟨#[44]⟩ : ByteArray)) ++ t203) ++ (⟨#[44]⟩ : ByteArray)) ++ t204) ++ (⟨#[44]⟩ : ByteArray)).size + t205.size) = False := eq_false (Nat.not_lt.2 c18)
                        try have c18b3 : (9223372036854775807 < t201.size + 1 + t202.size + 1 + t203.size + 1 + t204.size + 1 + t205.size) = False := eq_false (by have h_ := c18; simp only [ByteArray.size_append] at h_; exact Nat.not_lt.2 h_)
                        obtain rfl := Option.some.inj H
                        have p199 : 0 ≤ (a1 : Int) := of_decide_eq_true (by first | (with_reducible assumption) | assumption)
                        have q199 : a1 < (l0.length : Int) := of_decide_eq_true (by first | (with_reducible assumption) | assumption)
                        obtain ⟨ad199, e199, hx199_0, hx199_1, hx199_2, hx199_3, hx199_4, hx199_5, hx199_6⟩ := at_T45 HR0.out a1 p199 q199
                        cases e199
                        replace p199 := eq_true p199
                        replace q199 := eq_true q199
                        go_enter Tryd.func26, Tryd.ntmps26
                        try go_wp2_with (first | ((with_reducible refine gate_dst (N := 5) rfl ?_); refine box_event ?hg (N := 5) ?hd (cs := #[.int .i64 0, .int .i64 0, .int .i64 0, .int .i64 0, .int .i64 0, .int .i64 0, .int .i64 0]) (t := 45) ?hr ?_; (case hd => rfl); (case hg => rfl); (case hr => first | (go_simp; done) | (go_simp; rfl)); intro gb200 hg w19 hbox hb; have n0_ := Aside0.mk (below_step (by repeat (first | (with_reducible first | exact HB.out | apply below_alloc | apply pw_below_drewN | apply below_drew1) | exact HB.out)) hb); have n1_ := Aside0.mk (hbox); have n2_ := Aside0.mk ((by rw [hg]; exact (below_size (by repeat (first | (with_reducible first | exact HB.out | apply below_alloc | apply pw_below_drewN | apply below_drew1) | exact HB.out))) : w.heap.size ≤ gb200)); have n3_ := Aside0.mk ((by rw [hg]; exact (below_size (by repeat (first | (with_reducible first | exact HB.out | apply below_alloc | apply pw_below_drewN | apply below_drew1) | exact HB.out))) : w.heap.size ≤ gb200)); clear HB; have HB := n0_; have BK200 := n1_; have GW200 := n2_; have GE200 := n3_; clear n0_ n1_ n2_ n3_; clear hb hbox hg; have hcz20_0 : w19.cell? ⟨gb200, 0, none⟩ = some (.int .i64 0) := (blk_cell BK200.out 0).trans rfl; have hcz20_1 : w19.cell? ⟨gb200, 1, none⟩ = some (.int .i64 0) := (blk_cell BK200.out 1).trans rfl; have hcz20_2 : w19.cell? ⟨gb200, 2, none⟩ = some (.int .i64 0) := (blk_cell BK200.out 2).trans rfl; have hcz20_3 : w19.cell? ⟨gb200, 3, none⟩ = some (.int .i64 0) := (blk_cell BK200.out 3).trans rfl; have hcz20_4 : w19.cell? ⟨gb200, 4, none⟩ = some (.int .i64 0) := (blk_cell BK200.out 4).trans rfl; have hcz20_5 : w19.cell? ⟨gb200, 5, none⟩ = some (.int .i64 0) := (blk_cell BK200.out 5).trans rfl; have hcz20_6 : w19.cell? ⟨gb200, 6, none⟩ = some (.int .i64 0) := (blk_cell BK200.out 6).trans rfl; have hfz20_0 := blk_frozen BK200.out 0; have hfz20_1 := blk_frozen BK200.out 1; have hfz20_2 := blk_frozen BK200.out 2; have hfz20_3 := blk_frozen BK200.out 3; have hfz20_4 := blk_frozen BK200.out 4; have hfz20_5 := blk_frozen BK200.out 5; have hfz20_6 := blk_frozen BK200.out 6))
                        have n0_ : Aside0 ((((((((w19.setCell ⟨gb200, 0, none⟩ (.int .i64 ((rd_T45 l0 a1).f0))).setCell ⟨gb200, 1, none⟩ (.int .i64 ((rd_T45 l0 a1).f1))).setCell ⟨gb200, 2, none⟩ (.int .i64 ((rd_T45 l0 a1).f2))).setCell ⟨gb200, 3, none⟩ (.int .i64 ((rd_T45 l0 a1).f3))).setCell ⟨gb200, 4, none⟩ (.int .i64 ((rd_T45 l0 a1).f4))).setCell ⟨gb200, 5, none⟩ (.int .i64 ((rd_T45 l0 a1).f5))).setCell ⟨gb200, 6, none⟩ (.int .i64 ((rd_T45 l0 a1).f6))).heap[gb200]? = some (.cells #[.int .i64 ((rd_T45 l0 a1).f0), .int .i64 ((rd_T45 l0 a1).f1), .int .i64 ((rd_T45 l0 a1).f2), .int .i64 ((rd_T45 l0 a1).f3), .int .i64 ((rd_T45 l0 a1).f4), .int .i64 ((rd_T45 l0 a1).f5), .int .i64 ((rd_T45 l0 a1).f6)] 45 (0, 0))) := ⟨by (with_reducible repeat (first | refine blk_drewN ?_ _ | refine blk_drew ?_ | refine blk_alloc ?_ _)); refine blk_put (cs := #[.int .i64 ((rd_T45 l0 a1).f0), .int .i64 ((rd_T45 l0 a1).f1), .int .i64 ((rd_T45 l0 a1).f2), .int .i64 ((rd_T45 l0 a1).f3), .int .i64 ((rd_T45 l0 a1).f4), .int .i64 ((rd_T45 l0 a1).f5), .int .i64 0]) ?_ 6 _ rfl; (with_reducible repeat (first | refine blk_drewN ?_ _ | refine blk_drew ?_ | refine blk_alloc ?_ _)); refine blk_put (cs := #[.int .i64 ((rd_T45 l0 a1).f0), .int .i64 ((rd_T45 l0 a1).f1), .int .i64 ((rd_T45 l0 a1).f2), .int .i64 ((rd_T45 l0 a1).f3), .int .i64 ((rd_T45 l0 a1).f4), .int .i64 0, .int .i64 0]) ?_ 5 _ rfl; (with_reducible repeat (first | refine blk_drewN ?_ _ | refine blk_drew ?_ | refine blk_alloc ?_ _)); refine blk_put (cs := #[.int .i64 ((rd_T45 l0 a1).f0), .int .i64 ((rd_T45 l0 a1).f1), .int .i64 ((rd_T45 l0 a1).f2), .int .i64 ((rd_T45 l0 a1).f3), .int .i64 0, .int .i64 0, .int .i64 0]) ?_ 4 _ rfl; (with_reducible repeat (first | refine blk_drewN ?_ _ | refine blk_drew ?_ | refine blk_alloc ?_ _)); refine blk_put (cs := #[.int .i64 ((rd_T45 l0 a1).f0), .int .i64 ((rd_T45 l0 a1).f1), .int .i64 ((rd_T45 l0 a1).f2), .int .i64 0, .int .i64 0, .int .i64 0, .int .i64 0]) ?_ 3 _ rfl; (with_reducible repeat (first | refine blk_drewN ?_ _ | refine blk_drew ?_ | refine blk_alloc ?_ _)); refine blk_put (cs := #[.int .i64 ((rd_T45 l0 a1).f0), .int .i64 ((rd_T45 l0 a1).f1), .int .i64 0, .int .i64 0, .int .i64 0, .int .i64 0, .int .i64 0]) ?_ 2 _ rfl; (with_reducible repeat (first | refine blk_drewN ?_ _ | refine blk_drew ?_ | refine blk_alloc ?_ _)); refine blk_put (cs := #[.int .i64 ((rd_T45 l0 a1).f0), .int .i64 0, .int .i64 0, .int .i64 0, .int .i64 0, .int .i64 0, .int .i64 0]) ?_ 1 _ rfl; (with_reducible repeat (first | refine blk_drewN ?_ _ | refine blk_drew ?_ | refine blk_alloc ?_ _)); refine blk_put (cs := #[.int .i64 0, .int .i64 0, .int .i64 0, .int .i64 0, .int .i64 0, .int .i64 0, .int .i64 0]) ?_ 0 _ rfl; (with_reducible repeat (first | refine blk_drewN ?_ _ | refine blk_drew ?_ | refine blk_alloc ?_ _)); exact BK200.out⟩
                        have n1_ : Aside0 (Below w.heap.size w (((((((w19.setCell ⟨gb200, 0, none⟩ (.int .i64 ((rd_T45 l0 a1).f0))).setCell ⟨gb200, 1, none⟩ (.int .i64 ((rd_T45 l0 a1).f1))).setCell ⟨gb200, 2, none⟩ (.int .i64 ((rd_T45 l0 a1).f2))).setCell ⟨gb200, 3, none⟩ (.int .i64 ((rd_T45 l0 a1).f3))).setCell ⟨gb200, 4, none⟩ (.int .i64 ((rd_T45 l0 a1).f4))).setCell ⟨gb200, 5, none⟩ (.int .i64 ((rd_T45 l0 a1).f5))).setCell ⟨gb200, 6, none⟩ (.int .i64 ((rd_T45 l0 a1).f6)))) := ⟨by repeat (first | (with_reducible first | exact HB.out | apply below_alloc | apply pw_below_drewN | apply below_drew1 | refine below_set ?_ GE200.out) | exact HB.out)⟩
                        (try clear BK200)
                        (try clear HB)
                        generalize (((((((w19.setCell ⟨gb200, 0, none⟩ (.int .i64 ((rd_T45 l0 a1).f0))).setCell ⟨gb200, 1, none⟩ (.int .i64 ((rd_T45 l0 a1).f1))).setCell ⟨gb200, 2, none⟩ (.int .i64 ((rd_T45 l0 a1).f2))).setCell ⟨gb200, 3, none⟩ (.int .i64 ((rd_T45 l0 a1).f3))).setCell ⟨gb200, 4, none⟩ (.int .i64 ((rd_T45 l0 a1).f4))).setCell ⟨gb200, 5, none⟩ (.int .i64 ((rd_T45 l0 a1).f5))).setCell ⟨gb200, 6, none⟩ (.int .i64 ((rd_T45 l0 a1).f6))) = w21 at n0_ n1_ ⊢
                        have BK200 := n0_
                        have HB := n1_
                        clear n0_ n1_
                        have n0_ := Aside0.mk (blk_drew BK200.out)
                        have n1_ := Aside0.mk (below_drew1 HB.out)
                        clear BK200
                        clear HB
                        have BK200 := n0_
                        have HB := n1_
                        clear n0_ n1_
                        refine start_ (n := 19) (S := fun w' => w'.cell? ⟨gb200, 0, none⟩ = some (.int .i64 ((rd_T45 l0 a1).f0)) ∧ w'.cell? ⟨gb200, 1, none⟩ = some (.int .i64 ((rd_T45 l0 a1).f1)) ∧ w'.cell? ⟨gb200, 2, none⟩ = some (.int .i64 ((rd_T45 l0 a1).f2)) ∧ w'.cell? ⟨gb200, 3, none⟩ = some (.int .i64 ((rd_T45 l0 a1).f3)) ∧ w'.cell? ⟨gb200, 4, none⟩ = some (.int .i64 ((rd_T45 l0 a1).f4)) ∧ w'.cell? ⟨gb200, 5, none⟩ = some (.int .i64 ((rd_T45 l0 a1).f5)) ∧ w'.cell? ⟨gb200, 6, none⟩ = some (.int .i64 ((rd_T45 l0 a1).f6))) (ds := []) #[false, false, false, false, false, false, false, false, false, false, false, false, false, false, false, false, false, false, false] (by kernel_rfl) rfl rfl ⟨(blk_cell BK200.out 0).trans rfl, (blk_cell BK200.out 1).trans rfl, (blk_cell BK200.out 2).trans rfl, (blk_cell BK200.out 3).trans rfl, (blk_cell BK200.out 4).trans rfl, (blk_cell BK200.out 5).trans rfl, (blk_cell BK200.out 6).trans rfl⟩ (fun hHeld => ?_); refine with_tabW mullionref05_body.tab2 mullionref05_body.bits2 (fun HT_ HW_ => ?_)
                        generalize w21.drew = w22 at BK200 HB hHeld ⊢
                        refine pure_ (i := 0) (N := some 15) (v := ?_) (a' := ?_) #[true, false, false, false, false, false, false, false, false, false, false, false, false, false, false, false, false, false, false] rfl rfl (any_of HT_.out (by kernel_rfl)) (fun _ _ _ h => h) (Or.inl ⟨by rfl, ?_⟩) ?_ ?_
                        rotate_left
                        · intro w'
                          go_simp
                          with_reducible rfl
                        rotate_left
                        · simp only [Act.put, List.setIfInBounds_toArray, List.set_cons_zero, List.set_cons_succ, i64_w, i32_w]
                          rfl
                        refine pure_ (i := 4) (N := some 19) (v := ?_) (a' := ?_) #[true, false, false, false, true, false, false, false, false, false, false, false, false, false, false, false, false, false, false] rfl rfl (any_of HT_.out (by kernel_rfl)) (fun _ _ _ h => h) (Or.inl ⟨by rfl, ?_⟩) ?_ ?_
                        rotate_left
                        · intro w'
                          go_simp
                          with_reducible rfl
                        rotate_left
                        · simp only [Act.put, List.setIfInBounds_toArray, List.set_cons_zero, List.set_cons_succ, i64_w, i32_w]
                          rfl
                        refine pure_ (i := 9) (N := some 24) (v := ?_) (a' := ?_) #[true, false, false, false, true, false, false, false, false, true, false, false, false, false, false, false, false, false, false] rfl rfl (any_of HT_.out (by kernel_rfl)) (fun _ _ _ h => h) (Or.inl ⟨by rfl, ?_⟩) ?_ ?_
                        rotate_left
                        · intro w'
                          go_simp
                          with_reducible rfl
                        rotate_left
                        · simp only [Act.put, List.setIfInBounds_toArray, List.set_cons_zero, List.set_cons_succ, i64_w, i32_w]
                          rfl
                        refine pure_ (i := 14) (N := some 29) (v := ?_) (a' := ?_) #[true, false, false, false, true, false, false, false, false, true, false, false, false, false, true, false, false, false, false] rfl rfl (any_of HT_.out (by kernel_rfl)) (fun _ _ _ h => h) (Or.inl ⟨by rfl, ?_⟩) ?_ ?_
                        rotate_left
                        · intro w'
                          go_simp
                          with_reducible rfl
                        rotate_left
                        · simp only [Act.put, List.setIfInBounds_toArray, List.set_cons_zero, List.set_cons_succ, i64_w, i32_w]
                          rfl
                        refine take_ (i := 1) (N := some 16) (v := ?_) (a' := ?_) #[true, true, false, false, true, false, false, false, false, true, false, false, false, false, true, false, false, false, false] rfl rfl (take_ofW HT_.out HW_.out (by kernel_rfl)) (fun _ _ _ h => h) (Or.inl ⟨by rfl, ?_⟩) hHeld ?_ ?_
                        rotate_left
                        · rintro w' ⟨s0, s1, s2, s3, s4, s5, s6⟩
                          go_simp
                          with_reducible rfl
                        rotate_left
                        · simp only [Act.put, List.setIfInBounds_toArray, List.set_cons_zero, List.set_cons_succ, i64_w, i32_w]
                          rfl
                        refine take_ (i := 5) (N := some 20) (v := ?_) (a' := ?_) #[true, true, false, false, true, true, false, false, false, true, false, false, false, false, true, false, false, false, false] rfl rfl (take_ofW HT_.out HW_.out (by kernel_rfl)) (fun _ _ _ h => h) (Or.inl ⟨by rfl, ?_⟩) hHeld ?_ ?_
                        rotate_left
                        · rintro w' ⟨s0, s1, s2, s3, s4, s5, s6⟩
                          go_simp
                          with_reducible rfl
                        rotate_left
                        · simp only [Act.put, List.setIfInBounds_toArray, List.set_cons_zero, List.set_cons_succ, i64_w, i32_w]
                          rfl
                        refine take_ (i := 10) (N := some 25) (v := ?_) (a' := ?_) #[true, true, false, false, true, true, false, false, false, true, true, false, false, false, true, false, false, false, false] rfl rfl (take_ofW HT_.out HW_.out (by kernel_rfl)) (fun _ _ _ h => h) (Or.inl ⟨by rfl, ?_⟩) hHeld ?_ ?_
                        rotate_left
                        · rintro w' ⟨s0, s1, s2, s3, s4, s5, s6⟩
                          go_simp
                          with_reducible rfl
                        rotate_left
                        · simp only [Act.put, List.setIfInBounds_toArray, List.set_cons_zero, List.set_cons_succ, i64_w, i32_w]
                          rfl
                        refine take_ (i := 15) (N := some 30) (v := ?_) (a' := ?_) #[true, true, false, false, true, true, false, false, false, true, true, false, false, false, true, true, false, false, false] rfl rfl (take_ofW HT_.out HW_.out (by kernel_rfl)) (fun _ _ _ h => h) (Or.inl ⟨by rfl, ?_⟩) hHeld ?_ ?_
                        rotate_left
                        · rintro w' ⟨s0, s1, s2, s3, s4, s5, s6⟩
                          go_simp
                          with_reducible rfl
                        rotate_left
                        · simp only [Act.put, List.setIfInBounds_toArray, List.set_cons_zero, List.set_cons_succ, i64_w, i32_w]
                          rfl
                        refine one_ (i := 2) (N := some 17) #[true, true, true, false, true, true, false, false, false, true, true, false, false, false, true, true, false, false, false] rfl rfl (one_of HT_.out (by kernel_rfl)) (by decide) (fun K hK => ?_)
                        refine goes_ Tryd.func40 (by kernel_rfl) rfl #[.int .i64 ((rd_T45 l0 a1).f4)] (by rfl) rfl rfl (by (try simp only [List.map_toArray, List.map_cons, List.map_nil]); first | done | rfl | (simp only [List.length_drop, List.length_take]; rfl)) ?_
                        with_reducible refine (mullionref01_PutNumber.calls k ((rd_T45 l0 a1).f4) t201 _ A5.out).mono ?_
                        rintro e w23 ⟨rfl, hb⟩
                        refine ⟨_, rfl, ?_⟩
                        have n0_ := Aside0.mk (blk_below (g := gb200) (o := .cells #[.int .i64 ((rd_T45 l0 a1).f0), .int .i64 ((rd_T45 l0 a1).f1), .int .i64 ((rd_T45 l0 a1).f2), .int .i64 ((rd_T45 l0 a1).f3), .int .i64 ((rd_T45 l0 a1).f4), .int .i64 ((rd_T45 l0 a1).f5), .int .i64 ((rd_T45 l0 a1).f6)] 45 (0, 0)) (by (with_reducible repeat (first | refine blk_drewN ?_ _ | refine blk_drew ?_ | refine blk_alloc ?_ _)); exact BK200.out) hb)
                        have n1_ := Aside0.mk (below_step (by repeat (first | (with_reducible first | exact HB.out | apply below_alloc | apply pw_below_drewN | apply below_drew1 | refine below_set ?_ GE200.out) | exact HB.out)) hb)
                        clear BK200
                        clear HB
                        have BK200 := n0_
                        have HB := n1_
                        clear n0_ n1_
                        (try clear hb)
                        (try clear hb2)
                        (try clear hk)
                        (try clear hi)
                        refine hK.out _ _ ⟨(blk_cell BK200.out 0).trans rfl, (blk_cell BK200.out 1).trans rfl, (blk_cell BK200.out 2).trans rfl, (blk_cell BK200.out 3).trans rfl, (blk_cell BK200.out 4).trans rfl, (blk_cell BK200.out 5).trans rfl, (blk_cell BK200.out 6).trans rfl⟩ (fun hHeld => ?_)
                        clear hK K
                        refine norm_ (a' := ?_) ?_ ?_
                        rotate_left
                        · show Act.put _ (some 17) _ = _
                          simp only [Act.put, List.setIfInBounds_toArray, List.set_cons_zero, List.set_cons_succ, i64_w, i32_w]
                          rfl
                        refine pure_ (i := 3) (N := some 18) (v := ?_) (a' := ?_) #[true, true, true, true, true, true, false, false, false, true, true, false, false, false, true, true, false, false, false] rfl rfl (any_of HT_.out (by kernel_rfl)) (fun _ _ _ h => h) (Or.inl ⟨by rfl, ?_⟩) ?_ ?_
                        rotate_left
                        · intro w'
                          go_simp
                          with_reducible rfl
                        rotate_left
                        · simp only [Act.put, List.setIfInBounds_toArray, List.set_cons_zero, List.set_cons_succ, i64_w, i32_w]
                          rfl
                        refine one_ (i := 6) (N := some 21) #[true, true, true, true, true, true, true, false, false, true, true, false, false, false, true, true, false, false, false] rfl rfl (one_of HT_.out (by kernel_rfl)) (by decide) (fun K hK => ?_)
                        refine goes_ Tryd.func40 (by kernel_rfl) rfl #[.int .i64 ((rd_T45 l0 a1).f5)] (by rfl) rfl rfl (by (try simp only [List.map_toArray, List.map_cons, List.map_nil]); first | done | rfl | (simp only [List.length_drop, List.length_take]; rfl)) ?_
                        with_reducible refine (mullionref01_PutNumber.calls k ((rd_T45 l0 a1).f5) t202 _ A7.out).mono ?_
                        rintro e w24 ⟨rfl, hb⟩
                        refine ⟨_, rfl, ?_⟩
                        have n0_ := Aside0.mk (blk_below (g := gb200) (o := .cells #[.int .i64 ((rd_T45 l0 a1).f0), .int .i64 ((rd_T45 l0 a1).f1), .int .i64 ((rd_T45 l0 a1).f2), .int .i64 ((rd_T45 l0 a1).f3), .int .i64 ((rd_T45 l0 a1).f4), .int .i64 ((rd_T45 l0 a1).f5), .int .i64 ((rd_T45 l0 a1).f6)] 45 (0, 0)) (by (with_reducible repeat (first | refine blk_drewN ?_ _ | refine blk_drew ?_ | refine blk_alloc ?_ _)); exact BK200.out) hb)
                        have n1_ := Aside0.mk (below_step (by repeat (first | (with_reducible first | exact HB.out | apply below_alloc | apply pw_below_drewN | apply below_drew1 | refine below_set ?_ GE200.out) | exact HB.out)) hb)
                        clear BK200
                        clear HB
                        have BK200 := n0_
                        have HB := n1_
                        clear n0_ n1_
                        (try clear hb)
                        (try clear hb2)
                        (try clear hk)
                        (try clear hi)
                        refine hK.out _ _ ⟨(blk_cell BK200.out 0).trans rfl, (blk_cell BK200.out 1).trans rfl, (blk_cell BK200.out 2).trans rfl, (blk_cell BK200.out 3).trans rfl, (blk_cell BK200.out 4).trans rfl, (blk_cell BK200.out 5).trans rfl, (blk_cell BK200.out 6).trans rfl⟩ (fun hHeld => ?_)
                        clear hK K
                        refine norm_ (a' := ?_) ?_ ?_
                        rotate_left
                        · show Act.put _ (some 21) _ = _
                          simp only [Act.put, List.setIfInBounds_toArray, List.set_cons_zero, List.set_cons_succ, i64_w, i32_w]
                          rfl
                        refine pure_ (i := 7) (N := some 22) (v := ?_) (a' := ?_) #[true, true, true, true, true, true, true, true, false, true, true, false, false, false, true, true, false, false, false] rfl rfl (any_of HT_.out (by kernel_rfl)) (fun _ _ _ h => h) (Or.inl ⟨by rfl, ?_⟩) ?_ ?_
                        rotate_left
                        · intro w'
                          go_simp
                          with_reducible rfl
                        rotate_left
                        · simp only [Act.put, List.setIfInBounds_toArray, List.set_cons_zero, List.set_cons_succ, i64_w, i32_w]
                          rfl
                        refine pure_ (i := 8) (N := some 23) (v := ?_) (a' := ?_) #[true, true, true, true, true, true, true, true, true, true, true, false, false, false, true, true, false, false, false] rfl rfl (any_of HT_.out (by kernel_rfl)) (fun _ _ _ h => h) (Or.inl ⟨by rfl, ?_⟩) ?_ ?_
                        rotate_left
                        · intro w'
                          go_simp
                          with_reducible rfl
                        rotate_left
                        · simp only [Act.put, List.setIfInBounds_toArray, List.set_cons_zero, List.set_cons_succ, i64_w, i32_w]
                          rfl
                        refine one_ (i := 11) (N := some 26) #[true, true, true, true, true, true, true, true, true, true, true, true, false, false, true, true, false, false, false] rfl rfl (one_of HT_.out (by kernel_rfl)) (by decide) (fun K hK => ?_)
                        refine goes_ Tryd.func40 (by kernel_rfl) rfl #[.int .i64 ((rd_T45 l0 a1).f2)] (by rfl) rfl rfl (by (try simp only [List.map_toArray, List.map_cons, List.map_nil]); first | done | rfl | (simp only [List.length_drop, List.length_take]; rfl)) ?_
                        with_reducible refine (mullionref01_PutNumber.calls k ((rd_T45 l0 a1).f2) t203 _ A10.out).mono ?_
                        rintro e w25 ⟨rfl, hb⟩
                        refine ⟨_, rfl, ?_⟩
                        have n0_ := Aside0.mk (blk_below (g := gb200) (o := .cells #[.int .i64 ((rd_T45 l0 a1).f0), .int .i64 ((rd_T45 l0 a1).f1), .int .i64 ((rd_T45 l0 a1).f2), .int .i64 ((rd_T45 l0 a1).f3), .int .i64 ((rd_T45 l0 a1).f4), .int .i64 ((rd_T45 l0 a1).f5), .int .i64 ((rd_T45 l0 a1).f6)] 45 (0, 0)) (by (with_reducible repeat (first | refine blk_drewN ?_ _ | refine blk_drew ?_ | refine blk_alloc ?_ _)); exact BK200.out) hb)
                        have n1_ := Aside0.mk (below_step (by repeat (first | (with_reducible first | exact HB.out | apply below_alloc | apply pw_below_drewN | apply below_drew1 | refine below_set ?_ GE200.out) | exact HB.out)) hb)
                        clear BK200
                        clear HB
                        have BK200 := n0_
                        have HB := n1_
                        clear n0_ n1_
                        (try clear hb)
                        (try clear hb2)
                        (try clear hk)
                        (try clear hi)
                        refine hK.out _ _ ⟨(blk_cell BK200.out 0).trans rfl, (blk_cell BK200.out 1).trans rfl, (blk_cell BK200.out 2).trans rfl, (blk_cell BK200.out 3).trans rfl, (blk_cell BK200.out 4).trans rfl, (blk_cell BK200.out 5).trans rfl, (blk_cell BK200.out 6).trans rfl⟩ (fun hHeld => ?_)
                        clear hK K
                        refine norm_ (a' := ?_) ?_ ?_
                        rotate_left
                        · show Act.put _ (some 26) _ = _
                          simp only [Act.put, List.setIfInBounds_toArray, List.set_cons_zero, List.set_cons_succ, i64_w, i32_w]
                          rfl
                        refine pure_ (i := 12) (N := some 27) (v := ?_) (a' := ?_) #[true, true, true, true, true, true, true, true, true, true, true, true, true, false, true, true, false, false, false] rfl rfl (any_of HT_.out (by kernel_rfl)) (fun _ _ _ h => h) (Or.inl ⟨by rfl, ?_⟩) ?_ ?_
                        rotate_left
                        · intro w'
                          go_simp
                          with_reducible rfl
                        rotate_left
                        · simp only [Act.put, List.setIfInBounds_toArray, List.set_cons_zero, List.set_cons_succ, i64_w, i32_w]
                          rfl
                        refine pure_ (i := 13) (N := some 28) (v := ?_) (a' := ?_) #[true, true, true, true, true, true, true, true, true, true, true, true, true, true, true, true, false, false, false] rfl rfl (any_of HT_.out (by kernel_rfl)) (fun _ _ _ h => h) (Or.inl ⟨by rfl, ?_⟩) ?_ ?_
                        rotate_left
                        · intro w'
                          go_simp
                          with_reducible rfl
                        rotate_left
                        · simp only [Act.put, List.setIfInBounds_toArray, List.set_cons_zero, List.set_cons_succ, i64_w, i32_w]
                          rfl
                        refine one_ (i := 16) (N := some 31) #[true, true, true, true, true, true, true, true, true, true, true, true, true, true, true, true, true, false, false] rfl rfl (one_of HT_.out (by kernel_rfl)) (by decide) (fun K hK => ?_)
                        refine goes_ Tryd.func40 (by kernel_rfl) rfl #[.int .i64 ((rd_T45 l0 a1).f3)] (by rfl) rfl rfl (by (try simp only [List.map_toArray, List.map_cons, List.map_nil]); first | done | rfl | (simp only [List.length_drop, List.length_take]; rfl)) ?_
                        with_reducible refine (mullionref01_PutNumber.calls k ((rd_T45 l0 a1).f3) t204 _ A13.out).mono ?_
                        rintro e w26 ⟨rfl, hb⟩
                        refine ⟨_, rfl, ?_⟩
                        have n0_ := Aside0.mk (blk_below (g := gb200) (o := .cells #[.int .i64 ((rd_T45 l0 a1).f0), .int .i64 ((rd_T45 l0 a1).f1), .int .i64 ((rd_T45 l0 a1).f2), .int .i64 ((rd_T45 l0 a1).f3), .int .i64 ((rd_T45 l0 a1).f4), .int .i64 ((rd_T45 l0 a1).f5), .int .i64 ((rd_T45 l0 a1).f6)] 45 (0, 0)) (by (with_reducible repeat (first | refine blk_drewN ?_ _ | refine blk_drew ?_ | refine blk_alloc ?_ _)); exact BK200.out) hb)
                        have n1_ := Aside0.mk (below_step (by repeat (first | (with_reducible first | exact HB.out | apply below_alloc | apply pw_below_drewN | apply below_drew1 | refine below_set ?_ GE200.out) | exact HB.out)) hb)
                        clear BK200
                        clear HB
                        have BK200 := n0_
                        have HB := n1_
                        clear n0_ n1_
                        (try clear hb)
                        (try clear hb2)
                        (try clear hk)
                        (try clear hi)
                        refine hK.out _ _ ⟨(blk_cell BK200.out 0).trans rfl, (blk_cell BK200.out 1).trans rfl, (blk_cell BK200.out 2).trans rfl, (blk_cell BK200.out 3).trans rfl, (blk_cell BK200.out 4).trans rfl, (blk_cell BK200.out 5).trans rfl, (blk_cell BK200.out 6).trans rfl⟩ (fun hHeld => ?_)
                        clear hK K
                        refine norm_ (a' := ?_) ?_ ?_
                        rotate_left
                        · show Act.put _ (some 31) _ = _
                          simp only [Act.put, List.setIfInBounds_toArray, List.set_cons_zero, List.set_cons_succ, i64_w, i32_w]
                          rfl
                        refine pure_ (i := 17) (N := some 32) (v := ?_) (a' := ?_) #[true, true, true, true, true, true, true, true, true, true, true, true, true, true, true, true, true, true, false] rfl rfl (any_of HT_.out (by kernel_rfl)) (fun _ _ _ h => h) (Or.inl ⟨by rfl, ?_⟩) ?_ ?_
                        rotate_left
                        · intro w'
                          go_simp
                          with_reducible rfl
                        rotate_left
                        · simp only [Act.put, List.setIfInBounds_toArray, List.set_cons_zero, List.set_cons_succ, i64_w, i32_w]
                          rfl
                        refine pure_ (i := 18) (N := some 6) (v := ?_) (a' := ?_) #[true, true, true, true, true, true, true, true, true, true, true, true, true, true, true, true, true, true, true] rfl rfl (any_of HT_.out (by kernel_rfl)) (fun _ _ _ h => h) (Or.inl ⟨by rfl, ?_⟩) ?_ ?_
                        rotate_left
                        · intro w'
                          go_simp
                          with_reducible rfl
                        rotate_left
                        · simp only [Act.put, List.setIfInBounds_toArray, List.set_cons_zero, List.set_cons_succ, i64_w, i32_w]
                          rfl
                        refine done_ (done_of HT_.out (by kernel_rfl)) ?_
                        have hcz27_0 : w26.cell? ⟨gb200, 0, none⟩ = some (.int .i64 ((rd_T45 l0 a1).f0)) := (blk_cell BK200.out 0).trans rfl
                        have hcz27_1 : w26.cell? ⟨gb200, 1, none⟩ = some (.int .i64 ((rd_T45 l0 a1).f1)) := (blk_cell BK200.out 1).trans rfl
                        have hcz27_2 : w26.cell? ⟨gb200, 2, none⟩ = some (.int .i64 ((rd_T45 l0 a1).f2)) := (blk_cell BK200.out 2).trans rfl
                        have hcz27_3 : w26.cell? ⟨gb200, 3, none⟩ = some (.int .i64 ((rd_T45 l0 a1).f3)) := (blk_cell BK200.out 3).trans rfl
                        have hcz27_4 : w26.cell? ⟨gb200, 4, none⟩ = some (.int .i64 ((rd_T45 l0 a1).f4)) := (blk_cell BK200.out 4).trans rfl
                        have hcz27_5 : w26.cell? ⟨gb200, 5, none⟩ = some (.int .i64 ((rd_T45 l0 a1).f5)) := (blk_cell BK200.out 5).trans rfl
                        have hcz27_6 : w26.cell? ⟨gb200, 6, none⟩ = some (.int .i64 ((rd_T45 l0 a1).f6)) := (blk_cell BK200.out 6).trans rfl
                        have hfz27_0 := blk_frozen BK200.out 0
                        have hfz27_1 := blk_frozen BK200.out 1
                        have hfz27_2 := blk_frozen BK200.out 2
                        have hfz27_3 := blk_frozen BK200.out 3
                        have hfz27_4 := blk_frozen BK200.out 4
                        have hfz27_5 := blk_frozen BK200.out 5
                        have hfz27_6 := blk_frozen BK200.out 6
                        try go_wp2_with (first | ((with_reducible refine gate_callee (f := 40) rfl ?_); refine goesL_ (some 40) rfl rfl Tryd.func40 (by kernel_rfl) rfl #[.int .i64 ((rd_T45 l0 a1).f6)] rfl (by (try simp only [List.map_toArray, List.map_cons, List.map_nil]); first | done | rfl | (simp only [List.length_drop, List.length_take]; rfl)) ?_; (with_reducible refine (mullionref01_PutNumber.calls k ((rd_T45 l0 a1).f6) t205 _ A17.out).mono ?_); rintro e w28 ⟨rfl, hb⟩; refine ⟨_, rfl, ?_⟩; have n0_ := Aside0.mk (blk_below (g := gb200) (o := .cells #[.int .i64 ((rd_T45 l0 a1).f0), .int .i64 ((rd_T45 l0 a1).f1), .int .i64 ((rd_T45 l0 a1).f2), .int .i64 ((rd_T45 l0 a1).f3), .int .i64 ((rd_T45 l0 a1).f4), .int .i64 ((rd_T45 l0 a1).f5), .int .i64 ((rd_T45 l0 a1).f6)] 45 (0, 0)) (by (with_reducible repeat (first | refine blk_drewN ?_ _ | refine blk_drew ?_ | refine blk_alloc ?_ _)); exact BK200.out) hb); have n1_ := Aside0.mk (below_step (by repeat (first | (with_reducible first | exact HB.out | apply below_alloc | apply pw_below_drewN | apply below_drew1 | refine below_set ?_ GE200.out) | exact HB.out)) hb); clear BK200; clear HB; have BK200 := n0_; have HB := n1_; clear n0_ n1_; (try clear hb); (try clear hb2); (try clear hk); (try clear hi)))
                        go_ret
                        exact ⟨by first | rfl | (simp [errW_none, errW_some] <;> rfl) | (simp [*, errW_none, errW_some] <;> rfl), by repeat (first | (with_reducible first | exact HB.out | apply below_alloc | apply pw_below_drewN | apply below_drew1 | refine below_set ?_ GE200.out) | exact HB.out)⟩
                      · rw [if_neg c18] at H
                        exact absurd H (by simp)
                    · rw [if_neg c16] at H
                      exact absurd H (by simp)
                  · rw [if_neg c15] at H
                    have c15b0 : (((rd_T45 l0 a1).f1) == 1) = false := beq_eq_false_iff_ne.mpr c15
                    have c15b1 : (((rd_T45 l0 a1).f1) != 1) = true := bne_iff_ne.mpr c15
                    have HC29 := Aside0.mk H
                    clear H
                    have p199 : 0 ≤ (a1 : Int) := of_decide_eq_true (by first | (with_reducible assumption) | assumption)
                    have q199 : a1 < (l0.length : Int) := of_decide_eq_true (by first | (with_reducible assumption) | assumption)
                    obtain ⟨ad199, e199, hx199_0, hx199_1, hx199_2, hx199_3, hx199_4, hx199_5, hx199_6⟩ := at_T45 HR0.out a1 p199 q199
                    cases e199
                    replace p199 := eq_true p199
                    replace q199 := eq_true q199
                    go_enter Tryd.func26, Tryd.ntmps26
                    try go_wp2_with (first | ((with_reducible refine gate_dst (N := 5) rfl ?_); refine box_event ?hg (N := 5) ?hd (cs := #[.int .i64 0, .int .i64 0, .int .i64 0, .int .i64 0, .int .i64 0, .int .i64 0, .int .i64 0]) (t := 45) ?hr ?_; (case hd => rfl); (case hg => rfl); (case hr => first | (go_simp; done) | (go_simp; rfl)); intro gb200 hg w30 hbox hb; have n0_ := Aside0.mk (below_step (by repeat (first | (with_reducible first | exact HB.out | apply below_alloc | apply pw_below_drewN | apply below_drew1) | exact HB.out)) hb); have n1_ := Aside0.mk (hbox); have n2_ := Aside0.mk ((by rw [hg]; exact (below_size (by repeat (first | (with_reducible first | exact HB.out | apply below_alloc | apply pw_below_drewN | apply below_drew1) | exact HB.out))) : w.heap.size ≤ gb200)); have n3_ := Aside0.mk ((by rw [hg]; exact (below_size (by repeat (first | (with_reducible first | exact HB.out | apply below_alloc | apply pw_below_drewN | apply below_drew1) | exact HB.out))) : w.heap.size ≤ gb200)); clear HB; have HB := n0_; have BK200 := n1_; have GW200 := n2_; have GE200 := n3_; clear n0_ n1_ n2_ n3_; clear hb hbox hg; have hcz31_0 : w30.cell? ⟨gb200, 0, none⟩ = some (.int .i64 0) := (blk_cell BK200.out 0).trans rfl; have hcz31_1 : w30.cell? ⟨gb200, 1, none⟩ = some (.int .i64 0) := (blk_cell BK200.out 1).trans rfl; have hcz31_2 : w30.cell? ⟨gb200, 2, none⟩ = some (.int .i64 0) := (blk_cell BK200.out 2).trans rfl; have hcz31_3 : w30.cell? ⟨gb200, 3, none⟩ = some (.int .i64 0) := (blk_cell BK200.out 3).trans rfl; have hcz31_4 : w30.cell? ⟨gb200, 4, none⟩ = some (.int .i64 0) := (blk_cell BK200.out 4).trans rfl; have hcz31_5 : w30.cell? ⟨gb200, 5, none⟩ = some (.int .i64 0) := (blk_cell BK200.out 5).trans rfl; have hcz31_6 : w30.cell? ⟨gb200, 6, none⟩ = some (.int .i64 0) := (blk_cell BK200.out 6).trans rfl; have hfz31_0 := blk_frozen BK200.out 0; have hfz31_1 := blk_frozen BK200.out 1; have hfz31_2 := blk_frozen BK200.out 2; have hfz31_3 := blk_frozen BK200.out 3; have hfz31_4 := blk_frozen BK200.out 4; have hfz31_5 := blk_frozen BK200.out 5; have hfz31_6 := blk_frozen BK200.out 6))
                    have n0_ : Aside0 ((((((((w30.setCell ⟨gb200, 0, none⟩ (.int .i64 ((rd_T45 l0 a1).f0))).setCell ⟨gb200, 1, none⟩ (.int .i64 ((rd_T45 l0 a1).f1))).setCell ⟨gb200, 2, none⟩ (.int .i64 ((rd_T45 l0 a1).f2))).setCell ⟨gb200, 3, none⟩ (.int .i64 ((rd_T45 l0 a1).f3))).setCell ⟨gb200, 4, none⟩ (.int .i64 ((rd_T45 l0 a1).f4))).setCell ⟨gb200, 5, none⟩ (.int .i64 ((rd_T45 l0 a1).f5))).setCell ⟨gb200, 6, none⟩ (.int .i64 ((rd_T45 l0 a1).f6))).heap[gb200]? = some (.cells #[.int .i64 ((rd_T45 l0 a1).f0), .int .i64 ((rd_T45 l0 a1).f1), .int .i64 ((rd_T45 l0 a1).f2), .int .i64 ((rd_T45 l0 a1).f3), .int .i64 ((rd_T45 l0 a1).f4), .int .i64 ((rd_T45 l0 a1).f5), .int .i64 ((rd_T45 l0 a1).f6)] 45 (0, 0))) := ⟨by (with_reducible repeat (first | refine blk_drewN ?_ _ | refine blk_drew ?_ | refine blk_alloc ?_ _)); refine blk_put (cs := #[.int .i64 ((rd_T45 l0 a1).f0), .int .i64 ((rd_T45 l0 a1).f1), .int .i64 ((rd_T45 l0 a1).f2), .int .i64 ((rd_T45 l0 a1).f3), .int .i64 ((rd_T45 l0 a1).f4), .int .i64 ((rd_T45 l0 a1).f5), .int .i64 0]) ?_ 6 _ rfl; (with_reducible repeat (first | refine blk_drewN ?_ _ | refine blk_drew ?_ | refine blk_alloc ?_ _)); refine blk_put (cs := #[.int .i64 ((rd_T45 l0 a1).f0), .int .i64 ((rd_T45 l0 a1).f1), .int .i64 ((rd_T45 l0 a1).f2), .int .i64 ((rd_T45 l0 a1).f3), .int .i64 ((rd_T45 l0 a1).f4), .int .i64 0, .int .i64 0]) ?_ 5 _ rfl; (with_reducible repeat (first | refine blk_drewN ?_ _ | refine blk_drew ?_ | refine blk_alloc ?_ _)); refine blk_put (cs := #[.int .i64 ((rd_T45 l0 a1).f0), .int .i64 ((rd_T45 l0 a1).f1), .int .i64 ((rd_T45 l0 a1).f2), .int .i64 ((rd_T45 l0 a1).f3), .int .i64 0, .int .i64 0, .int .i64 0]) ?_ 4 _ rfl; (with_reducible repeat (first | refine blk_drewN ?_ _ | refine blk_drew ?_ | refine blk_alloc ?_ _)); refine blk_put (cs := #[.int .i64 ((rd_T45 l0 a1).f0), .int .i64 ((rd_T45 l0 a1).f1), .int .i64 ((rd_T45 l0 a1).f2), .int .i64 0, .int .i64 0, .int .i64 0, .int .i64 0]) ?_ 3 _ rfl; (with_reducible repeat (first | refine blk_drewN ?_ _ | refine blk_drew ?_ | refine blk_alloc ?_ _)); refine blk_put (cs := #[.int .i64 ((rd_T45 l0 a1).f0), .int .i64 ((rd_T45 l0 a1).f1), .int .i64 0, .int .i64 0, .int .i64 0, .int .i64 0, .int .i64 0]) ?_ 2 _ rfl; (with_reducible repeat (first | refine blk_drewN ?_ _ | refine blk_drew ?_ | refine blk_alloc ?_ _)); refine blk_put (cs := #[.int .i64 ((rd_T45 l0 a1).f0), .int .i64 0, .int .i64 0, .int .i64 0, .int .i64 0, .int .i64 0, .int .i64 0]) ?_ 1 _ rfl; (with_reducible repeat (first | refine blk_drewN ?_ _ | refine blk_drew ?_ | refine blk_alloc ?_ _)); refine blk_put (cs := #[.int .i64 0, .int .i64 0, .int .i64 0, .int .i64 0, .int .i64 0, .int .i64 0, .int .i64 0]) ?_ 0 _ rfl; (with_reducible repeat (first | refine blk_drewN ?_ _ | refine blk_drew ?_ | refine blk_alloc ?_ _)); exact BK200.out⟩
                    have n1_ : Aside0 (Below w.heap.size w (((((((w30.setCell ⟨gb200, 0, none⟩ (.int .i64 ((rd_T45 l0 a1).f0))).setCell ⟨gb200, 1, none⟩ (.int .i64 ((rd_T45 l0 a1).f1))).setCell ⟨gb200, 2, none⟩ (.int .i64 ((rd_T45 l0 a1).f2))).setCell ⟨gb200, 3, none⟩ (.int .i64 ((rd_T45 l0 a1).f3))).setCell ⟨gb200, 4, none⟩ (.int .i64 ((rd_T45 l0 a1).f4))).setCell ⟨gb200, 5, none⟩ (.int .i64 ((rd_T45 l0 a1).f5))).setCell ⟨gb200, 6, none⟩ (.int .i64 ((rd_T45 l0 a1).f6)))) := ⟨by repeat (first | (with_reducible first | exact HB.out | apply below_alloc | apply pw_below_drewN | apply below_drew1 | refine below_set ?_ GE200.out) | exact HB.out)⟩
                    (try clear BK200)
                    (try clear HB)
                    generalize (((((((w30.setCell ⟨gb200, 0, none⟩ (.int .i64 ((rd_T45 l0 a1).f0))).setCell ⟨gb200, 1, none⟩ (.int .i64 ((rd_T45 l0 a1).f1))).setCell ⟨gb200, 2, none⟩ (.int .i64 ((rd_T45 l0 a1).f2))).setCell ⟨gb200, 3, none⟩ (.int .i64 ((rd_T45 l0 a1).f3))).setCell ⟨gb200, 4, none⟩ (.int .i64 ((rd_T45 l0 a1).f4))).setCell ⟨gb200, 5, none⟩ (.int .i64 ((rd_T45 l0 a1).f5))).setCell ⟨gb200, 6, none⟩ (.int .i64 ((rd_T45 l0 a1).f6))) = w32 at n0_ n1_ ⊢
                    have BK200 := n0_
                    have HB := n1_
                    clear n0_ n1_
                    have n0_ := Aside0.mk (blk_drew BK200.out)
                    have n1_ := Aside0.mk (below_drew1 HB.out)
                    clear BK200
                    clear HB
                    have BK200 := n0_
                    have HB := n1_
                    clear n0_ n1_
                    refine start_ (n := 19) (S := fun w' => w'.cell? ⟨gb200, 0, none⟩ = some (.int .i64 ((rd_T45 l0 a1).f0)) ∧ w'.cell? ⟨gb200, 1, none⟩ = some (.int .i64 ((rd_T45 l0 a1).f1)) ∧ w'.cell? ⟨gb200, 2, none⟩ = some (.int .i64 ((rd_T45 l0 a1).f2)) ∧ w'.cell? ⟨gb200, 3, none⟩ = some (.int .i64 ((rd_T45 l0 a1).f3)) ∧ w'.cell? ⟨gb200, 4, none⟩ = some (.int .i64 ((rd_T45 l0 a1).f4)) ∧ w'.cell? ⟨gb200, 5, none⟩ = some (.int .i64 ((rd_T45 l0 a1).f5)) ∧ w'.cell? ⟨gb200, 6, none⟩ = some (.int .i64 ((rd_T45 l0 a1).f6))) (ds := []) #[false, false, false, false, false, false, false, false, false, false, false, false, false, false, false, false, false, false, false] (by kernel_rfl) rfl rfl ⟨(blk_cell BK200.out 0).trans rfl, (blk_cell BK200.out 1).trans rfl, (blk_cell BK200.out 2).trans rfl, (blk_cell BK200.out 3).trans rfl, (blk_cell BK200.out 4).trans rfl, (blk_cell BK200.out 5).trans rfl, (blk_cell BK200.out 6).trans rfl⟩ (fun hHeld => ?_); refine with_tabW mullionref05_body.tab2 mullionref05_body.bits2 (fun HT_ HW_ => ?_)
                    generalize w32.drew = w33 at BK200 HB hHeld ⊢
                    refine pure_ (i := 0) (N := some 15) (v := ?_) (a' := ?_) #[true, false, false, false, false, false, false, false, false, false, false, false, false, false, false, false, false, false, false] rfl rfl (any_of HT_.out (by kernel_rfl)) (fun _ _ _ h => h) (Or.inl ⟨by rfl, ?_⟩) ?_ ?_
                    rotate_left
                    · intro w'
                      go_simp
                      with_reducible rfl
                    rotate_left
                    · simp only [Act.put, List.setIfInBounds_toArray, List.set_cons_zero, List.set_cons_succ, i64_w, i32_w]
                      rfl
                    refine pure_ (i := 4) (N := some 19) (v := ?_) (a' := ?_) #[true, false, false, false, true, false, false, false, false, false, false, false, false, false, false, false, false, false, false] rfl rfl (any_of HT_.out (by kernel_rfl)) (fun _ _ _ h => h) (Or.inl ⟨by rfl, ?_⟩) ?_ ?_
                    rotate_left
                    · intro w'
                      go_simp
                      with_reducible rfl
                    rotate_left
                    · simp only [Act.put, List.setIfInBounds_toArray, List.set_cons_zero, List.set_cons_succ, i64_w, i32_w]
                      rfl
                    refine pure_ (i := 9) (N := some 24) (v := ?_) (a' := ?_) #[true, false, false, false, true, false, false, false, false, true, false, false, false, false, false, false, false, false, false] rfl rfl (any_of HT_.out (by kernel_rfl)) (fun _ _ _ h => h) (Or.inl ⟨by rfl, ?_⟩) ?_ ?_
                    rotate_left
                    · intro w'
                      go_simp
                      with_reducible rfl
                    rotate_left
                    · simp only [Act.put, List.setIfInBounds_toArray, List.set_cons_zero, List.set_cons_succ, i64_w, i32_w]
                      rfl
                    refine pure_ (i := 14) (N := some 29) (v := ?_) (a' := ?_) #[true, false, false, false, true, false, false, false, false, true, false, false, false, false, true, false, false, false, false] rfl rfl (any_of HT_.out (by kernel_rfl)) (fun _ _ _ h => h) (Or.inl ⟨by rfl, ?_⟩) ?_ ?_
                    rotate_left
                    · intro w'
                      go_simp
                      with_reducible rfl
                    rotate_left
                    · simp only [Act.put, List.setIfInBounds_toArray, List.set_cons_zero, List.set_cons_succ, i64_w, i32_w]
                      rfl
                    refine take_ (i := 1) (N := some 16) (v := ?_) (a' := ?_) #[true, true, false, false, true, false, false, false, false, true, false, false, false, false, true, false, false, false, false] rfl rfl (take_ofW HT_.out HW_.out (by kernel_rfl)) (fun _ _ _ h => h) (Or.inl ⟨by rfl, ?_⟩) hHeld ?_ ?_
                    rotate_left
                    · rintro w' ⟨s0, s1, s2, s3, s4, s5, s6⟩
                      go_simp
                      with_reducible rfl
                    rotate_left
                    · simp only [Act.put, List.setIfInBounds_toArray, List.set_cons_zero, List.set_cons_succ, i64_w, i32_w]
                      rfl
                    refine take_ (i := 5) (N := some 20) (v := ?_) (a' := ?_) #[true, true, false, false, true, true, false, false, false, true, false, false, false, false, true, false, false, false, false] rfl rfl (take_ofW HT_.out HW_.out (by kernel_rfl)) (fun _ _ _ h => h) (Or.inl ⟨by rfl, ?_⟩) hHeld ?_ ?_
                    rotate_left
                    · rintro w' ⟨s0, s1, s2, s3, s4, s5, s6⟩
                      go_simp
                      with_reducible rfl
                    rotate_left
                    · simp only [Act.put, List.setIfInBounds_toArray, List.set_cons_zero, List.set_cons_succ, i64_w, i32_w]
                      rfl
                    refine take_ (i := 10) (N := some 25) (v := ?_) (a' := ?_) #[true, true, false, false, true, true, false, false, false, true, true, false, false, false, true, false, false, false, false] rfl rfl (take_ofW HT_.out HW_.out (by kernel_rfl)) (fun _ _ _ h => h) (Or.inl ⟨by rfl, ?_⟩) hHeld ?_ ?_
                    rotate_left
                    · rintro w' ⟨s0, s1, s2, s3, s4, s5, s6⟩
                      go_simp
                      with_reducible rfl
                    rotate_left
                    · simp only [Act.put, List.setIfInBounds_toArray, List.set_cons_zero, List.set_cons_succ, i64_w, i32_w]
                      rfl
                    refine take_ (i := 15) (N := some 30) (v := ?_) (a' := ?_) #[true, true, false, false, true, true, false, false, false, true, true, false, false, false, true, true, false, false, false] rfl rfl (take_ofW HT_.out HW_.out (by kernel_rfl)) (fun _ _ _ h => h) (Or.inl ⟨by rfl, ?_⟩) hHeld ?_ ?_
                    rotate_left
                    · rintro w' ⟨s0, s1, s2, s3, s4, s5, s6⟩
                      go_simp
                      with_reducible rfl
                    rotate_left
                    · simp only [Act.put, List.setIfInBounds_toArray, List.set_cons_zero, List.set_cons_succ, i64_w, i32_w]
                      rfl
                    refine one_ (i := 2) (N := some 17) #[true, true, true, false, true, true, false, false, false, true, true, false, false, false, true, true, false, false, false] rfl rfl (one_of HT_.out (by kernel_rfl)) (by decide) (fun K hK => ?_)
                    refine goes_ Tryd.func40 (by kernel_rfl) rfl #[.int .i64 ((rd_T45 l0 a1).f4)] (by rfl) rfl rfl (by (try simp only [List.map_toArray, List.map_cons, List.map_nil]); first | done | rfl | (simp only [List.length_drop, List.length_take]; rfl)) ?_
                    with_reducible refine (mullionref01_PutNumber.calls k ((rd_T45 l0 a1).f4) t201 _ A5.out).mono ?_
                    rintro e w34 ⟨rfl, hb⟩
                    refine ⟨_, rfl, ?_⟩
                    have n0_ := Aside0.mk (blk_below (g := gb200) (o := .cells #[.int .i64 ((rd_T45 l0 a1).f0), .int .i64 ((rd_T45 l0 a1).f1), .int .i64 ((rd_T45 l0 a1).f2), .int .i64 ((rd_T45 l0 a1).f3), .int .i64 ((rd_T45 l0 a1).f4), .int .i64 ((rd_T45 l0 a1).f5), .int .i64 ((rd_T45 l0 a1).f6)] 45 (0, 0)) (by (with_reducible repeat (first | refine blk_drewN ?_ _ | refine blk_drew ?_ | refine blk_alloc ?_ _)); exact BK200.out) hb)
                    have n1_ := Aside0.mk (below_step (by repeat (first | (with_reducible first | exact HB.out | apply below_alloc | apply pw_below_drewN | apply below_drew1 | refine below_set ?_ GE200.out) | exact HB.out)) hb)
                    clear BK200
                    clear HB
                    have BK200 := n0_
                    have HB := n1_
                    clear n0_ n1_
                    (try clear hb)
                    (try clear hb2)
                    (try clear hk)
                    (try clear hi)
                    refine hK.out _ _ ⟨(blk_cell BK200.out 0).trans rfl, (blk_cell BK200.out 1).trans rfl, (blk_cell BK200.out 2).trans rfl, (blk_cell BK200.out 3).trans rfl, (blk_cell BK200.out 4).trans rfl, (blk_cell BK200.out 5).trans rfl, (blk_cell BK200.out 6).trans rfl⟩ (fun hHeld => ?_)
                    clear hK K
                    refine norm_ (a' := ?_) ?_ ?_
                    rotate_left
                    · show Act.put _ (some 17) _ = _
                      simp only [Act.put, List.setIfInBounds_toArray, List.set_cons_zero, List.set_cons_succ, i64_w, i32_w]
                      rfl
                    refine pure_ (i := 3) (N := some 18) (v := ?_) (a' := ?_) #[true, true, true, true, true, true, false, false, false, true, true, false, false, false, true, true, false, false, false] rfl rfl (any_of HT_.out (by kernel_rfl)) (fun _ _ _ h => h) (Or.inl ⟨by rfl, ?_⟩) ?_ ?_
                    rotate_left
                    · intro w'
                      go_simp
                      with_reducible rfl
                    rotate_left
                    · simp only [Act.put, List.setIfInBounds_toArray, List.set_cons_zero, List.set_cons_succ, i64_w, i32_w]
                      rfl
                    refine one_ (i := 6) (N := some 21) #[true, true, true, true, true, true, true, false, false, true, true, false, false, false, true, true, false, false, false] rfl rfl (one_of HT_.out (by kernel_rfl)) (by decide) (fun K hK => ?_)
                    refine goes_ Tryd.func40 (by kernel_rfl) rfl #[.int .i64 ((rd_T45 l0 a1).f5)] (by rfl) rfl rfl (by (try simp only [List.map_toArray, List.map_cons, List.map_nil]); first | done | rfl | (simp only [List.length_drop, List.length_take]; rfl)) ?_
                    with_reducible refine (mullionref01_PutNumber.calls k ((rd_T45 l0 a1).f5) t202 _ A7.out).mono ?_
                    rintro e w35 ⟨rfl, hb⟩
                    refine ⟨_, rfl, ?_⟩
                    have n0_ := Aside0.mk (blk_below (g := gb200) (o := .cells #[.int .i64 ((rd_T45 l0 a1).f0), .int .i64 ((rd_T45 l0 a1).f1), .int .i64 ((rd_T45 l0 a1).f2), .int .i64 ((rd_T45 l0 a1).f3), .int .i64 ((rd_T45 l0 a1).f4), .int .i64 ((rd_T45 l0 a1).f5), .int .i64 ((rd_T45 l0 a1).f6)] 45 (0, 0)) (by (with_reducible repeat (first | refine blk_drewN ?_ _ | refine blk_drew ?_ | refine blk_alloc ?_ _)); exact BK200.out) hb)
                    have n1_ := Aside0.mk (below_step (by repeat (first | (with_reducible first | exact HB.out | apply below_alloc | apply pw_below_drewN | apply below_drew1 | refine below_set ?_ GE200.out) | exact HB.out)) hb)
                    clear BK200
                    clear HB
                    have BK200 := n0_
                    have HB := n1_
                    clear n0_ n1_
                    (try clear hb)
                    (try clear hb2)
                    (try clear hk)
                    (try clear hi)
                    refine hK.out _ _ ⟨(blk_cell BK200.out 0).trans rfl, (blk_cell BK200.out 1).trans rfl, (blk_cell BK200.out 2).trans rfl, (blk_cell BK200.out 3).trans rfl, (blk_cell BK200.out 4).trans rfl, (blk_cell BK200.out 5).trans rfl, (blk_cell BK200.out 6).trans rfl⟩ (fun hHeld => ?_)
                    clear hK K
                    refine norm_ (a' := ?_) ?_ ?_
                    rotate_left
                    · show Act.put _ (some 21) _ = _
                      simp only [Act.put, List.setIfInBounds_toArray, List.set_cons_zero, List.set_cons_succ, i64_w, i32_w]
                      rfl
                    refine pure_ (i := 7) (N := some 22) (v := ?_) (a' := ?_) #[true, true, true, true, true, true, true, true, false, true, true, false, false, false, true, true, false, false, false] rfl rfl (any_of HT_.out (by kernel_rfl)) (fun _ _ _ h => h) (Or.inl ⟨by rfl, ?_⟩) ?_ ?_
                    rotate_left
                    · intro w'
                      go_simp
                      with_reducible rfl
                    rotate_left
                    · simp only [Act.put, List.setIfInBounds_toArray, List.set_cons_zero, List.set_cons_succ, i64_w, i32_w]
                      rfl
                    refine pure_ (i := 8) (N := some 23) (v := ?_) (a' := ?_) #[true, true, true, true, true, true, true, true, true, true, true, false, false, false, true, true, false, false, false] rfl rfl (any_of HT_.out (by kernel_rfl)) (fun _ _ _ h => h) (Or.inl ⟨by rfl, ?_⟩) ?_ ?_
                    rotate_left
                    · intro w'
                      go_simp
                      with_reducible rfl
                    rotate_left
                    · simp only [Act.put, List.setIfInBounds_toArray, List.set_cons_zero, List.set_cons_succ, i64_w, i32_w]
                      rfl
                    refine one_ (i := 11) (N := some 26) #[true, true, true, true, true, true, true, true, true, true, true, true, false, false, true, true, false, false, false] rfl rfl (one_of HT_.out (by kernel_rfl)) (by decide) (fun K hK => ?_)
                    refine goes_ Tryd.func40 (by kernel_rfl) rfl #[.int .i64 ((rd_T45 l0 a1).f2)] (by rfl) rfl rfl (by (try simp only [List.map_toArray, List.map_cons, List.map_nil]); first | done | rfl | (simp only [List.length_drop, List.length_take]; rfl)) ?_
                    with_reducible refine (mullionref01_PutNumber.calls k ((rd_T45 l0 a1).f2) t203 _ A10.out).mono ?_
                    rintro e w36 ⟨rfl, hb⟩
                    refine ⟨_, rfl, ?_⟩
                    have n0_ := Aside0.mk (blk_below (g := gb200) (o := .cells #[.int .i64 ((rd_T45 l0 a1).f0), .int .i64 ((rd_T45 l0 a1).f1), .int .i64 ((rd_T45 l0 a1).f2), .int .i64 ((rd_T45 l0 a1).f3), .int .i64 ((rd_T45 l0 a1).f4), .int .i64 ((rd_T45 l0 a1).f5), .int .i64 ((rd_T45 l0 a1).f6)] 45 (0, 0)) (by (with_reducible repeat (first | refine blk_drewN ?_ _ | refine blk_drew ?_ | refine blk_alloc ?_ _)); exact BK200.out) hb)
                    have n1_ := Aside0.mk (below_step (by repeat (first | (with_reducible first | exact HB.out | apply below_alloc | apply pw_below_drewN | apply below_drew1 | refine below_set ?_ GE200.out) | exact HB.out)) hb)
                    clear BK200
                    clear HB
                    have BK200 := n0_
                    have HB := n1_
                    clear n0_ n1_
                    (try clear hb)
                    (try clear hb2)
                    (try clear hk)
                    (try clear hi)
                    refine hK.out _ _ ⟨(blk_cell BK200.out 0).trans rfl, (blk_cell BK200.out 1).trans rfl, (blk_cell BK200.out 2).trans rfl, (blk_cell BK200.out 3).trans rfl, (blk_cell BK200.out 4).trans rfl, (blk_cell BK200.out 5).trans rfl, (blk_cell BK200.out 6).trans rfl⟩ (fun hHeld => ?_)
                    clear hK K
                    refine norm_ (a' := ?_) ?_ ?_
                    rotate_left
                    · show Act.put _ (some 26) _ = _
                      simp only [Act.put, List.setIfInBounds_toArray, List.set_cons_zero, List.set_cons_succ, i64_w, i32_w]
                      rfl
                    refine pure_ (i := 12) (N := some 27) (v := ?_) (a' := ?_) #[true, true, true, true, true, true, true, true, true, true, true, true, true, false, true, true, false, false, false] rfl rfl (any_of HT_.out (by kernel_rfl)) (fun _ _ _ h => h) (Or.inl ⟨by rfl, ?_⟩) ?_ ?_
                    rotate_left
                    · intro w'
                      go_simp
                      with_reducible rfl
                    rotate_left
                    · simp only [Act.put, List.setIfInBounds_toArray, List.set_cons_zero, List.set_cons_succ, i64_w, i32_w]
                      rfl
                    refine pure_ (i := 13) (N := some 28) (v := ?_) (a' := ?_) #[true, true, true, true, true, true, true, true, true, true, true, true, true, true, true, true, false, false, false] rfl rfl (any_of HT_.out (by kernel_rfl)) (fun _ _ _ h => h) (Or.inl ⟨by rfl, ?_⟩) ?_ ?_
                    rotate_left
                    · intro w'
                      go_simp
                      with_reducible rfl
                    rotate_left
                    · simp only [Act.put, List.setIfInBounds_toArray, List.set_cons_zero, List.set_cons_succ, i64_w, i32_w]
                      rfl
                    refine one_ (i := 16) (N := some 31) #[true, true, true, true, true, true, true, true, true, true, true, true, true, true, true, true, true, false, false] rfl rfl (one_of HT_.out (by kernel_rfl)) (by decide) (fun K hK => ?_)
                    refine goes_ Tryd.func40 (by kernel_rfl) rfl #[.int .i64 ((rd_T45 l0 a1).f3)] (by rfl) rfl rfl (by (try simp only [List.map_toArray, List.map_cons, List.map_nil]); first | done | rfl | (simp only [List.length_drop, List.length_take]; rfl)) ?_
                    with_reducible refine (mullionref01_PutNumber.calls k ((rd_T45 l0 a1).f3) t204 _ A13.out).mono ?_
                    rintro e w37 ⟨rfl, hb⟩
                    refine ⟨_, rfl, ?_⟩
                    have n0_ := Aside0.mk (blk_below (g := gb200) (o := .cells #[.int .i64 ((rd_T45 l0 a1).f0), .int .i64 ((rd_T45 l0 a1).f1), .int .i64 ((rd_T45 l0 a1).f2), .int .i64 ((rd_T45 l0 a1).f3), .int .i64 ((rd_T45 l0 a1).f4), .int .i64 ((rd_T45 l0 a1).f5), .int .i64 ((rd_T45 l0 a1).f6)] 45 (0, 0)) (by (with_reducible repeat (first | refine blk_drewN ?_ _ | refine blk_drew ?_ | refine blk_alloc ?_ _)); exact BK200.out) hb)
                    have n1_ := Aside0.mk (below_step (by repeat (first | (with_reducible first | exact HB.out | apply below_alloc | apply pw_below_drewN | apply below_drew1 | refine below_set ?_ GE200.out) | exact HB.out)) hb)
                    clear BK200
                    clear HB
                    have BK200 := n0_
                    have HB := n1_
                    clear n0_ n1_
                    (try clear hb)
                    (try clear hb2)
                    (try clear hk)
                    (try clear hi)
                    refine hK.out _ _ ⟨(blk_cell BK200.out 0).trans rfl, (blk_cell BK200.out 1).trans rfl, (blk_cell BK200.out 2).trans rfl, (blk_cell BK200.out 3).trans rfl, (blk_cell BK200.out 4).trans rfl, (blk_cell BK200.out 5).trans rfl, (blk_cell BK200.out 6).trans rfl⟩ (fun hHeld => ?_)
                    clear hK K
                    refine norm_ (a' := ?_) ?_ ?_
                    rotate_left
                    · show Act.put _ (some 31) _ = _
                      simp only [Act.put, List.setIfInBounds_toArray, List.set_cons_zero, List.set_cons_succ, i64_w, i32_w]
                      rfl
                    refine pure_ (i := 17) (N := some 32) (v := ?_) (a' := ?_) #[true, true, true, true, true, true, true, true, true, true, true, true, true, true, true, true, true, true, false] rfl rfl (any_of HT_.out (by kernel_rfl)) (fun _ _ _ h => h) (Or.inl ⟨by rfl, ?_⟩) ?_ ?_
                    rotate_left
                    · intro w'
                      go_simp
                      with_reducible rfl
                    rotate_left
                    · simp only [Act.put, List.setIfInBounds_toArray, List.set_cons_zero, List.set_cons_succ, i64_w, i32_w]
                      rfl
                    refine pure_ (i := 18) (N := some 6) (v := ?_) (a' := ?_) #[true, true, true, true, true, true, true, true, true, true, true, true, true, true, true, true, true, true, true] rfl rfl (any_of HT_.out (by kernel_rfl)) (fun _ _ _ h => h) (Or.inl ⟨by rfl, ?_⟩) ?_ ?_
                    rotate_left
                    · intro w'
                      go_simp
                      with_reducible rfl
                    rotate_left
                    · simp only [Act.put, List.setIfInBounds_toArray, List.set_cons_zero, List.set_cons_succ, i64_w, i32_w]
                      rfl
                    refine done_ (done_of HT_.out (by kernel_rfl)) ?_
                    have hcz38_0 : w37.cell? ⟨gb200, 0, none⟩ = some (.int .i64 ((rd_T45 l0 a1).f0)) := (blk_cell BK200.out 0).trans rfl
                    have hcz38_1 : w37.cell? ⟨gb200, 1, none⟩ = some (.int .i64 ((rd_T45 l0 a1).f1)) := (blk_cell BK200.out 1).trans rfl
                    have hcz38_2 : w37.cell? ⟨gb200, 2, none⟩ = some (.int .i64 ((rd_T45 l0 a1).f2)) := (blk_cell BK200.out 2).trans rfl
                    have hcz38_3 : w37.cell? ⟨gb200, 3, none⟩ = some (.int .i64 ((rd_T45 l0 a1).f3)) := (blk_cell BK200.out 3).trans rfl
                    have hcz38_4 : w37.cell? ⟨gb200, 4, none⟩ = some (.int .i64 ((rd_T45 l0 a1).f4)) := (blk_cell BK200.out 4).trans rfl
                    have hcz38_5 : w37.cell? ⟨gb200, 5, none⟩ = some (.int .i64 ((rd_T45 l0 a1).f5)) := (blk_cell BK200.out 5).trans rfl
                    have hcz38_6 : w37.cell? ⟨gb200, 6, none⟩ = some (.int .i64 ((rd_T45 l0 a1).f6)) := (blk_cell BK200.out 6).trans rfl
                    have hfz38_0 := blk_frozen BK200.out 0
                    have hfz38_1 := blk_frozen BK200.out 1
                    have hfz38_2 := blk_frozen BK200.out 2
                    have hfz38_3 := blk_frozen BK200.out 3
                    have hfz38_4 := blk_frozen BK200.out 4
                    have hfz38_5 := blk_frozen BK200.out 5
                    have hfz38_6 := blk_frozen BK200.out 6
                    go_upto_if 44 with (fail)
                    go_cut [7, 8] (fun v7 v8 wc => ∃ (kq : Nat) (x7_28 : ByteArray) (x8_28 : ByteArray), v7 = .string x7_28 ∧ v8 = .string x8_28 ∧ Aside0 (mullionref05_body.j0 kq l0 a1 ((((((t201 ++ (⟨#[120]⟩ : ByteArray)) ++ t202) ++ (⟨#[44]⟩ : ByteArray)) ++ t203) ++ (⟨#[44]⟩ : ByteArray)) ++ t204) x7_28 x8_28 = some r) ∧ Aside0 (kq ≤ k) ∧ Aside0 (wc.heap[gb200]? = some (.cells #[.int .i64 ((rd_T45 l0 a1).f0), .int .i64 ((rd_T45 l0 a1).f1), .int .i64 ((rd_T45 l0 a1).f2), .int .i64 ((rd_T45 l0 a1).f3), .int .i64 ((rd_T45 l0 a1).f4), .int .i64 ((rd_T45 l0 a1).f5), .int .i64 ((rd_T45 l0 a1).f6)] 45 (0, 0))) ∧ Aside0 (Below w.heap.size w wc))
                    case first =>
                      have H := HC29.out
                      clear HC29
                      by_cases c39 : ((rd_T45 l0 a1).f1) = 3
                      · rw [if_pos c39] at H
                        have c39b0 : (((rd_T45 l0 a1).f1) == 3) = true := beq_iff_eq.mpr c39
                        have c39b1 : (((rd_T45 l0 a1).f1) != 3) = false := bne_eq_false_iff_eq.mpr c39
                        clear c39
                        (first | rw [c39b0] | (simp only [i64_w, i32_w]; rw [c39b0]) | skip)
                        have H' := Aside0.mk H
                        clear H
                        go_wp2
                        go_meet
                        case rel => exact ⟨_, ((⟨#[91]⟩ : ByteArray)), ((⟨#[93]⟩ : ByteArray)), (by first | rfl | (simp; done) | (simp [*]; done)), (by first | rfl | (simp; done) | (simp [*]; done)), H', ⟨by first | omega | exact Nat.le_refl _⟩, ⟨by (with_reducible repeat (first | refine blk_drewN ?_ _ | refine blk_drew ?_ | refine blk_alloc ?_ _)); exact BK200.out⟩, ⟨by repeat (first | (with_reducible first | exact HB.out | apply below_alloc | apply pw_below_drewN | apply below_drew1 | refine below_set ?_ GE200.out) | exact HB.out)⟩⟩
                      · rw [if_neg c39] at H
                        have c39b0 : (((rd_T45 l0 a1).f1) == 3) = false := beq_eq_false_iff_ne.mpr c39
                        have c39b1 : (((rd_T45 l0 a1).f1) != 3) = true := bne_iff_ne.mpr c39
                        (first | rw [c39b0] | (simp only [i64_w, i32_w]; rw [c39b0]) | skip)
                        have H' := Aside0.mk H
                        clear H
                        go_wp2
                        go_meet
                        case rel => exact ⟨_, ((⟨#[123]⟩ : ByteArray)), ((⟨#[125]⟩ : ByteArray)), (by first | rfl | (simp; done) | (simp [*]; done)), (by first | rfl | (simp; done) | (simp [*]; done)), H', ⟨by first | omega | exact Nat.le_refl _⟩, ⟨by (with_reducible repeat (first | refine blk_drewN ?_ _ | refine blk_drew ?_ | refine blk_alloc ?_ _)); exact BK200.out⟩, ⟨by repeat (first | (with_reducible first | exact HB.out | apply below_alloc | apply pw_below_drewN | apply below_drew1 | refine below_set ?_ GE200.out) | exact HB.out)⟩⟩
                    case rest =>
                      clear HC29
                      try clear c1
                      try clear p1
                      try clear q1
                      try clear hx1
                      try clear c2
                      try clear p2
                      try clear c3
                      try clear c4
                      try clear c8
                      try clear c8b0
                      try clear c8b1
                      try clear c8b2
                      try clear c9
                      try clear c9b0
                      try clear c9b1
                      try clear c9b2
                      try clear c11
                      try clear c11b0
                      try clear c11b1
                      try clear c11b2
                      try clear c12
                      try clear c12b0
                      try clear c12b1
                      try clear c12b2
                      try clear c14
                      try clear c14b0
                      try clear c14b1
                      try clear c14b2
                      try clear c15
                      try clear c15b0
                      try clear c15b1
                      try clear c16
                      try clear c16b0
                      try clear c16b1
                      try clear c16b2
                      try clear c18
                      try clear c18b0
                      try clear c18b1
                      try clear c18b2
                      try clear p19
                      try clear q19
                      try clear hx19
                      try clear c26
                      try clear c39
                      try clear c39b0
                      try clear c39b1
                      try clear hcz20_0
                      try clear hcz20_1
                      try clear hcz20_2
                      try clear hcz20_3
                      try clear hcz20_4
                      try clear hcz20_5
                      try clear hcz20_6
                      try clear hcz27_0
                      try clear hcz27_1
                      try clear hcz27_2
                      try clear hcz27_3
                      try clear hcz27_4
                      try clear hcz27_5
                      try clear hcz27_6
                      try clear hcz31_0
                      try clear hcz31_1
                      try clear hcz31_2
                      try clear hcz31_3
                      try clear hcz31_4
                      try clear hcz31_5
                      try clear hcz31_6
                      try clear hcz38_0
                      try clear hcz38_1
                      try clear hcz38_2
                      try clear hcz38_3
                      try clear hcz38_4
                      try clear hcz38_5
                      try clear hcz38_6
                      try clear hfz20_0
                      try clear hfz20_1
                      try clear hfz20_2
                      try clear hfz20_3
                      try clear hfz20_4
                      try clear hfz20_5
                      try clear hfz20_6
                      try clear hfz27_0
                      try clear hfz27_1
                      try clear hfz27_2
                      try clear hfz27_3
                      try clear hfz27_4
                      try clear hfz27_5
                      try clear hfz27_6
                      try clear hfz31_0
                      try clear hfz31_1
                      try clear hfz31_2
                      try clear hfz31_3
                      try clear hfz31_4
                      try clear hfz31_5
                      try clear hfz31_6
                      try clear hfz38_0
                      try clear hfz38_1
                      try clear hfz38_2
                      try clear hfz38_3
                      try clear hfz38_4
                      try clear hfz38_5
                      try clear hfz38_6
                      try clear hx199_0
                      try clear hx199_1
                      try clear hx199_2
                      try clear hx199_3
                      try clear hx199_4
                      try clear hx199_5
                      try clear hx199_6
                      try clear p199
                      try clear q199
                      obtain ⟨kq, x7_28, x8_28, rfl, rfl, HA, HJ28, BK200, HB⟩ := hcut
                      cases kq with
                      | zero => exact absurd HA.out (by simp [mullionref05_body.j0])
                      | succ kj28 =>
                        have H := HA.out
                        clear HA
                        simp only [mullionref05_body.j0] at H
                        by_cases c40 : ((((((t201 ++ (⟨#[120]⟩ : ByteArray)) ++ t202) ++ (⟨#[44]⟩ : ByteArray)) ++ t203) ++ (⟨#[44]⟩ : ByteArray)) ++ t204).size + x7_28.size ≤ 9223372036854775807
                        · rw [if_pos c40] at H
                          have c40b0 := eq_true c40
                          have c40b1 : decide (((((((t201 ++ (⟨#[120]⟩ : ByteArray)) ++ t202) ++ (⟨#[44]⟩ : ByteArray)) ++ t203) ++ (⟨#[44]⟩ : ByteArray)) ++ t204).size + x7_28.size ≤ 9223372036854775807) = true := decide_eq_true c40
                          try have c40b2 : (9223372036854775807 < ((((((t201 ++ (⟨#[120]⟩ : ByteArray)) ++ t202) ++ (⟨#[44]⟩ : ByteArray)) ++ t203) ++ (⟨#[44]⟩ : ByteArray)) ++ t204).size + x7_28.size) = False := eq_false (Nat.not_lt.2 c40)
                          try have c40b3 : (9223372036854775807 < t201.size + 1 + t202.size + 1 + t203.size + 1 + t204.size + x7_28.size) = False := eq_false (by have h_ := c40; simp only [ByteArray.size_append] at h_; exact Nat.not_lt.2 h_)
                          replace H := Option.bind_eq_some_iff.mp H
                          obtain ⟨t206, A410, H⟩ := H
                          replace H : (mullionref05_body.l0 kj28 l0 a1 (((((((t201 ++ (⟨#[120]⟩ : ByteArray)) ++ t202) ++ (⟨#[44]⟩ : ByteArray)) ++ t203) ++ (⟨#[44]⟩ : ByteArray)) ++ t204) ++ x7_28) x8_28 t206 (wrap64 (a1 + 1))) = some r := H
                          have A41 := Aside0.mk A410
                          clear A410
                          have H' := Aside0.mk H
                          clear H
                          go_wp2_with (first | ((with_reducible refine gate_callee (f := 41) rfl ?_); refine goesL_ (some 50) rfl rfl Tryd.func41 (by kernel_rfl) rfl #[.slice (some ad199) l0.length c0, .int .i64 a1] rfl (by (try simp only [List.map_toArray, List.map_cons, List.map_nil]); first | done | rfl | (simp only [List.length_drop, List.length_take]; rfl)) ?_; (with_reducible refine (mullionref05_behind.calls kj28 _ _ l0 a1 t206 _ ?side1 ?side2 A41.out).mono ?_); (case side1 => repeat (first | exact (Kd.C_below HR0.out HB.out) | (with_reducible refine Kd.C_alloc ?_ _) | (with_reducible refine Kd.C_drewN ?_ _) | (with_reducible refine Kd.C_drew ?_))); (case side2 => exact HC0.out); rintro e w' ⟨rfl, ⟨nd, rfl⟩⟩; refine ⟨_, rfl, ?_⟩))
                          go_loopg [6, 10] kj28 (fun kq v6 v10 w' => ∃ (x6_2 : ByteArray) (x10_2 : Int), v6 = .string x6_2 ∧ v10 = .int .i64 x10_2 ∧ Aside0 (mullionref05_body.l0 kq l0 a1 x6_2 x8_28 t206 x10_2 = some r) ∧ Aside0 (kq ≤ kj28) ∧ Aside0 (w'.heap[gb200]? = some (.cells #[.int .i64 ((rd_T45 l0 a1).f0), .int .i64 ((rd_T45 l0 a1).f1), .int .i64 ((rd_T45 l0 a1).f2), .int .i64 ((rd_T45 l0 a1).f3), .int .i64 ((rd_T45 l0 a1).f4), .int .i64 ((rd_T45 l0 a1).f5), .int .i64 ((rd_T45 l0 a1).f6)] 45 (0, 0))) ∧ Aside0 (Below w.heap.size w w'))
                          case atStart => exact ⟨(((((((t201 ++ (⟨#[120]⟩ : ByteArray)) ++ t202) ++ (⟨#[44]⟩ : ByteArray)) ++ t203) ++ (⟨#[44]⟩ : ByteArray)) ++ t204) ++ x7_28), (wrap64 (a1 + 1)), (by first | rfl | (simp; done) | (simp [*]; done)), (by first | rfl | (simp; done) | (simp [*]; done)), H', ⟨Nat.le_refl _⟩, ⟨by (with_reducible repeat (first | refine blk_drewN ?_ _ | refine blk_drew ?_ | refine blk_alloc ?_ _)); exact BK200.out⟩, ⟨by repeat (first | (with_reducible first | exact HB.out | apply below_alloc | apply pw_below_drewN | apply below_drew1 | refine below_set ?_ GE200.out) | exact HB.out)⟩⟩
                          case round =>
                            clear H'
                            try clear c1
                            try clear p1
                            try clear q1
                            try clear hx1
                            try clear c2
                            try clear p2
                            try clear c3
                            try clear c4
                            try clear p6
                            try clear c8
                            try clear c8b0
                            try clear c8b1
                            try clear c8b2
                            try clear c9
                            try clear c9b0
                            try clear c9b1
                            try clear c9b2
                            try clear c11
                            try clear c11b0
                            try clear c11b1
                            try clear c11b2
                            try clear c12
                            try clear c12b0
                            try clear c12b1
                            try clear c12b2
                            try clear c14
                            try clear c14b0
                            try clear c14b1
                            try clear c14b2
                            try clear c15
                            try clear c15b0
                            try clear c15b1
                            try clear c16
                            try clear c16b0
                            try clear c16b1
                            try clear c16b2
                            try clear c18
                            try clear c18b0
                            try clear c18b1
                            try clear c18b2
                            try clear p19
                            try clear q19
                            try clear hx19
                            try clear c26
                            try clear c39
                            try clear c39b0
                            try clear c39b1
                            try clear c40
                            try clear c40b0
                            try clear c40b1
                            try clear c40b2
                            try clear c41
                            try clear hcz20_0
                            try clear hcz20_1
                            try clear hcz20_2
                            try clear hcz20_3
                            try clear hcz20_4
                            try clear hcz20_5
                            try clear hcz20_6
                            try clear hcz27_0
                            try clear hcz27_1
                            try clear hcz27_2
                            try clear hcz27_3
                            try clear hcz27_4
                            try clear hcz27_5
                            try clear hcz27_6
                            try clear hcz31_0
                            try clear hcz31_1
                            try clear hcz31_2
                            try clear hcz31_3
                            try clear hcz31_4
                            try clear hcz31_5
                            try clear hcz31_6
                            try clear hcz38_0
                            try clear hcz38_1
                            try clear hcz38_2
                            try clear hcz38_3
                            try clear hcz38_4
                            try clear hcz38_5
                            try clear hcz38_6
                            try clear hfz20_0
                            try clear hfz20_1
                            try clear hfz20_2
                            try clear hfz20_3
                            try clear hfz20_4
                            try clear hfz20_5
                            try clear hfz20_6
                            try clear hfz27_0
                            try clear hfz27_1
                            try clear hfz27_2
                            try clear hfz27_3
                            try clear hfz27_4
                            try clear hfz27_5
                            try clear hfz27_6
                            try clear hfz31_0
                            try clear hfz31_1
                            try clear hfz31_2
                            try clear hfz31_3
                            try clear hfz31_4
                            try clear hfz31_5
                            try clear hfz31_6
                            try clear hfz38_0
                            try clear hfz38_1
                            try clear hfz38_2
                            try clear hfz38_3
                            try clear hfz38_4
                            try clear hfz38_5
                            try clear hfz38_6
                            try clear hx199_0
                            try clear hx199_1
                            try clear hx199_2
                            try clear hx199_3
                            try clear hx199_4
                            try clear hx199_5
                            try clear hx199_6
                            try clear p1
                            try clear p19
                            try clear p199
                            try clear p2
                            try clear q1
                            try clear q19
                            try clear q199
                            obtain ⟨x6_2, x10_2, rfl, rfl, HA, HK2, BK200, HB⟩ := hrel
                            cases gk with
                            | zero => exact absurd HA.out (by simp [mullionref05_body.l0])
                            | succ k2 =>
                              have H := HA.out
                              clear HA
                              simp only [mullionref05_body.l0] at H
                              by_cases c42 : x10_2 < t206
                              · rw [if_pos c42] at H
                                have c42b0 : decide (x10_2 < t206) = true := decide_eq_true c42
                                clear c42
                                by_cases c43 : x10_2 > (wrap64 (a1 + 1))
                                · rw [if_pos c43] at H
                                  have c43b0 : decide ((wrap64 (a1 + 1)) < x10_2) = true := decide_eq_true c43
                                  clear c43
                                  by_cases c44 : x6_2.size + 1 ≤ 9223372036854775807
                                  · rw [if_pos c44] at H
                                    have c44b0 := eq_true c44
                                    have c44b1 : decide (x6_2.size + 1 ≤ 9223372036854775807) = true := decide_eq_true c44
                                    try have c44b2 : (9223372036854775807 < x6_2.size + 1) = False := eq_false (Nat.not_lt.2 c44)
                                    replace H := Option.bind_eq_some_iff.mp H
                                    obtain ⟨t207, A450, H⟩ := H
                                    replace H : (if (x6_2 ++ (⟨#[44]⟩ : ByteArray)).size + t207.size ≤ 9223372036854775807 then ((mullionref05_behind.f k2 l0 x10_2).bind fun t208 => (mullionref05_body.l0 k2 l0 a1 ((x6_2 ++ (⟨#[44]⟩ : ByteArray)) ++ t207) x8_28 t206 t208)) else (none)) = some r := H
                                    have A45 := Aside0.mk A450
                                    clear A450
                                    by_cases c46 : (x6_2 ++ (⟨#[44]⟩ : ByteArray)).size + t207.size ≤ 9223372036854775807
                                    · rw [if_pos c46] at H
                                      have c46b0 := eq_true c46
                                      have c46b1 : decide ((x6_2 ++ (⟨#[44]⟩ : ByteArray)).size + t207.size ≤ 9223372036854775807) = true := decide_eq_true c46
                                      try have c46b2 : (9223372036854775807 < (x6_2 ++ (⟨#[44]⟩ : ByteArray)).size + t207.size) = False := eq_false (Nat.not_lt.2 c46)
                                      try have c46b3 : (9223372036854775807 < x6_2.size + 1 + t207.size) = False := eq_false (by have h_ := c46; simp only [ByteArray.size_append] at h_; exact Nat.not_lt.2 h_)
                                      replace H := Option.bind_eq_some_iff.mp H
                                      obtain ⟨t208, A470, H⟩ := H
                                      replace H : (mullionref05_body.l0 k2 l0 a1 ((x6_2 ++ (⟨#[44]⟩ : ByteArray)) ++ t207) x8_28 t206 t208) = some r := H
                                      have A47 := Aside0.mk A470
                                      clear A470
                                      have H' := Aside0.mk H
                                      clear H
                                      go_wp2_with (first | ((with_reducible refine gate_callee (f := 26) rfl ?_); refine goesL_ (some 68) rfl rfl Tryd.func26 (by kernel_rfl) rfl #[.slice (some ad199) l0.length c0, .int .i64 x10_2] rfl (by (try simp only [List.map_toArray, List.map_cons, List.map_nil]); first | done | rfl | (simp only [List.length_drop, List.length_take]; rfl)) ?_; (with_reducible refine (ih k2 (by have := HJ28.out; have := HK2.out; omega) _ _ l0 x10_2 t207 _ ?side1 ?side2 A45.out).mono ?_); (case side1 => repeat (first | exact (Kd.C_below HR0.out HB.out) | (with_reducible refine Kd.C_alloc ?_ _) | (with_reducible refine Kd.C_drewN ?_ _) | (with_reducible refine Kd.C_drew ?_))); (case side2 => exact HC0.out); rintro e w48 ⟨rfl, hb⟩; refine ⟨_, rfl, ?_⟩; have n0_ := Aside0.mk (blk_below (g := gb200) (o := .cells #[.int .i64 ((rd_T45 l0 a1).f0), .int .i64 ((rd_T45 l0 a1).f1), .int .i64 ((rd_T45 l0 a1).f2), .int .i64 ((rd_T45 l0 a1).f3), .int .i64 ((rd_T45 l0 a1).f4), .int .i64 ((rd_T45 l0 a1).f5), .int .i64 ((rd_T45 l0 a1).f6)] 45 (0, 0)) (by (with_reducible repeat (first | refine blk_drewN ?_ _ | refine blk_drew ?_ | refine blk_alloc ?_ _)); exact BK200.out) hb); have n1_ := Aside0.mk (below_step (by repeat (first | (with_reducible first | exact HB.out | apply below_alloc | apply pw_below_drewN | apply below_drew1 | refine below_set ?_ GE200.out) | exact HB.out)) hb); clear BK200; clear HB; have BK200 := n0_; have HB := n1_; clear n0_ n1_; (try clear hb); (try clear hb2); (try clear hk); (try clear hi)) | ((with_reducible refine gate_callee (f := 41) rfl ?_); refine goesL_ (some 58) rfl rfl Tryd.func41 (by kernel_rfl) rfl #[.slice (some ad199) l0.length c0, .int .i64 x10_2] rfl (by (try simp only [List.map_toArray, List.map_cons, List.map_nil]); first | done | rfl | (simp only [List.length_drop, List.length_take]; rfl)) ?_; (with_reducible refine (mullionref05_behind.calls k2 _ _ l0 x10_2 t208 _ ?side1 ?side2 A47.out).mono ?_); (case side1 => repeat (first | exact (Kd.C_below HR0.out HB.out) | (with_reducible refine Kd.C_alloc ?_ _) | (with_reducible refine Kd.C_drewN ?_ _) | (with_reducible refine Kd.C_drew ?_))); (case side2 => exact HC0.out); rintro e w' ⟨rfl, ⟨nd, rfl⟩⟩; refine ⟨_, rfl, ?_⟩))
                                      go_roundg k2
                                      case measure => have := HJ28.out; have := HK2.out; omega
                                      case rel => exact ⟨((x6_2 ++ (⟨#[44]⟩ : ByteArray)) ++ t207), (t208), (by first | rfl | (simp; done) | (simp [*]; done)), (by first | rfl | (simp; done) | (simp [*]; done)), H', ⟨by have := HJ28.out; have := HK2.out; omega⟩, ⟨by (with_reducible repeat (first | refine blk_drewN ?_ _ | refine blk_drew ?_ | refine blk_alloc ?_ _)); exact BK200.out⟩, ⟨by repeat (first | (with_reducible first | exact HB.out | apply below_alloc | apply pw_below_drewN | apply below_drew1 | refine below_set ?_ GE200.out) | exact HB.out)⟩⟩
                                    · rw [if_neg c46] at H
                                      exact absurd H (by simp)
                                  · rw [if_neg c44] at H
                                    exact absurd H (by simp)
                                · rw [if_neg c43] at H
                                  have c43b0 : decide ((wrap64 (a1 + 1)) < x10_2) = false := decide_eq_false c43
                                  clear c43
                                  replace H := Option.bind_eq_some_iff.mp H
                                  obtain ⟨t209, A490, H⟩ := H
                                  replace H : (if x6_2.size + t209.size ≤ 9223372036854775807 then ((mullionref05_behind.f k2 l0 x10_2).bind fun t210 => (mullionref05_body.l0 k2 l0 a1 (x6_2 ++ t209) x8_28 t206 t210)) else (none)) = some r := H
                                  have A49 := Aside0.mk A490
                                  clear A490
                                  by_cases c50 : x6_2.size + t209.size ≤ 9223372036854775807
                                  · rw [if_pos c50] at H
                                    have c50b0 := eq_true c50
                                    have c50b1 : decide (x6_2.size + t209.size ≤ 9223372036854775807) = true := decide_eq_true c50
                                    try have c50b2 : (9223372036854775807 < x6_2.size + t209.size) = False := eq_false (Nat.not_lt.2 c50)
                                    replace H := Option.bind_eq_some_iff.mp H
                                    obtain ⟨t210, A510, H⟩ := H
                                    replace H : (mullionref05_body.l0 k2 l0 a1 (x6_2 ++ t209) x8_28 t206 t210) = some r := H
                                    have A51 := Aside0.mk A510
                                    clear A510
                                    have H' := Aside0.mk H
                                    clear H
                                    go_wp2_with (first | ((with_reducible refine gate_callee (f := 26) rfl ?_); refine goesL_ (some 68) rfl rfl Tryd.func26 (by kernel_rfl) rfl #[.slice (some ad199) l0.length c0, .int .i64 x10_2] rfl (by (try simp only [List.map_toArray, List.map_cons, List.map_nil]); first | done | rfl | (simp only [List.length_drop, List.length_take]; rfl)) ?_; (with_reducible refine (ih k2 (by have := HJ28.out; have := HK2.out; omega) _ _ l0 x10_2 t209 _ ?side1 ?side2 A49.out).mono ?_); (case side1 => repeat (first | exact (Kd.C_below HR0.out HB.out) | (with_reducible refine Kd.C_alloc ?_ _) | (with_reducible refine Kd.C_drewN ?_ _) | (with_reducible refine Kd.C_drew ?_))); (case side2 => exact HC0.out); rintro e w52 ⟨rfl, hb⟩; refine ⟨_, rfl, ?_⟩; have n0_ := Aside0.mk (blk_below (g := gb200) (o := .cells #[.int .i64 ((rd_T45 l0 a1).f0), .int .i64 ((rd_T45 l0 a1).f1), .int .i64 ((rd_T45 l0 a1).f2), .int .i64 ((rd_T45 l0 a1).f3), .int .i64 ((rd_T45 l0 a1).f4), .int .i64 ((rd_T45 l0 a1).f5), .int .i64 ((rd_T45 l0 a1).f6)] 45 (0, 0)) (by (with_reducible repeat (first | refine blk_drewN ?_ _ | refine blk_drew ?_ | refine blk_alloc ?_ _)); exact BK200.out) hb); have n1_ := Aside0.mk (below_step (by repeat (first | (with_reducible first | exact HB.out | apply below_alloc | apply pw_below_drewN | apply below_drew1 | refine below_set ?_ GE200.out) | exact HB.out)) hb); clear BK200; clear HB; have BK200 := n0_; have HB := n1_; clear n0_ n1_; (try clear hb); (try clear hb2); (try clear hk); (try clear hi)) | ((with_reducible refine gate_callee (f := 41) rfl ?_); refine goesL_ (some 58) rfl rfl Tryd.func41 (by kernel_rfl) rfl #[.slice (some ad199) l0.length c0, .int .i64 x10_2] rfl (by (try simp only [List.map_toArray, List.map_cons, List.map_nil]); first | done | rfl | (simp only [List.length_drop, List.length_take]; rfl)) ?_; (with_reducible refine (mullionref05_behind.calls k2 _ _ l0 x10_2 t210 _ ?side1 ?side2 A51.out).mono ?_); (case side1 => repeat (first | exact (Kd.C_below HR0.out HB.out) | (with_reducible refine Kd.C_alloc ?_ _) | (with_reducible refine Kd.C_drewN ?_ _) | (with_reducible refine Kd.C_drew ?_))); (case side2 => exact HC0.out); rintro e w' ⟨rfl, ⟨nd, rfl⟩⟩; refine ⟨_, rfl, ?_⟩))
                                    go_roundg k2
                                    case measure => have := HJ28.out; have := HK2.out; omega
                                    case rel => exact ⟨(x6_2 ++ t209), (t210), (by first | rfl | (simp; done) | (simp [*]; done)), (by first | rfl | (simp; done) | (simp [*]; done)), H', ⟨by have := HJ28.out; have := HK2.out; omega⟩, ⟨by (with_reducible repeat (first | refine blk_drewN ?_ _ | refine blk_drew ?_ | refine blk_alloc ?_ _)); exact BK200.out⟩, ⟨by repeat (first | (with_reducible first | exact HB.out | apply below_alloc | apply pw_below_drewN | apply below_drew1 | refine below_set ?_ GE200.out) | exact HB.out)⟩⟩
                                  · rw [if_neg c50] at H
                                    exact absurd H (by simp)
                              · rw [if_neg c42] at H
                                have c42b0 : decide (x10_2 < t206) = false := decide_eq_false c42
                                clear c42
                                by_cases c53 : x6_2.size + x8_28.size ≤ 9223372036854775807
                                · rw [if_pos c53] at H
                                  have c53b0 := eq_true c53
                                  have c53b1 : decide (x6_2.size + x8_28.size ≤ 9223372036854775807) = true := decide_eq_true c53
                                  try have c53b2 : (9223372036854775807 < x6_2.size + x8_28.size) = False := eq_false (Nat.not_lt.2 c53)
                                  obtain rfl := Option.some.inj H
                                  go_wp2
                                  go_ret
                                  exact ⟨by first | rfl | (simp [errW_none, errW_some] <;> rfl) | (simp [*, errW_none, errW_some] <;> rfl), by repeat (first | (with_reducible first | exact HB.out | apply below_alloc | apply pw_below_drewN | apply below_drew1 | refine below_set ?_ GE200.out) | exact HB.out)⟩
                                · rw [if_neg c53] at H
                                  exact absurd H (by simp)
                        · rw [if_neg c40] at H
                          exact absurd H (by simp)
                · rw [if_neg c14] at H
                  exact absurd H (by simp)
              · rw [if_neg c12] at H
                exact absurd H (by simp)
            · rw [if_neg c11] at H
              exact absurd H (by simp)
          · rw [if_neg c9] at H
            exact absurd H (by simp)
        · rw [if_neg c8] at H
          exact absurd H (by simp)
      · rw [if_neg c6] at H
        exact absurd H (by simp)
    · rw [if_neg c4] at H
      exact absurd H (by simp)
  · rw [if_neg c3] at H
    exact absurd H (by simp)
end Go.Proofs.YtmpnkckaohfflaaDoor.L
end
section
namespace Go.Proofs.YtmpnkckaohfflaaDoor.PGiv
open Go.RowKit Go.Proofs.YtmpnkckaohfflaaDoorW.PrintWords Go.Proofs.YtmpnkckaohfflaaDoorW.PrintLast Go.Proofs.YtmpnkckaohfflaaDoorW.PrintMore
set_option linter.unusedVariables false
set_option linter.unusedSimpArgs false
structure Tr where
  kind : Int
  w : Int
  h : Int
  id : Int
  kids : List Tr
def paneAt (w : World) (b : Nat) (t : Tr) : Prop := ∃ x y : Int, w.heap[b]? = some (.cells #[.int .i64 x, .int .i64 y, .int .i64 t.w, .int .i64 t.h, .int .i64 t.id] 107 (0, 0))
def splitAt (w : World) (b : Nat) (t : Tr) (v : Value) : Prop := ∃ x y : Int, w.heap[b]? = some (.cells #[.int .i64 x, .int .i64 y, .int .i64 t.w, .int .i64 t.h, .int .i64 t.kind, v] 120 (0, 0))
abbrev paneV (b : Nat) : Value := .iface 103 (.pointer (some ⟨b, 0, none⟩))
abbrev splitV (b : Nat) : Value := .iface 117 (.pointer (some ⟨b, 0, none⟩))
def MT (d : Kd Tr) (w : World) (base : Nat) (ok : Nat → Prop) (t : Tr) (cs : List Value) : Prop :=
  (t.kind = 1 ∧ t.kids = [] ∧ ∃ b, cs = [paneV b] ∧ ok b ∧ base ≤ b ∧ paneAt w b t) ∨
  (t.kind ≠ 1 ∧ t.id = 0 ∧ ∃ b v, cs = [splitV b] ∧ ok b ∧ base ≤ b ∧ splitAt w b t v ∧ d.R 65 w base (fun k => ok k ∧ k ≠ b) v t.kids)
theorem block_lt {w : World} {b : Nat} {o : Obj} (h : w.heap[b]? = some o) : b < w.heap.size := by
  rcases Nat.lt_or_ge b w.heap.size with h' | h'
  · exact h'
  · rw [Array.getElem?_eq_none h'] at h
    cases h
section
variable {d : Kd Tr} {w w1 : World} {base base' : Nat} {ok ok' : Nat → Prop} {t : Tr} {cs : List Value}
theorem MT_mono (hok : ∀ k, ok k → ok' k) (h : MT d w base ok t cs) : MT d w base ok' t cs := by
  rcases h with ⟨k1, k2, b, rfl, ho, hb, hp⟩ | ⟨k1, k2, b, v, rfl, ho, hb, hp, hr⟩
  · exact .inl ⟨k1, k2, b, rfl, hok b ho, hb, hp⟩
  · exact .inr ⟨k1, k2, b, v, rfl, hok b ho, hb, hp, Kd.R_mono hr (fun k hk => ⟨hok k hk.1, hk.2⟩)⟩
theorem MT_move (hm : ∀ k, ok k → w1.heap[k]? = w.heap[k]?) (h : MT d w base ok t cs) : MT d w1 base ok t cs := by
  rcases h with ⟨k1, k2, b, rfl, ho, hb, x, y, hp⟩ | ⟨k1, k2, b, v, rfl, ho, hb, ⟨x, y, hp⟩, hr⟩
  · exact .inl ⟨k1, k2, b, rfl, ho, hb, x, y, (hm b ho).trans hp⟩
  · exact .inr ⟨k1, k2, b, v, rfl, ho, hb, ⟨x, y, (hm b ho).trans hp⟩, Kd.R_move hr (fun k hk => hm k hk.1)⟩
theorem MT_lower (hb' : base' ≤ base) (h : MT d w base ok t cs) : MT d w base' ok t cs := by
  rcases h with ⟨k1, k2, b, rfl, ho, hb, hp⟩ | ⟨k1, k2, b, v, rfl, ho, hb, hp, hr⟩
  · exact .inl ⟨k1, k2, b, rfl, ho, by omega, hp⟩
  · exact .inr ⟨k1, k2, b, v, rfl, ho, by omega, hp, Kd.R_lower hr hb'⟩
theorem MT_bound (h : MT d w base ok t cs) : MT d w base (fun k => ok k ∧ base ≤ k ∧ k < w.heap.size ∧ ∃ q, q ∈ 107 :: 120 :: 65 :: d.E ∧ ∃ cells, w.heap[k]? = some (.cells cells q (0, 0))) t cs := by
  rcases h with ⟨k1, k2, b, rfl, ho, hb, x, y, hp⟩ | ⟨k1, k2, b, v, rfl, ho, hb, ⟨x, y, hp⟩, hr⟩
  · exact .inl ⟨k1, k2, b, rfl, ⟨ho, hb, block_lt hp, _, List.mem_cons_self, _, hp⟩, hb, x, y, hp⟩
  · refine .inr ⟨k1, k2, b, v, rfl, ⟨ho, hb, block_lt hp, _, List.mem_cons_of_mem _ List.mem_cons_self, _, hp⟩, hb, ⟨x, y, hp⟩, Kd.R_mono (Kd.R_bound hr) ?_⟩
    rintro k ⟨⟨h1, h2⟩, h3, h4, q, hq, hc⟩
    exact ⟨⟨h1, h3, h4, q, List.mem_cons_of_mem _ (List.mem_cons_of_mem _ hq), hc⟩, h2⟩
end
def KT (d : Kd Tr) (w : World) (t : Tr) (cs : List Value) : Prop :=
  (t.kind = 1 ∧ t.kids = [] ∧ ∃ b, cs = [paneV b] ∧ paneAt w b t) ∨
  (t.kind ≠ 1 ∧ t.id = 0 ∧ ∃ b A c, cs = [splitV b] ∧ splitAt w b t (.slice A t.kids.length c) ∧ t.kids.length ≤ c ∧ d.C w A t.kids.length t.kids)
section
variable {d : Kd Tr} {w w1 : World} {base : Nat} {ok : Nat → Prop} {t : Tr} {cs : List Value}
theorem KT_len (h : KT d w t cs) : cs.length = 1 := by
  rcases h with ⟨_, _, b, rfl, _⟩ | ⟨_, _, b, A, c, rfl, _⟩ <;> rfl
theorem KT_one (h : KT d w t cs) : ∀ u ∈ cs, u.oneCell' = true := by
  rcases h with ⟨_, _, b, rfl, _⟩ | ⟨_, _, b, A, c, rfl, _⟩ <;> (intro u hu; rw [List.mem_singleton.1 hu]; rfl)
theorem KT_below (hb : Below w.heap.size w w1) (h : KT d w t cs) : KT d w1 t cs := by
  rcases h with ⟨k1, k2, b, rfl, x, y, hp⟩ | ⟨k1, k2, b, A, c, rfl, ⟨x, y, hp⟩, hl, hr⟩
  · exact .inl ⟨k1, k2, b, rfl, x, y, (hb.block b (block_lt hp)).trans hp⟩
  · exact .inr ⟨k1, k2, b, A, c, rfl, ⟨x, y, (hb.block b (block_lt hp)).trans hp⟩, hl, Kd.C_below hr hb⟩
theorem KT_of (h : MT d w base ok t cs) : KT d w t cs := by
  rcases h with ⟨k1, k2, b, rfl, _, _, hp⟩ | ⟨k1, k2, b, v, rfl, _, _, hp, hr⟩
  · exact .inl ⟨k1, k2, b, rfl, hp⟩
  · obtain ⟨A, c, rfl, hl, hc⟩ := Kd.R_reads hr
    exact .inr ⟨k1, k2, b, A, c, rfl, hp, hl, hc⟩
end
def FT (d : Kd Tr) : Kd Tr where
  sz := 1
  E := 107 :: 120 :: 65 :: d.E
  K := KT d
  M := MT d
  K_len := KT_len
  K_one := KT_one
  K_below := KT_below
  K_of_M := KT_of
  M_mono := MT_mono
  M_bound := MT_bound
  M_move := MT_move
  M_lower := MT_lower
theorem MT_imp {d d' : Kd Tr} (hs : d.sz = d'.sz) (h : ∀ w base ok x cs, d.M w base ok x cs → d'.M w base ok x cs) {w : World} {base : Nat} {ok : Nat → Prop} {t : Tr} {cs : List Value} (hm : MT d w base ok t cs) : MT d' w base ok t cs := by
  rcases hm with ⟨k1, k2, b, rfl, ho, hb, hp⟩ | ⟨k1, k2, b, v, rfl, ho, hb, hp, hr⟩
  · exact .inl ⟨k1, k2, b, rfl, ho, hb, hp⟩
  · exact .inr ⟨k1, k2, b, v, rfl, ho, hb, hp, Kd.R_imp hs h hr⟩
theorem subT : Kd.Sub FT [107, 120, 65] := fun d h q hq => by
  have hq' : q ∈ 107 :: 120 :: 65 :: d.E := hq
  simp only [List.mem_cons] at hq' ⊢
  rcases hq' with e | e | e | e
  · exact .inl e
  · exact .inr (.inl e)
  · exact .inr (.inr (.inl e))
  · have := h q e
    simpa [List.mem_cons] using this
theorem szT : ∀ n, (Kd.upto FT 1 [107, 120, 65] n).sz = 1 := Kd.upto_sz (fun _ => rfl)
def kT : Kd Tr := Kd.fix FT 1 [107, 120, 65] szT (Kd.upto_E subT)
theorem monoT : Kd.Mono FT := by
  refine ⟨fun _ _ _ => rfl, ?_, fun d d' hs h w base ok x cs hm => MT_imp hs h hm⟩
  rintro d d' hs h w t cs (⟨k1, k2, b, rfl, hp⟩ | ⟨k1, k2, b, A, c, rfl, hp, hl, hr⟩)
  · exact .inl ⟨k1, k2, b, rfl, hp⟩
  · exact .inr ⟨k1, k2, b, A, c, rfl, hp, hl, Kd.C_imp hs h hr⟩
section
variable {w w1 : World} {base : Nat} {ok : Nat → Prop} {t : Tr} {cs : List Value}
theorem kT_open (h : kT.M w base ok t cs) : MT kT w base ok t cs := by
  obtain ⟨n, h⟩ := h
  cases n with
  | zero => exact h.elim
  | succ n =>
    rcases h with ⟨k1, k2, b, rfl, ho, hb, hp⟩ | ⟨k1, k2, b, v, rfl, ho, hb, hp, hr⟩
    · exact .inl ⟨k1, k2, b, rfl, ho, hb, hp⟩
    · exact .inr ⟨k1, k2, b, v, rfl, ho, hb, hp, Kd.fix_R hr⟩
theorem kT_mk (h : MT kT w base ok t cs) : kT.M w base ok t cs := by
  rcases h with ⟨k1, k2, b, rfl, ho, hb, hp⟩ | ⟨k1, k2, b, v, rfl, ho, hb, hp, hr⟩
  · exact ⟨1, .inl ⟨k1, k2, b, rfl, ho, hb, hp⟩⟩
  · obtain ⟨n, q⟩ := Kd.fix_R_back monoT hr
    exact ⟨n + 1, .inr ⟨k1, k2, b, v, rfl, ho, hb, hp, q⟩⟩
def Alike (a b : Option Obj) : Prop :=
  b = a ∨ (∃ x y x' y' r1 r2 r3, a = some (.cells #[.int .i64 x, .int .i64 y, r1, r2, r3] 107 (0, 0)) ∧ b = some (.cells #[.int .i64 x', .int .i64 y', r1, r2, r3] 107 (0, 0))) ∨
    (∃ x y x' y' r1 r2 r3 r4, a = some (.cells #[.int .i64 x, .int .i64 y, r1, r2, r3, r4] 120 (0, 0)) ∧ b = some (.cells #[.int .i64 x', .int .i64 y', r1, r2, r3, r4] 120 (0, 0)))
theorem Alike.refl (a : Option Obj) : Alike a a := .inl rfl
theorem Alike.trans {a b c : Option Obj} (h : Alike a b) (k : Alike b c) : Alike a c := by
  rcases h with rfl | ⟨x, y, x', y', r1, r2, r3, rfl, rfl⟩ | ⟨x, y, x', y', r1, r2, r3, r4, rfl, rfl⟩
  · exact k
  · rcases k with rfl | ⟨x2, y2, x3, y3, s1, s2, s3, e, rfl⟩ | ⟨x2, y2, x3, y3, s1, s2, s3, s4, e, rfl⟩
    · exact .inr (.inl ⟨_, _, _, _, _, _, _, rfl, rfl⟩)
    · injection e with e
      injection e with e _ _
      simp only [Array.mk.injEq, List.cons.injEq] at e
      obtain ⟨_, _, rfl, rfl, rfl, _⟩ := e
      exact .inr (.inl ⟨_, _, _, _, _, _, _, rfl, rfl⟩)
    · injection e with e
      injection e with e _ _
      simp at e
  · rcases k with rfl | ⟨x2, y2, x3, y3, s1, s2, s3, e, rfl⟩ | ⟨x2, y2, x3, y3, s1, s2, s3, s4, e, rfl⟩
    · exact .inr (.inr ⟨_, _, _, _, _, _, _, _, rfl, rfl⟩)
    · injection e with e
      injection e with e _ _
      simp at e
    · injection e with e
      injection e with e _ _
      simp only [Array.mk.injEq, List.cons.injEq] at e
      obtain ⟨_, _, rfl, rfl, rfl, rfl, _⟩ := e
      exact .inr (.inr ⟨_, _, _, _, _, _, _, _, rfl, rfl⟩)
theorem Alike.row {w w1 : World} {k : Nat} {cells : Array Value} (h : Alike w.heap[k]? w1.heap[k]?) (hc : w.heap[k]? = some (.cells cells 65 (0, 0))) : w1.heap[k]? = w.heap[k]? := by
  rcases h with h | ⟨x, y, x', y', r1, r2, r3, e, _⟩ | ⟨x, y, x', y', r1, r2, r3, r4, e, _⟩
  · exact h
  · rw [hc] at e
    injection e with e
    injection e with _ e _
    cases e
  · rw [hc] at e
    injection e with e
    injection e with _ e _
    cases e
theorem paneAt_alike {b : Nat} (h : Alike w.heap[b]? w1.heap[b]?) (hp : paneAt w b t) : paneAt w1 b t := by
  obtain ⟨x, y, hp⟩ := hp
  rcases h with h | ⟨x0, y0, x', y', r1, r2, r3, e, e'⟩ | ⟨x0, y0, x', y', r1, r2, r3, r4, e, _⟩
  · exact ⟨x, y, h.trans hp⟩
  · rw [hp] at e
    injection e with e
    injection e with e _ _
    simp only [Array.mk.injEq, List.cons.injEq] at e
    obtain ⟨_, _, rfl, rfl, rfl, _⟩ := e
    exact ⟨x', y', e'⟩
  · rw [hp] at e
    injection e with e
    injection e with e _ _
    simp at e
theorem splitAt_alike {b : Nat} {v : Value} (h : Alike w.heap[b]? w1.heap[b]?) (hp : splitAt w b t v) : splitAt w1 b t v := by
  obtain ⟨x, y, hp⟩ := hp
  rcases h with h | ⟨x0, y0, x', y', r1, r2, r3, e, _⟩ | ⟨x0, y0, x', y', r1, r2, r3, r4, e, e'⟩
  · exact ⟨x, y, h.trans hp⟩
  · rw [hp] at e
    injection e with e
    injection e with e _ _
    simp at e
  · rw [hp] at e
    injection e with e
    injection e with e _ _
    simp only [Array.mk.injEq, List.cons.injEq] at e
    obtain ⟨_, _, rfl, rfl, rfl, rfl, _⟩ := e
    exact ⟨x', y', e'⟩
theorem upto_alike : ∀ (n : Nat) {t : Tr} {ok : Nat → Prop} {cs : List Value}, (Kd.upto FT 1 [107, 120, 65] n).M w base ok t cs → (∀ k, ok k → Alike w.heap[k]? w1.heap[k]?) → (Kd.upto FT 1 [107, 120, 65] n).M w1 base ok t cs := by
  intro n
  induction n with
  | zero => intro t ok cs h _; exact h.elim
  | succ n ih =>
    intro t ok cs h hm
    rcases h with ⟨k1, k2, b, rfl, ho, hb, hp⟩ | ⟨k1, k2, b, v, rfl, ho, hb, hp, h0, inner, hown, hr⟩
    · exact .inl ⟨k1, k2, b, rfl, ho, hb, paneAt_alike (hm b ho) hp⟩
    · refine .inr ⟨k1, k2, b, v, rfl, ho, hb, splitAt_alike (hm b ho) hp, h0, inner, ?_, hr.imp_ (fun _ _ hp => ih hp (fun k hk => hm k hk.1.1))⟩
      refine own_move hown (fun k hk => ?_)
      obtain ⟨cells, hc⟩ := own_typed hown k hk
      exact (hm k (h0 k hk).1).row hc
theorem kT_alike (h : kT.M w base ok t cs) (hm : ∀ k, ok k → Alike w.heap[k]? w1.heap[k]?) : kT.M w1 base ok t cs := by
  obtain ⟨n, h⟩ := h
  exact ⟨n, upto_alike n h hm⟩
end
end Go.Proofs.YtmpnkckaohfflaaDoor.PGiv
end
section
namespace Go.Proofs.YtmpnkckaohfflaaDoor.PGiv
open Go.RowKit Go.Proofs.YtmpnkckaohfflaaDoorW.PrintWords Go.Proofs.YtmpnkckaohfflaaDoorW.PrintLast Go.Proofs.YtmpnkckaohfflaaDoorW.PrintMore Go.Proofs.YtmpnkckaohfflaaDoor.K
set_option linter.unusedVariables false
set_option linter.unusedSimpArgs false
theorem where_calls (a : Addr) (w : World) : Calls Tryd.prog 118 #[.pointer (some a)] w fun e w' => e = .returned (.pointer (some a)) ∧ w' = w := by
  go_enter Tryd.func118, Tryd.ntmps118
  go_wp2
  go_ret
  exact ⟨rfl, rfl⟩
def ext (kind W H : Int) : Int := if kind = 2 then W else H
theorem extent_calls (b : Nat) (kind W H : Int) (w : World) (hw : w.cell? ⟨b, 2, none⟩ = some (.int .i64 W)) (hh : w.cell? ⟨b, 3, none⟩ = some (.int .i64 H)) :
    Calls Tryd.prog 68 #[.pointer (some ⟨b, 0, none⟩), .int .i64 kind] w fun e w' => e = .returned (.int .i64 (ext kind W H)) ∧ w' = w := by
  unfold ext
  go_enter Tryd.func68, Tryd.ntmps68
  by_cases k : kind = 2
  · rw [if_pos k]
    go_wp2
    go_ret
    exact ⟨rfl, rfl⟩
  · rw [if_neg k]
    go_wp2
    go_ret
    exact ⟨rfl, rfl⟩
theorem whereP (b : Nat) (w : World) : (method 276 103 (.pointer (some ⟨b, 0, none⟩)) "mullion/layout.where").run Tryd.prog w = .ok (118, .pointer (some ⟨b, 0, none⟩)) w := by kernel_rfl
theorem whereS (b : Nat) (w : World) : (method 276 117 (.pointer (some ⟨b, 0, none⟩)) "mullion/layout.where").run Tryd.prog w = .ok (118, .pointer (some ⟨b, 0, none⟩)) w := by kernel_rfl
mutual
def growF : Nat → List S45 → Int → Option (Option (Tr × List S45))
  | 0, _, _ => none
  | k + 1, l, depth =>
    match l with
    | [] => none
    | c :: r => if c.f1 = 1 then some (some (⟨1, c.f4, c.f5, c.f6, []⟩, r)) else growL k c depth [] (-1) r
def growL : Nat → S45 → Int → List Tr → Int → List S45 → Option (Option (Tr × List S45))
  | 0, _, _, _, _, _ => none
  | k + 1, c, depth, kids, sum, l =>
    if (match l with | [] => false | x :: _ => x.f0 == wrap64 (depth + 1)) = true then
      if (match l with | [] => false | x :: _ => x.f1 == c.f1) = true then some none
      else (growF k l (wrap64 (depth + 1))).bind fun r =>
        match r with
        | none => some none
        | some (t, rest) => if ext (wrap64 (5 - c.f1)) t.w t.h = ext (wrap64 (5 - c.f1)) c.f4 c.f5 then growL k c depth (kids ++ [t]) (wrap64 (sum + wrap64 (ext c.f1 t.w t.h + 1))) rest else some none
    else if kids.length < 2 then some none else if sum = ext c.f1 c.f4 c.f5 then some (some (⟨c.f1, c.f4, c.f5, 0, kids⟩, l)) else some none
end
def GrowPost (w : World) (A : Option Addr) (l : List S45) (r : Option (Tr × List S45)) (e : Ending) (w' : World) : Prop :=
  match r with
  | none => e = .returned (.tuple #[.nilIface, .slice none 0 0]) ∧ Below w.heap.size w w'
  | some (t, rest) => ∃ (v : Value) (A' : Option Addr) (c' : Nat), e = .returned (.tuple #[v, .slice A' rest.length c']) ∧ kT.M w' w.heap.size (fun _ => True) t [v] ∧ rest.length ≤ c' ∧ (∀ W : World, Kd.C k45 W A l.length l → Kd.C k45 W A' rest.length rest) ∧ Below w.heap.size w w'
theorem three_new (w : World) (a b c : Obj) : (((w.alloc a).alloc b).alloc c).heap[w.heap.size]? = some a ∧ (((w.alloc a).alloc b).alloc c).heap[w.heap.size + 1]? = some b ∧ (((w.alloc a).alloc b).alloc c).heap[w.heap.size + 2]? = some c ∧ (((w.alloc a).alloc b).alloc c).heap.size = w.heap.size + 3 ∧ Below w.heap.size w (((w.alloc a).alloc b).alloc c) := by
  have e1 : (w.alloc a).heap = w.heap.push a := rfl
  have e2 : ((w.alloc a).alloc b).heap = (w.heap.push a).push b := rfl
  have e : (((w.alloc a).alloc b).alloc c).heap = ((w.heap.push a).push b).push c := rfl
  refine ⟨?_, ?_, ?_, ?_, (((Below.refl _ _).alloc (Nat.le_refl _) _).alloc ?_ _).alloc ?_ _⟩
  · rw [e, Array.getElem?_push, if_neg (by simp; omega), Array.getElem?_push, if_neg (by simp), Array.getElem?_push, if_pos rfl]
  · rw [e, Array.getElem?_push, if_neg (by simp), Array.getElem?_push, if_pos (by simp)]
  · rw [e, Array.getElem?_push, if_pos (by simp)]
  · rw [e]
    simp
  · rw [e1]
    simp
  · rw [e2]
    simp
    omega
theorem tail_cut (A : Option Addr) (c0 : Nat) (c : S45) (l : List S45) (hc : (c :: l).length ≤ c0) :
    ∃ A1 : Option Addr, (∀ W : World, (Instr.slice 22 (.slice A (c :: l).length c0) (some (.int .i64 1)) none none).run Tryd.prog W = .ok (.slice A1 l.length (c0 - 1)) W) ∧
      (∀ W : World, Kd.C k45 W A (c :: l).length (c :: l) → Kd.C k45 W A1 l.length l) := by
  obtain ⟨i, hi, hz⟩ := Option.map_eq_some_iff.1 info45
  simp only [Prod.mk.injEq] at hz
  have hcut := cut_from (P := Tryd.prog) 22 45 .i64 Tryd.underlying22 hi 7 hz.2.1 A (c :: l).length c0 1 (by omega) (by simp; omega)
  refine ⟨_, hcut, fun W h => ?_⟩
  exact Kd.C_drop (m := 1) h (by simp) hc
theorem tree_value {w : World} {base : Nat} {ok : Nat → Prop} {t : Tr} {v : Value} (h : kT.M w base ok t [v]) :
    ∃ (tp : TypeId) (b : Nat), v = .iface tp (.pointer (some ⟨b, 0, none⟩)) ∧ base ≤ b ∧ ok b ∧ w.cell? ⟨b, 2, none⟩ = some (.int .i64 t.w) ∧ w.cell? ⟨b, 3, none⟩ = some (.int .i64 t.h) ∧
      (∀ W : World, (method 276 tp (.pointer (some ⟨b, 0, none⟩)) "mullion/layout.where").run Tryd.prog W = .ok (118, .pointer (some ⟨b, 0, none⟩)) W) := by
  rcases kT_open h with ⟨_, _, b, e, ho, hb, x, y, hp⟩ | ⟨_, _, b, v', e, ho, hb, ⟨x, y, hp⟩, _⟩
  · injection e with e
    exact ⟨_, b, e, hb, ho, (blk_cell hp 2).trans rfl, (blk_cell hp 3).trans rfl, whereP b⟩
  · injection e with e
    exact ⟨_, b, e, hb, ho, (blk_cell hp 2).trans rfl, (blk_cell hp 3).trans rfl, whereS b⟩
theorem split_done (c : S45) (ck : ¬ c.f1 = 1) (kids : List Tr) (v : Value) (w wr : World) (HS : wr.heap[w.heap.size + 2]? = some (.cells #[.int .i64 0, .int .i64 0, .int .i64 c.f4, .int .i64 c.f5, .int .i64 c.f1, v] 120 (0, 0)))
    (RR : kT.R 65 wr (w.heap.size + 3) (fun _ => True) v kids) : kT.M wr w.heap.size (fun _ => True) ⟨c.f1, c.f4, c.f5, 0, kids⟩ [splitV (w.heap.size + 2)] :=
  kT_mk (.inr ⟨ck, rfl, w.heap.size + 2, v, rfl, trivial, by omega, ⟨0, 0, HS⟩, Kd.R_lower (Kd.R_mono (Kd.R_bound RR) (fun k hk => ⟨trivial, by have := hk.2.1; omega⟩)) (by omega)⟩)
theorem info_cell : (Tryd.prog.info? 65).map (fun i => (i.zero, i.size, i.bytes)) = some (some .nilIface, 1, 16) := by kernel_rfl
set_option maxHeartbeats 8000000 in
set_option maxRecDepth 100000 in
theorem grow_calls (k : Nat) (hk : k ≤ 1000000) : ∀ (A : Option Addr) (c0 : Nat) (l : List S45) (depth : Int) (r : Option (Tr × List S45)) (w : World) (hr : Kd.C k45 w A l.length l) (hc : l.length ≤ c0) (h : growF k l depth = some r),
    Calls Tryd.prog 52 #[.slice A l.length c0, .int .i64 depth] w fun e w' => GrowPost w A l r e w' := by
  induction k using Nat.strongRecOn with
  | _ k ih =>
  intro A c0 l depth r w hr hc h
  cases k with
  | zero => exact absurd h (by simp [growF])
  | succ k =>
  cases l with
  | nil => exact absurd h (by simp [growF])
  | cons c l =>
  obtain ⟨ad, rfl, h0, h1, h2, h3, h4, h5, h6⟩ := at_T45 hr 0 (by omega) (by simp)
  have ec : rd_T45 (c :: l) 0 = c := rfl
  have ea : ad.add (Int.toNat 0 * 7) = ad := rfl
  rw [ec, ea] at h0 h1 h2 h3 h4 h5 h6
  clear ec ea
  have eh : (if c.f1 = 1 then some (some (⟨1, c.f4, c.f5, c.f6, []⟩, l)) else growL k c depth [] (-1) l) = some r := h
  obtain ⟨A1, hcut, hA1⟩ := tail_cut (some ad) c0 c l hc
  have hA1' := Lib.hid hA1
  have hrow := Lib.hid hr
  clear hA1 hr
  have hE := Lib.hid eh
  clear h eh
  generalize hn : (c :: l).length = n at *
  have hn1 : 0 < n := by rw [← hn]; simp
  have hl1 : l.length + 1 ≤ c0 := by rw [← hn] at hc; simpa using hc
  go_enter Tryd.func52, Tryd.ntmps52
  by_cases ck : c.f1 = 1
  · have hE' : Hid (some (some (⟨1, c.f4, c.f5, c.f6, []⟩, l)) = some r) := Lib.hid (by have := hE.out; rwa [if_pos ck] at this)
    clear hE
    go_wp2
    go_ret2
    have er := Option.some.inj hE'.out
    subst er
    subst hn
    refine ⟨_, _, _, rfl, kT_mk (.inl ⟨rfl, rfl, w.heap.size + 2, rfl, trivial, by omega, 0, 0, ?_⟩), by simp only [List.length_cons] at hc; omega, hA1'.out, ?_⟩
    · exact (three_new w _ _ _).2.2.1
    · exact (three_new w _ _ _).2.2.2.2
  · have hE' : Hid (growL k c depth [] (-1) l = some r) := Lib.hid (by have := hE.out; rwa [if_neg ck] at this)
    clear hE
    have ck' : (c.f1 == 1) = false := beq_eq_false_iff_ne.mpr ck
    go_wp2
    go_loopg [0, 9] k (fun kq lv sv wr => ∃ (A' : Option Addr) (c' : Nat) (l' : List S45) (sum : Int) (kids : List Tr) (v : Value),
      lv = .slice A' l'.length c' ∧ sv = .int .i64 sum ∧ Aside0 (growL kq c depth kids sum l' = some r) ∧ Aside0 (kids.length + kq ≤ k) ∧ Aside0 (l'.length ≤ c') ∧ Aside0 (∀ W : World, Kd.C k45 W (some ad) n (c :: l) → Kd.C k45 W A' l'.length l') ∧
      Aside0 (Below w.heap.size w wr) ∧ Aside0 (w.heap.size + 3 ≤ wr.heap.size) ∧
      Aside0 (wr.heap[w.heap.size]? = some (.cells #[.int .i64 c.f0, .int .i64 c.f1, .int .i64 c.f2, .int .i64 c.f3, .int .i64 c.f4, .int .i64 c.f5, .int .i64 c.f6] 45 (0, 0))) ∧
      Aside0 (wr.heap[w.heap.size + 1]? = some (.cells #[.int .i64 0, .int .i64 0, .int .i64 c.f4, .int .i64 c.f5] 105 (0, 0))) ∧
      Aside0 (wr.heap[w.heap.size + 2]? = some (.cells #[.int .i64 0, .int .i64 0, .int .i64 c.f4, .int .i64 c.f5, .int .i64 c.f1, v] 120 (0, 0))) ∧
      Aside0 (kT.R 65 wr (w.heap.size + 3) (fun _ => True) v kids))
    case atStart =>
      refine ⟨A1, c0 - 1, l, -1, [], .slice none 0 0, rfl, rfl, ⟨hE'.out⟩, ⟨by simp⟩, ⟨by omega⟩, ⟨hA1'.out⟩, ?_, ?_, ?_, ?_, ?_, ⟨Kd.R_nil _ _ _ _ _⟩⟩
      · exact ⟨(three_new w _ _ _).2.2.2.2⟩
      · exact ⟨Nat.le_of_eq (three_new w _ _ _).2.2.2.1.symm⟩
      · exact ⟨(three_new w _ _ _).1⟩
      · exact ⟨(three_new w _ _ _).2.1⟩
      · exact ⟨(three_new w _ _ _).2.2.1⟩
    case round =>
      obtain ⟨A', c', l', sum, kids, v, rfl, rfl, RE, RK, RL, RC, RB, RS, HC, HB, HS, RR⟩ := hrel
      cases gk with
      | zero => exact absurd RE.out (by simp [growL])
      | succ gk =>
      have hc0 : wr.cell? ⟨w.heap.size, 1, none⟩ = some (.int .i64 c.f1) := (blk_cell HC.out 1).trans rfl
      have hc4 : wr.cell? ⟨w.heap.size, 4, none⟩ = some (.int .i64 c.f4) := (blk_cell HC.out 4).trans rfl
      have hc5 : wr.cell? ⟨w.heap.size, 5, none⟩ = some (.int .i64 c.f5) := (blk_cell HC.out 5).trans rfl
      have hb2 : wr.cell? ⟨w.heap.size + 1, 2, none⟩ = some (.int .i64 c.f4) := (blk_cell HB.out 2).trans rfl
      have hb3 : wr.cell? ⟨w.heap.size + 1, 3, none⟩ = some (.int .i64 c.f5) := (blk_cell HB.out 3).trans rfl
      have hs5 : wr.cell? ⟨w.heap.size + 2, 5, none⟩ = some v := (blk_cell HS.out 5).trans rfl
      cases l' with
      | nil =>
        have RE' : Hid ((if kids.length < 2 then some none else if sum = ext c.f1 c.f4 c.f5 then some (some (⟨c.f1, c.f4, c.f5, 0, kids⟩, [])) else some none) = some r) := Lib.hid (by have := RE.out; rw [growL, if_neg (by simp)] at this; exact this)
        clear RE
        obtain ⟨Av, cv, ev⟩ := Kd.R_slice RR.out
        subst ev
        by_cases hk2 : kids.length < 2
        · have RE2 : Hid (some none = some r) := Lib.hid (by have := RE'.out; rwa [if_pos hk2] at this)
          clear RE'
          go_wp2
          go_ret2
          obtain rfl := Option.some.inj RE2.out
          exact ⟨rfl, RB.out⟩
        · have RE2 : Hid ((if sum = ext c.f1 c.f4 c.f5 then some (some (⟨c.f1, c.f4, c.f5, 0, kids⟩, [])) else some none) = some r) := Lib.hid (by have := RE'.out; rwa [if_neg hk2] at this)
          clear RE'
          generalize hx : ext c.f1 c.f4 c.f5 = xt at *
          have hX := Lib.hid hx
          clear hx
          by_cases hs : sum = xt
          · have RE3 : Hid (some (some (⟨c.f1, c.f4, c.f5, 0, kids⟩, [])) = some r) := Lib.hid (by have := RE2.out; rwa [if_pos hs] at this)
            clear RE2
            go_wp2_with (go_at_call 68; refine (extent_calls (w.heap.size + 1) c.f1 c.f4 c.f5 _ hb2 hb3).mono ?_; rw [hX.out]; rintro e w' ⟨rfl, rfl⟩)
            go_wp2
            go_ret2
            obtain rfl := Option.some.inj RE3.out
            subst hn
            exact ⟨_, _, _, rfl, split_done c ck kids _ w _ HS.out RR.out, RL.out, RC.out, RB.out⟩
          · have hs' : (sum != xt) = true := bne_iff_ne.mpr hs
            have RE3 : Hid (some none = some r) := Lib.hid (by have := RE2.out; rwa [if_neg hs] at this)
            clear RE2
            go_wp2_with (go_at_call 68; refine (extent_calls (w.heap.size + 1) c.f1 c.f4 c.f5 _ hb2 hb3).mono ?_; rw [hX.out]; rintro e w' ⟨rfl, rfl⟩)
            go_wp2
            go_ret2
            obtain rfl := Option.some.inj RE3.out
            exact ⟨rfl, RB.out⟩
      | cons x l' =>
        have hq := Lib.hid RC.out
        obtain ⟨ad', rfl, q0, q1, q2, q3, q4, q5, q6⟩ := at_T45 (Kd.C_below (hq.out _ hrow.out) RB.out) 0 (by omega) (by simp)
        have ec : rd_T45 (x :: l') 0 = x := rfl
        have ea : ad'.add (Int.toNat 0 * 7) = ad' := rfl
        rw [ec, ea] at q0 q1 q2 q3 q4 q5 q6
        clear ec ea
        by_cases hd : x.f0 = wrap64 (depth + 1)
        · have hd' : (x.f0 == wrap64 (depth + 1)) = true := beq_iff_eq.mpr hd
          have RE1 : Hid ((if x.f1 = c.f1 then some none
      else (growF gk (x :: l') (wrap64 (depth + 1))).bind fun r =>
        match r with
        | none => some none
        | some (t, rest) => if ext (wrap64 (5 - c.f1)) t.w t.h = ext (wrap64 (5 - c.f1)) c.f4 c.f5 then growL gk c depth (kids ++ [t]) (wrap64 (sum + wrap64 (ext c.f1 t.w t.h + 1))) rest else some none) = some r) := Lib.hid (by
            have := RE.out
            rw [growL, if_pos (by simpa using hd)] at this
            by_cases e : x.f1 = c.f1
            · rw [if_pos e]
              rw [if_pos (by simpa using e)] at this
              exact this
            · rw [if_neg e]
              rw [if_neg (by simpa using e)] at this
              exact this)
          clear RE
          by_cases hf : x.f1 = c.f1
          · have hf' : (x.f1 == c.f1) = true := beq_iff_eq.mpr hf
            have RE2 : Hid (some none = some r) := Lib.hid (by have := RE1.out; rwa [if_pos hf] at this)
            clear RE1
            go_wp2
            go_quiet (fail)
            go_wp2
            go_ret2
            obtain rfl := Option.some.inj RE2.out
            exact ⟨rfl, pw_below_drewN RB.out _⟩
          · have hf' : (x.f1 == c.f1) = false := beq_eq_false_iff_ne.mpr hf
            have RE2 := RE1.out
            rw [if_neg hf] at RE2
            clear RE1
            obtain ⟨g, hg, RE3⟩ := Option.bind_eq_some_iff.mp RE2
            clear RE2
            have RE4 := Lib.hid RE3
            clear RE3
            have IH := Lib.hid (fun (W : World) (hC : Kd.C k45 W (some ad') (x :: l').length (x :: l')) => ih gk (by have := RK.out; omega) (by have := RK.out; omega) (some ad') c' (x :: l') (wrap64 (depth + 1)) g W hC RL.out hg)
            have HCx := Lib.hid (Kd.C_below (hq.out _ hrow.out) RB.out)
            clear hg
            go_wp2
            go_quiet (fail)
            go_wp2_with (go_at_call 52; refine (IH.out _ (Kd.C_drewN HCx.out _)).mono ?_)
            cases g with
            | none =>
              rintro e w2 ⟨rfl, b2⟩
              go_wp2
              go_ret2
              obtain rfl := Option.some.inj RE4.out
              exact ⟨rfl, RB.out.trans ((pw_below_drewN (Below.refl _ _) _).trans (b2.mono RB.out.size))⟩
            | some tr =>
              obtain ⟨t, rest⟩ := tr
              rintro e w2 ⟨v2, A2, c2, rfl, m2, l2, cc2, b2⟩
              obtain ⟨tp, bx, rfl, hbx, _, hw2, hh2, hme⟩ := tree_value m2
              have B2 : Below (w.heap.size + 3) wr w2 := (pw_below_drewN (Below.refl _ _) _).trans (b2.mono RS.out)
              have HC2 := Lib.hid ((B2.block _ (by omega)).trans HC.out)
              have HB2 := Lib.hid ((B2.block _ (by omega)).trans HB.out)
              have HS2 := Lib.hid ((B2.block _ (by omega)).trans HS.out)
              have RR2 := Lib.hid (Kd.R_below RR.out ((pw_below_drewN (Below.refl _ _) _).trans b2))
              have M2 := Lib.hid m2
              have BB2 := Lib.hid b2
              clear m2 b2 B2 hc0 hc4 hc5 hb2 hb3 hs5 q0 q1 q2 q3 q4 q5 q6
              have hc0 : w2.cell? ⟨w.heap.size, 1, none⟩ = some (.int .i64 c.f1) := (blk_cell HC2.out 1).trans rfl
              have hb2 : w2.cell? ⟨w.heap.size + 1, 2, none⟩ = some (.int .i64 c.f4) := (blk_cell HB2.out 2).trans rfl
              have hb3 : w2.cell? ⟨w.heap.size + 1, 3, none⟩ = some (.int .i64 c.f5) := (blk_cell HB2.out 3).trans rfl
              have hs5 : w2.cell? ⟨w.heap.size + 2, 5, none⟩ = some v := (blk_cell HS2.out 5).trans rfl
              go_wp2_with ((with_reducible refine gate_builtin (b := .append) (xs := #[.tmp 68, .tmp 70]) rfl ?_); at_builtin; refine Kd.R_append kT (w0 := w2) (w.heap.size + 3) rfl (.tmp 68) (.tmp 70) 118 65 .nilIface 16 rfl Tryd.underlying118 info_cell rfl (by decide) (by decide) v kids t _ (fun _ => True) (fun k => wr.heap.size ≤ k) rfl rfl ?hp ?hok (fun _ _ => trivial) ?HO ?HB ?hb ?hl ?_)
              case hp => exact kT.M_lower RS.out (kT.M_mono (fun _ hk => hk.2.1) (kT.M_bound M2.out))
              case hok => exact fun q hq => ⟨trivial, fun e => by obtain ⟨inner, hown⟩ := Kd.R_own RR.out; have := own_lt hown q e.symm; omega⟩
              case HO => exact RR2.out
              case HB => exact Below.refl _ _
              case hb => exact Nat.le_trans RS.out BB2.out.size
              case hl => have := RK.out; omega
              intro v1 w1 R1 hb1 hg1 hat1
              have HC3 := Lib.hid ((hb1.block _ (by omega)).trans HC2.out)
              have HB3 := Lib.hid ((hb1.block _ (by omega)).trans HB2.out)
              have HS3 := Lib.hid ((hb1.block _ (by omega)).trans HS2.out)
              have hnb : some bx ≠ v.ownBlock := fun e => by
                obtain ⟨inner, hown⟩ := Kd.R_own RR.out
                have := own_lt hown bx e.symm
                have hbx' : wr.heap.size ≤ bx := hbx
                omega
              have hbe : w1.heap[bx]? = w2.heap[bx]? := hg1.block bx (World.block_lt_of_cell? w2 _ hw2) hnb
              have hw3 : w1.cell? ⟨bx, 2, none⟩ = some (.int .i64 t.w) := by rw [← hw2]; simp only [World.cell?, hbe]
              have hh3 : w1.cell? ⟨bx, 3, none⟩ = some (.int .i64 t.h) := by rw [← hh2]; simp only [World.cell?, hbe]
              have RR3 := Lib.hid R1
              have BB3 := Lib.hid hb1
              have hbx1 : ¬ bx = w.heap.size + 1 + 1 := by have h := RS.out; have hbx' : wr.heap.size ≤ bx := hbx; omega
              have hbx2 : ¬ w.heap.size + 1 + 1 = bx := fun e => hbx1 e.symm
              clear R1 hb1 hg1 hat1 hbe hnb hc0 hb2 hb3 hs5 hw2 hh2
              have hc0 : w1.cell? ⟨w.heap.size, 1, none⟩ = some (.int .i64 c.f1) := (blk_cell HC3.out 1).trans rfl
              have hb2 : w1.cell? ⟨w.heap.size + 1, 2, none⟩ = some (.int .i64 c.f4) := (blk_cell HB3.out 2).trans rfl
              have hb3 : w1.cell? ⟨w.heap.size + 1, 3, none⟩ = some (.int .i64 c.f5) := (blk_cell HB3.out 3).trans rfl
              have hs5 : w1.cell? ⟨w.heap.size + 1 + 1, 5, none⟩ = some v := (blk_cell HS3.out 5).trans rfl
              have hfz : w1.frozen? ⟨w.heap.size + 1 + 1, 5, none⟩ = false := blk_frozen HS3.out 5
              obtain ⟨Av1, cv1, rfl⟩ := Kd.R_slice RR3.out
              go_wp2
              have elen : (kids ++ [t]).length = kids.length + 1 := by simp
              have RR4 := Lib.hid (Kd.R_far (p := ⟨w.heap.size + 1 + 1, 5, none⟩) (Kd.R_mono (Kd.R_bound RR3.out) (fun q hq => (show True ∧ q ≠ w.heap.size + 1 + 1 from ⟨trivial, by have := hq.2.1; omega⟩))) (fun q hq => hq.2) (.slice Av1 (kids.length + 1) cv1))
              have HC4 := Lib.hid (blk_far HC3.out (p := ⟨w.heap.size + 1 + 1, 5, none⟩) (by show w.heap.size ≠ w.heap.size + 1 + 1; omega) (.slice Av1 (kids.length + 1) cv1))
              have HB4 := Lib.hid (blk_far HB3.out (p := ⟨w.heap.size + 1 + 1, 5, none⟩) (by show w.heap.size + 1 ≠ w.heap.size + 1 + 1; omega) (.slice Av1 (kids.length + 1) cv1))
              have HS4 := Lib.hid (blk_put HS3.out 5 (.slice Av1 (kids.length + 1) cv1) rfl)
              have hw4 : (w1.setCell ⟨w.heap.size + 1 + 1, 5, none⟩ (.slice Av1 (kids.length + 1) cv1)).cell? ⟨bx, 2, none⟩ = some (.int .i64 t.w) := (cell_far hbx1 _).trans hw3
              have hh4 : (w1.setCell ⟨w.heap.size + 1 + 1, 5, none⟩ (.slice Av1 (kids.length + 1) cv1)).cell? ⟨bx, 3, none⟩ = some (.int .i64 t.h) := (cell_far hbx1 _).trans hh3
              have BB4 := Lib.hid (below_set (g := w.heap.size + 1 + 1) (j := 5) (v := .slice Av1 (kids.length + 1) cv1) ((RB.out.trans ((pw_below_drewN (Below.refl _ _) _).trans (BB2.out.mono RB.out.size))).trans (BB3.out.mono (by omega))) (by omega))
              have SZ4 : Hid (w.heap.size + 3 ≤ (w1.setCell ⟨w.heap.size + 1 + 1, 5, none⟩ (.slice Av1 (kids.length + 1) cv1)).heap.size) := Lib.hid (Nat.lt_of_lt_of_le (Nat.lt_succ_self _) (blk_lt HS4.out))
              clear hc0 hb2 hb3 hs5 hfz hw3 hh3 HC3 HB3 HS3 BB3 RR3
              generalize w1.setCell ⟨w.heap.size + 1 + 1, 5, none⟩ (.slice Av1 (kids.length + 1) cv1) = wq at RR4 HC4 HB4 HS4 hw4 hh4 BB4 SZ4 ⊢
              have hc0 : wq.cell? ⟨w.heap.size, 1, none⟩ = some (.int .i64 c.f1) := (blk_cell HC4.out 1).trans rfl
              have hb2 : wq.cell? ⟨w.heap.size + 1, 2, none⟩ = some (.int .i64 c.f4) := (blk_cell HB4.out 2).trans rfl
              have hb3 : wq.cell? ⟨w.heap.size + 1, 3, none⟩ = some (.int .i64 c.f5) := (blk_cell HB4.out 3).trans rfl
              go_quiet (first | (with_reducible exact Calls.quiet_of_same (where_calls _ _)) | ((with_reducible refine Calls.quiet_of_same (extent_calls bx _ t.w t.h _ ?_ ?_)); exact hw4; exact hh4))
              have hc1 : (wq.drewN nq).cell? ⟨w.heap.size, 1, none⟩ = some (.int .i64 c.f1) := hc0
              have hb12 : (wq.drewN nq).cell? ⟨w.heap.size + 1, 2, none⟩ = some (.int .i64 c.f4) := hb2
              have hb13 : (wq.drewN nq).cell? ⟨w.heap.size + 1, 3, none⟩ = some (.int .i64 c.f5) := hb3
              have hw5 : (wq.drewN nq).cell? ⟨bx, 2, none⟩ = some (.int .i64 t.w) := hw4
              have hh5 : (wq.drewN nq).cell? ⟨bx, 3, none⟩ = some (.int .i64 t.h) := hh4
              have XH : Hid ((wq.drewN nq).heap = wq.heap) := Lib.hid rfl
              have XB : Hid (∀ B, Below B wq (wq.drewN nq)) := Lib.hid (fun B => pw_below_drewN (Below.refl B wq) nq)
              clear hc0 hb2 hb3 hw4 hh4
              generalize wq.drewN nq = wq2 at hc1 hb12 hb13 hw5 hh5 XH XB ⊢
              by_cases he : ext (wrap64 (5 - c.f1)) t.w t.h = ext (wrap64 (5 - c.f1)) c.f4 c.f5
              · have he' : (ext (wrap64 (5 - c.f1)) t.w t.h != ext (wrap64 (5 - c.f1)) c.f4 c.f5) = false := bne_eq_false_iff_eq.mpr he
                have RE5 : Hid (growL gk c depth (kids ++ [t]) (wrap64 (sum + wrap64 (ext c.f1 t.w t.h + 1))) rest = some r) := Lib.hid (by have h : (if ext (wrap64 (5 - c.f1)) t.w t.h = ext (wrap64 (5 - c.f1)) c.f4 c.f5 then growL gk c depth (kids ++ [t]) (wrap64 (sum + wrap64 (ext c.f1 t.w t.h + 1))) rest else some none) = some r := RE4.out; rwa [if_pos he] at h)
                clear RE4
                go_wp2
                go_quiet (first | (with_reducible exact Calls.quiet_of_same (where_calls _ _)) | ((with_reducible refine Calls.quiet_of_same (extent_calls bx _ t.w t.h _ ?_ ?_)); exact hw5; exact hh5) | ((with_reducible refine Calls.quiet_of_same (extent_calls (w.heap.size + 1) _ c.f4 c.f5 _ ?_ ?_)); exact hb12; exact hb13))
                go_wp2
                go_roundg gk
                case measure => omega
                case rel =>
                  refine ⟨A2, c2, rest, _, kids ++ [t], .slice Av1 (kids.length + 1) cv1, rfl, rfl, ⟨RE5.out⟩, ⟨by have := RK.out; simp; omega⟩, ⟨l2⟩, ⟨fun W hW => cc2 W (RC.out W hW)⟩, ?_, ?_, ?_, ?_, ?_, ?_⟩
                  · exact ⟨pw_below_drewN (BB4.out.trans (XB.out _)) _⟩
                  · exact ⟨by have h := SZ4.out; rw [← XH.out] at h; exact h⟩
                  · exact ⟨by have h := HC4.out; rw [← XH.out] at h; exact h⟩
                  · exact ⟨by have h := HB4.out; rw [← XH.out] at h; exact h⟩
                  · exact ⟨by have h := HS4.out; rw [← XH.out] at h; exact h⟩
                  · have h := RR4.out
                    rw [elen] at h
                    exact ⟨Kd.R_mono (ok' := fun _ => True) (Kd.R_move (w1 := wq2.drewN nq) h (fun k _ => congrArg (fun hp => hp[k]?) XH.out)) (fun _ _ => trivial)⟩
              · have he' : (ext (wrap64 (5 - c.f1)) t.w t.h != ext (wrap64 (5 - c.f1)) c.f4 c.f5) = true := bne_iff_ne.mpr he
                have RE5 : Hid (some none = some r) := Lib.hid (by have h : (if ext (wrap64 (5 - c.f1)) t.w t.h = ext (wrap64 (5 - c.f1)) c.f4 c.f5 then growL gk c depth (kids ++ [t]) (wrap64 (sum + wrap64 (ext c.f1 t.w t.h + 1))) rest else some none) = some r := RE4.out; rwa [if_neg he] at h)
                clear RE4
                go_wp2
                go_quiet (first | (with_reducible exact Calls.quiet_of_same (where_calls _ _)) | ((with_reducible refine Calls.quiet_of_same (extent_calls bx _ t.w t.h _ ?_ ?_)); exact hw5; exact hh5) | ((with_reducible refine Calls.quiet_of_same (extent_calls (w.heap.size + 1) _ c.f4 c.f5 _ ?_ ?_)); exact hb12; exact hb13))
                go_wp2
                go_ret2
                obtain rfl := Option.some.inj RE5.out
                exact ⟨rfl, pw_below_drewN (BB4.out.trans (XB.out _)) _⟩
        · have RE' : Hid ((if kids.length < 2 then some none else if sum = ext c.f1 c.f4 c.f5 then some (some (⟨c.f1, c.f4, c.f5, 0, kids⟩, x :: l')) else some none) = some r) := Lib.hid (by have := RE.out; rw [growL, if_neg (by simpa using hd)] at this; exact this)
          clear RE
          obtain ⟨Av, cv, ev⟩ := Kd.R_slice RR.out
          subst ev
          by_cases hk2 : kids.length < 2
          · have RE2 : Hid (some none = some r) := Lib.hid (by have := RE'.out; rwa [if_pos hk2] at this)
            clear RE'
            go_wp2
            go_ret2
            obtain rfl := Option.some.inj RE2.out
            exact ⟨rfl, RB.out⟩
          · have RE2 : Hid ((if sum = ext c.f1 c.f4 c.f5 then some (some (⟨c.f1, c.f4, c.f5, 0, kids⟩, x :: l')) else some none) = some r) := Lib.hid (by have := RE'.out; rwa [if_neg hk2] at this)
            clear RE'
            generalize hx : ext c.f1 c.f4 c.f5 = xt at *
            have hX := Lib.hid hx
            clear hx
            by_cases hs : sum = xt
            · have RE3 : Hid (some (some (⟨c.f1, c.f4, c.f5, 0, kids⟩, x :: l')) = some r) := Lib.hid (by have := RE2.out; rwa [if_pos hs] at this)
              clear RE2
              go_wp2_with (go_at_call 68; refine (extent_calls (w.heap.size + 1) c.f1 c.f4 c.f5 _ hb2 hb3).mono ?_; rw [hX.out]; rintro e w' ⟨rfl, rfl⟩)
              go_wp2
              go_ret2
              obtain rfl := Option.some.inj RE3.out
              subst hn
              exact ⟨_, _, _, rfl, split_done c ck kids _ w _ HS.out RR.out, RL.out, RC.out, RB.out⟩
            · have hs' : (sum != xt) = true := bne_iff_ne.mpr hs
              have RE3 : Hid (some none = some r) := Lib.hid (by have := RE2.out; rwa [if_neg hs] at this)
              clear RE2
              go_wp2_with (go_at_call 68; refine (extent_calls (w.heap.size + 1) c.f1 c.f4 c.f5 _ hb2 hb3).mono ?_; rw [hX.out]; rintro e w' ⟨rfl, rfl⟩)
              go_wp2
              go_ret2
              obtain rfl := Option.some.inj RE3.out
              exact ⟨rfl, RB.out⟩
end Go.Proofs.YtmpnkckaohfflaaDoor.PGiv
end
section
namespace Go.Proofs.YtmpnkckaohfflaaDoor.PGiv
open Go.RowKit Go.Proofs.YtmpnkckaohfflaaDoorW.PrintWords Go.Proofs.YtmpnkckaohfflaaDoorW.PrintLast Go.Proofs.YtmpnkckaohfflaaDoorW.PrintMore Go.Proofs.YtmpnkckaohfflaaDoor.K
set_option linter.unusedVariables false
set_option linter.unusedSimpArgs false
theorem Tr.ind {P : Tr → Prop} (h : ∀ kind W H id kids, (∀ t ∈ kids, P t) → P ⟨kind, W, H, id, kids⟩) : ∀ t, P t :=
  Tr.rec (motive_1 := P) (motive_2 := fun ts => ∀ t ∈ ts, P t) h (fun t ht => by cases ht) (fun t ts ht hts u hu => by
    rcases List.mem_cons.1 hu with rfl | hu
    · exact ht
    · exact hts u hu)
mutual
def layT : Tr → Int → Int → Int → List S45
  | ⟨kind, W, H, id, kids⟩, d, x, y => if kind = 1 then [⟨d, 1, x, y, W, H, id⟩] else ⟨d, kind, x, y, W, H, 0⟩ :: layL kind kids (wrap64 (d + 1)) x y
def layL : Int → List Tr → Int → Int → Int → List S45
  | _, [], _, _, _ => []
  | kind, k :: r, d, x, y => layT k d x y ++ layL kind r d (if kind = 2 then wrap64 (x + wrap64 (k.w + 1)) else x) (if kind = 2 then y else wrap64 (y + wrap64 (k.h + 1)))
end
mutual
def cntT : Tr → Nat
  | ⟨_, _, _, _, kids⟩ => 1 + cntL kids
def cntL : List Tr → Nat
  | [] => 0
  | k :: r => cntT k + cntL r
end
theorem cntT_pos : ∀ t, 1 ≤ cntT t := fun ⟨_, _, _, _, _⟩ => by rw [cntT]; omega
theorem len_cntL : ∀ ks : List Tr, ks.length ≤ cntL ks
  | [] => by simp
  | k :: r => by
    have := len_cntL r
    have := cntT_pos k
    rw [cntL, List.length_cons]
    omega
theorem layL_len : ∀ (ks : List Tr), (∀ t ∈ ks, ∀ d x y, (layT t d x y).length ≤ cntT t) → ∀ kind d x y, (layL kind ks d x y).length ≤ cntL ks
  | [], _, _, _, _, _ => by simp [layL]
  | k :: r, h, kind, d, x, y => by
    have h1 := h k List.mem_cons_self d x y
    have h2 := layL_len r (fun t ht => h t (List.mem_cons_of_mem _ ht)) kind d (if kind = 2 then wrap64 (x + wrap64 (k.w + 1)) else x) (if kind = 2 then y else wrap64 (y + wrap64 (k.h + 1)))
    rw [layL, cntL, List.length_append]
    omega
theorem layT_len : ∀ (t : Tr) (d x y : Int), (layT t d x y).length ≤ cntT t := Tr.ind fun kind W H id kids ih d x y => by
  rw [layT, cntT]
  split
  · simp
  · have := layL_len kids ih kind (wrap64 (d + 1)) x y
    simp
    omega
theorem tree_cells {w : World} {base : Nat} {ok : Nat → Prop} {t : Tr} {tp : TypeId} {b : Nat} (h : kT.M w base ok t [.iface tp (.pointer (some ⟨b, 0, none⟩))]) :
    base ≤ b ∧ ok b ∧ w.cell? ⟨b, 2, none⟩ = some (.int .i64 t.w) ∧ w.cell? ⟨b, 3, none⟩ = some (.int .i64 t.h) ∧
      (∀ W : World, (method 276 tp (.pointer (some ⟨b, 0, none⟩)) "mullion/layout.where").run Tryd.prog W = .ok (118, .pointer (some ⟨b, 0, none⟩)) W) := by
  obtain ⟨tp', b', e, h1, h2, h3, h4, h5⟩ := tree_value h
  injection e with e1 e2
  injection e2 with e2
  injection e2 with e2
  injection e2 with e2
  subst e1 e2
  exact ⟨h1, h2, h3, h4, h5⟩
theorem pane_moved {w : World} {b base : Nat} {r1 r2 r3 x0 y0 : Value} (x y : Int) (hb : base ≤ b) (h : w.heap[b]? = some (.cells #[x0, y0, r1, r2, r3] 107 (0, 0))) (hx : ∃ i, x0 = .int .i64 i) (hy : ∃ i, y0 = .int .i64 i) :
    ((w.setCell ⟨b, 0, none⟩ (.int .i64 x)).setCell ⟨b, 1, none⟩ (.int .i64 y)).heap[b]? = some (.cells #[.int .i64 x, .int .i64 y, r1, r2, r3] 107 (0, 0)) ∧
    (∀ k : Nat, Alike w.heap[k]? ((w.setCell ⟨b, 0, none⟩ (.int .i64 x)).setCell ⟨b, 1, none⟩ (.int .i64 y)).heap[k]?) ∧ Below base w ((w.setCell ⟨b, 0, none⟩ (.int .i64 x)).setCell ⟨b, 1, none⟩ (.int .i64 y)) := by
  obtain ⟨i, rfl⟩ := hx
  obtain ⟨j, rfl⟩ := hy
  have h1 := blk_put h 0 (.int .i64 x) rfl
  have h2 := blk_put h1 1 (.int .i64 y) rfl
  refine ⟨h2, fun k => ?_, ((Below.refl _ _).setCell hb _).setCell hb _⟩
  by_cases e : k = b
  · subst e
    rw [h, h2]
    exact .inr (.inl ⟨_, _, _, _, _, _, _, rfl, rfl⟩)
  · rw [Below.heap_setCell _ _ _ k e, Below.heap_setCell _ _ _ k e]
    exact .refl _
theorem split_moved {w : World} {b base : Nat} {r1 r2 r3 r4 x0 y0 : Value} (x y : Int) (hb : base ≤ b) (h : w.heap[b]? = some (.cells #[x0, y0, r1, r2, r3, r4] 120 (0, 0))) (hx : ∃ i, x0 = .int .i64 i) (hy : ∃ i, y0 = .int .i64 i) :
    ((w.setCell ⟨b, 0, none⟩ (.int .i64 x)).setCell ⟨b, 1, none⟩ (.int .i64 y)).heap[b]? = some (.cells #[.int .i64 x, .int .i64 y, r1, r2, r3, r4] 120 (0, 0)) ∧
    (∀ k : Nat, Alike w.heap[k]? ((w.setCell ⟨b, 0, none⟩ (.int .i64 x)).setCell ⟨b, 1, none⟩ (.int .i64 y)).heap[k]?) ∧ Below base w ((w.setCell ⟨b, 0, none⟩ (.int .i64 x)).setCell ⟨b, 1, none⟩ (.int .i64 y)) := by
  obtain ⟨i, rfl⟩ := hx
  obtain ⟨j, rfl⟩ := hy
  have h1 := blk_put h 0 (.int .i64 x) rfl
  have h2 := blk_put h1 1 (.int .i64 y) rfl
  refine ⟨h2, fun k => ?_, ((Below.refl _ _).setCell hb _).setCell hb _⟩
  by_cases e : k = b
  · subst e
    rw [h, h2]
    exact .inr (.inr ⟨_, _, _, _, _, _, _, _, rfl, rfl⟩)
  · rw [Below.heap_setCell _ _ _ k e, Below.heap_setCell _ _ _ k e]
    exact .refl _
theorem cell_new (w1 : World) (o : Obj) : (w1.alloc o).drew.heap[w1.heap.size]? = some o ∧ (∀ k : Nat, k < w1.heap.size → (w1.alloc o).drew.heap[k]? = w1.heap[k]?) ∧ (w1.alloc o).drew.heap.size = w1.heap.size + 1 ∧ (∀ B, B ≤ w1.heap.size → Below B w1 (w1.alloc o).drew) := by
  have e : (w1.alloc o).drew.heap = w1.heap.push o := rfl
  refine ⟨by rw [e]; simp, fun k hk => by rw [e, Array.getElem?_push_lt hk, Array.getElem?_eq_getElem hk], by rw [e]; simp, fun B hB => ?_⟩
  exact (Below.refl _ _).trans (((Below.refl B w1).alloc hB o).drew)
def LayPost (base h0 : Nat) (l' : List S45) (w : World) (e : Ending) (w' : World) : Prop :=
  e = .returned (.tuple #[]) ∧ Below base w w' ∧ (∀ k, k < h0 → Alike w.heap[k]? w'.heap[k]?) ∧ ∃ vs, w'.heap[h0]? = some (.cells #[vs] 22 (0, 0)) ∧ Kd.R k45 45 w' (h0 + 1) (fun _ => True) vs l'
theorem noSplit (b : Nat) (w : World) : (Instr.typeAssert (paneV b) 65 117 true).run Tryd.prog w = .ok (.tuple #[.pointer none, .bool false]) w := by kernel_rfl
theorem isLeaf (b : Nat) (w : World) : (Instr.typeAssert (paneV b) 65 103 false).run Tryd.prog w = .ok (.pointer (some ⟨b, 0, none⟩)) w := by kernel_rfl
theorem isSplit (b : Nat) (w : World) : (Instr.typeAssert (splitV b) 65 117 true).run Tryd.prog w = .ok (.tuple #[.pointer (some ⟨b, 0, none⟩), .bool true]) w := by kernel_rfl
set_option maxHeartbeats 8000000 in
set_option maxRecDepth 100000 in
theorem lay_pane (base h0 b : Nat) (W H id d x y : Int) (l : List S45) (vs : Value) (w : World) (hbase : base ≤ h0) (hbb : base ≤ b) (hbh : b < h0)
    (hp : paneAt w b ⟨1, W, H, id, []⟩) (ho : w.heap[h0]? = some (.cells #[vs] 22 (0, 0))) (hR : Kd.R k45 45 w (h0 + 1) (fun _ => True) vs l) (hl : l.length < 1000000) :
    Calls Tryd.prog 69 #[paneV b, .int .i64 d, .int .i64 x, .int .i64 y, .pointer (some ⟨h0, 0, none⟩)] w fun e w' => LayPost base h0 (l ++ [⟨d, 1, x, y, W, H, id⟩]) w e w' := by
  obtain ⟨x0, y0, hp⟩ := hp
  obtain ⟨M1, M2, M3⟩ := pane_moved x y hbb hp ⟨_, rfl⟩ ⟨_, rfl⟩
  have hx0 : w.cell? ⟨b, 0, none⟩ = some (.int .i64 x0) := (blk_cell hp 0).trans rfl
  have hy0 : w.cell? ⟨b, 1, none⟩ = some (.int .i64 y0) := (blk_cell hp 1).trans rfl
  have hfx : w.frozen? ⟨b, 0, none⟩ = false := blk_frozen hp 0
  have hfy : w.frozen? ⟨b, 1, none⟩ = false := blk_frozen hp 1
  have hme := whereP b
  have hns := noSplit b
  have hil := isLeaf b
  have HP := Lib.hid M1
  have HA := Lib.hid M2
  have HB := Lib.hid M3
  have HO := Lib.hid (((Below.heap_setCell _ ⟨b, 1, none⟩ (.int .i64 y) h0 (by show h0 ≠ b; omega)).trans (Below.heap_setCell w ⟨b, 0, none⟩ (.int .i64 x) h0 (by show h0 ≠ b; omega))).trans ho)
  have HR := Lib.hid (Kd.R_far (p := ⟨b, 1, none⟩) (Kd.R_far (p := ⟨b, 0, none⟩) (Kd.R_mono (Kd.R_bound hR) (fun k hk => (show True ∧ k ≠ b from ⟨trivial, by have := hk.2.1; omega⟩))) (fun k hk => hk.2) (.int .i64 x)) (fun k hk => hk.2) (.int .i64 y))
  clear M1 M2 M3 ho hR hp
  go_enter Tryd.func69, Tryd.ntmps69
  go_wp2
  generalize (w.setCell ⟨b, 0, none⟩ (.int .i64 x)).setCell ⟨b, 1, none⟩ (.int .i64 y) = w1 at HP HA HB HO HR ⊢
  have hb2 : w1.cell? ⟨b, 2, none⟩ = some (.int .i64 W) := (blk_cell HP.out 2).trans rfl
  have hb3 : w1.cell? ⟨b, 3, none⟩ = some (.int .i64 H) := (blk_cell HP.out 3).trans rfl
  clear hx0 hy0 hfx hfy
  have ha2 : ∀ o : Obj, (w1.alloc o).cell? ⟨b, 2, none⟩ = some (.int .i64 W) := fun o => (World.cell?_alloc_lt _ _ _ (blk_lt HP.out)).trans hb2
  have ha3 : ∀ o : Obj, (w1.alloc o).cell? ⟨b, 3, none⟩ = some (.int .i64 H) := fun o => (World.cell?_alloc_lt _ _ _ (blk_lt HP.out)).trans hb3
  go_region
  obtain ⟨N1, N2, N3, N4⟩ := cell_new w1 (.cells #[.int .i64 d, .int .i64 1, .int .i64 x, .int .i64 y, .int .i64 W, .int .i64 H, .int .i64 0] 45 (0, 0))
  generalize (w1.alloc (.cells #[.int .i64 d, .int .i64 1, .int .i64 x, .int .i64 y, .int .i64 W, .int .i64 H, .int .i64 0] 45 (0, 0))).drew = w2 at N1 N2 N3 N4 ⊢
  have hb0 := blk_lt HO.out
  have hbw : b < w1.heap.size := blk_lt HP.out
  have HP2 := Lib.hid ((N2 b hbw).trans HP.out)
  have HO2 := Lib.hid ((N2 h0 hb0).trans HO.out)
  have HR2 := Lib.hid (Kd.R_move (Kd.R_bound HR.out) (fun k hk => N2 k hk.2.2.1))
  have hcb : h0 + 1 ≤ w1.heap.size := hb0
  have hfb : w2.frozen? ⟨w1.heap.size, 6, none⟩ = false := blk_frozen N1 6
  have hcb6 : w2.cell? ⟨w1.heap.size, 6, none⟩ = some (.int .i64 0) := (blk_cell N1 6).trans rfl
  have hb4 : w2.cell? ⟨b, 4, none⟩ = some (.int .i64 id) := (blk_cell HP2.out 4).trans rfl
  have C3 := Lib.hid (blk_put N1 6 (.int .i64 id) rfl)
  have O3 := Lib.hid ((Below.heap_setCell w2 ⟨w1.heap.size, 6, none⟩ (.int .i64 id) h0 (by show h0 ≠ w1.heap.size; omega)).trans HO2.out)
  have R3 := Lib.hid (Kd.R_far (p := ⟨w1.heap.size, 6, none⟩) (Kd.R_mono HR2.out (fun k hk => (show True ∧ k ≠ w1.heap.size from ⟨trivial, by have := hk.2.2.1; omega⟩))) (fun k hk => hk.2) (.int .i64 id))
  have B3 := Lib.hid (((HB.out).trans (N4 base (by omega))).setCell (p := ⟨w1.heap.size, 6, none⟩) (by show base ≤ w1.heap.size; omega) (.int .i64 id))
  have A3 := Lib.hid (fun (k : Nat) (hk : k < h0) => (HA.out k).trans (show Alike w1.heap[k]? (w2.setCell ⟨w1.heap.size, 6, none⟩ (.int .i64 id)).heap[k]? by rw [Below.heap_setCell _ _ _ k (by show k ≠ w1.heap.size; omega), N2 k (by omega)]; exact .refl _))
  clear N1 N2 N3 N4 hb2 hb3 ha2 ha3 HP HA HB HO HR
  go_wp2
  generalize w2.setCell ⟨w1.heap.size, 6, none⟩ (.int .i64 id) = w3 at C3 O3 R3 B3 A3 ⊢
  have hO0 : w3.cell? ⟨h0, 0, none⟩ = some vs := (blk_cell O3.out 0).trans rfl
  have hc0 : w3.cell? ⟨w1.heap.size, 0, none⟩ = some (.int .i64 d) := (blk_cell C3.out 0).trans rfl
  have hc1 : w3.cell? ⟨w1.heap.size, 1, none⟩ = some (.int .i64 1) := (blk_cell C3.out 1).trans rfl
  have hc2 : w3.cell? ⟨w1.heap.size, 2, none⟩ = some (.int .i64 x) := (blk_cell C3.out 2).trans rfl
  have hc3 : w3.cell? ⟨w1.heap.size, 3, none⟩ = some (.int .i64 y) := (blk_cell C3.out 3).trans rfl
  have hc4 : w3.cell? ⟨w1.heap.size, 4, none⟩ = some (.int .i64 W) := (blk_cell C3.out 4).trans rfl
  have hc5 : w3.cell? ⟨w1.heap.size, 5, none⟩ = some (.int .i64 H) := (blk_cell C3.out 5).trans rfl
  have hc6 : w3.cell? ⟨w1.heap.size, 6, none⟩ = some (.int .i64 id) := (blk_cell C3.out 6).trans rfl
  clear hfb hcb6 hb4
  have L3 := Lib.hid (blk_lt C3.out)
  have hOa : ∀ o : Obj, (w3.alloc o).cell? ⟨h0, 0, none⟩ = some vs := fun o => (World.cell?_alloc_lt _ _ _ (blk_lt O3.out)).trans hO0
  go_region_law (refine Kd.R_append_step k45 (w0 := w3.drew) (W := w3.drew) (h0 + 1) (by kernel_rfl) (.tmp 54) (.tmp 56) 22 45 _ 56 rfl Tryd.underlying22 info45 rfl (by decide) (by decide) vs l ⟨d, 1, x, y, W, H, id⟩ _ (fun _ => True) (fun _ => False) rfl rfl (k45_mkM _ _ _ _) (fun _ h => h.elim) (fun _ _ => trivial) (Kd.R_mono (Kd.R_move (w1 := w3.drew) R3.out (fun _ _ => rfl)) (fun _ _ => trivial)) (Below.refl _ _) (by have := L3.out; show h0 + 1 ≤ w3.heap.size; omega) (by omega) ?_; intro v1 w5 r5 hb5 hg5 hat5; obtain ⟨Av, cv, rfl⟩ := Kd.R_slice r5; have O5 := Lib.hid ((hg5.block h0 (blk_lt O3.out) (fun e => by obtain ⟨inner, hown⟩ := Kd.R_own R3.out; exact absurd (own_base hown h0 e.symm) (by omega))).trans O3.out); have hO5 : w5.cell? ⟨h0, 0, none⟩ = some vs := (blk_cell O5.out 0).trans rfl; have hf5 : w5.frozen? ⟨h0, 0, none⟩ = false := blk_frozen O5.out 0; have R5 := Lib.hid r5; have B5 := Lib.hid hb5; clear r5 hb5 hg5 hat5)
  all_goals
    go_wp2
    refine bodyPost_ret (results_none rfl _ _ _) rfl ?_
    refine ⟨rfl, ?_, ?_, _, blk_put O5.out 0 _ rfl, ?_⟩
    · exact ((B3.out.drew).trans (B5.out.mono (by omega))).setCell (p := ⟨h0, 0, none⟩) hbase _
    · intro k hk
      rw [Below.heap_setCell _ _ _ k (by show k ≠ h0; omega), B5.out.block k (by omega)]
      exact A3.out k hk
    · have h5 := R5.out
      rw [List.length_append, List.length_singleton] at h5
      exact Kd.R_mono (Kd.R_far (p := ⟨h0, 0, none⟩) (Kd.R_mono (Kd.R_bound h5) (fun k hk => (show True ∧ k ≠ h0 from ⟨trivial, by have := hk.2.1; omega⟩))) (fun k hk => hk.2) _) (fun _ _ => trivial)
theorem split_again {w w1 : World} {base b : Nat} {ok : Nat → Prop} {t : Tr} {v : Value} (hM : kT.M w base ok t [splitV b]) (hp : splitAt w b t v) (hb : ok b) (ha : ∀ k, ok k → Alike w.heap[k]? w1.heap[k]?) :
    splitAt w1 b t v ∧ kT.R 65 w1 base (fun k => ok k ∧ k ≠ b) v t.kids := by
  obtain ⟨x, y, h1⟩ := splitAt_alike (ha b hb) hp
  rcases kT_open (kT_alike hM ha) with ⟨_, _, b', e, _⟩ | ⟨_, _, b', v', e, _, _, ⟨x', y', h2⟩, hr⟩
  · injection e with e
    injection e with e
    cases e
  · injection e with e
    injection e with _ e
    injection e with e
    injection e with e
    injection e with e
    subst e
    rw [h1] at h2
    injection h2 with h2
    injection h2 with h2 _ _
    simp only [Array.mk.injEq, List.cons.injEq] at h2
    obtain ⟨_, _, _, _, _, e, _⟩ := h2
    subst e
    exact ⟨⟨x, y, h1⟩, hr⟩
theorem kid_at {w : World} {base : Nat} {ok : Nat → Prop} {A : Option Addr} {n c : Nat} {kids : List Tr} (h : kT.R 65 w base ok (.slice A n c) kids) (i : Nat) (hi : i < kids.length) :
    ∃ (g : Nat) (tp : TypeId) (bk : Nat), A = some ⟨g, 0, none⟩ ∧ w.cell? ⟨g, i, none⟩ = some (.iface tp (.pointer (some ⟨bk, 0, none⟩))) ∧ kT.M w base ok (kids[i]) [.iface tp (.pointer (some ⟨bk, 0, none⟩))] := by
  obtain ⟨g, cap, e, _⟩ := Kd.R_form h (by omega)
  injection e with e1 e2 e3
  subst e1 e2 e3
  obtain ⟨cs, hl, hM, hc⟩ := Kd.R_get h kids[i] (i : Int) (by omega) (by omega)
  have hM' : kT.M w base ok kids[i] cs := by
    have h1 := kT.M_mono (ok' := ok) (fun k hk => hk.1) hM
    simpa [List.getD_eq_getElem?_getD, List.getElem?_eq_getElem hi] using h1
  have hl' : cs.length = 1 := hl
  obtain ⟨u, rfl⟩ := List.length_eq_one_iff.1 hl'
  obtain ⟨tp, bk, rfl, _⟩ := tree_value hM'
  refine ⟨g, tp, bk, rfl, ?_, hM'⟩
  have h1 := hc 0 _ rfl
  have e : (⟨g, 0, none⟩ : Addr).add ((i : Int).toNat * kT.sz + 0) = ⟨g, i, none⟩ := by
    rw [add_at]
    have e1 : kT.sz = 1 := rfl
    rw [e1]
    simp
  rwa [e] at h1
set_option maxHeartbeats 16000000 in
set_option maxRecDepth 100000 in
theorem lay_calls (base h0 : Nat) (hbase : base ≤ h0) : ∀ (t : Tr) (d x y : Int) (l : List S45) (vs v : Value) (w : World), kT.M w base (fun k => k < h0) t [v] → w.heap[h0]? = some (.cells #[vs] 22 (0, 0)) →
    Kd.R k45 45 w (h0 + 1) (fun _ => True) vs l → l.length + cntT t ≤ 1000000 →
    Calls Tryd.prog 69 #[v, .int .i64 d, .int .i64 x, .int .i64 y, .pointer (some ⟨h0, 0, none⟩)] w fun e w' => LayPost base h0 (l ++ layT t d x y) w e w' := by
  refine Tr.ind ?_
  intro kind W H id kids ih d x y l vs v w hM ho hR hl
  rcases kT_open hM with ⟨k1, k2, b, e, hbh, hbb, hp⟩ | ⟨k1, k2, b, v', e, hbh, hbb, ⟨x0, y0, hp⟩, hr⟩
  · injection e with e
    subst e
    obtain rfl : kind = 1 := k1
    obtain rfl : kids = [] := k2
    rw [layT, if_pos rfl]
    exact lay_pane base h0 b W H id d x y l vs w hbase hbb hbh hp ho hR (by rw [cntT] at hl; omega)
  · injection e with e
    subst e
    have k1 : kind ≠ 1 := k1
    clear k2
    obtain ⟨A, c, rfl⟩ := Kd.R_slice hr
    have hn : (⟨kind, W, H, id, kids⟩ : Tr).kids.length = kids.length := rfl
    rw [hn] at hp hr
    have hTM := Lib.hid hM
    have hTP := Lib.hid (show splitAt w b ⟨kind, W, H, id, kids⟩ (.slice A kids.length c) from ⟨x0, y0, hp⟩)
    have IH := Lib.hid ih
    have HL := Lib.hid hl
    obtain ⟨M1, M2, M3⟩ := split_moved x y hbb hp ⟨_, rfl⟩ ⟨_, rfl⟩
    have hx0 : w.cell? ⟨b, 0, none⟩ = some (.int .i64 x0) := (blk_cell hp 0).trans rfl
    have hy0 : w.cell? ⟨b, 1, none⟩ = some (.int .i64 y0) := (blk_cell hp 1).trans rfl
    have hfx : w.frozen? ⟨b, 0, none⟩ = false := blk_frozen hp 0
    have hfy : w.frozen? ⟨b, 1, none⟩ = false := blk_frozen hp 1
    have hme := whereS b
    have his := isSplit b
    have HP := Lib.hid M1
    have HA := Lib.hid M2
    have HB := Lib.hid M3
    have HO := Lib.hid (((Below.heap_setCell _ ⟨b, 1, none⟩ (.int .i64 y) h0 (by show h0 ≠ b; omega)).trans (Below.heap_setCell w ⟨b, 0, none⟩ (.int .i64 x) h0 (by show h0 ≠ b; omega))).trans ho)
    have HR := Lib.hid (Kd.R_far (p := ⟨b, 1, none⟩) (Kd.R_far (p := ⟨b, 0, none⟩) (Kd.R_mono (Kd.R_bound hR) (fun k hk => (show True ∧ k ≠ b from ⟨trivial, by have := hk.2.1; omega⟩))) (fun k hk => hk.2) (.int .i64 x)) (fun k hk => hk.2) (.int .i64 y))
    clear M1 M2 M3 ho hR hp hM hr ih hl
    go_enter Tryd.func69, Tryd.ntmps69
    go_wp2
    generalize (w.setCell ⟨b, 0, none⟩ (.int .i64 x)).setCell ⟨b, 1, none⟩ (.int .i64 y) = w1 at HP HA HB HO HR ⊢
    have hb2 : w1.cell? ⟨b, 2, none⟩ = some (.int .i64 W) := (blk_cell HP.out 2).trans rfl
    have hb3 : w1.cell? ⟨b, 3, none⟩ = some (.int .i64 H) := (blk_cell HP.out 3).trans rfl
    clear hx0 hy0 hfx hfy
    have ha2 : ∀ o : Obj, (w1.alloc o).cell? ⟨b, 2, none⟩ = some (.int .i64 W) := fun o => (World.cell?_alloc_lt _ _ _ (blk_lt HP.out)).trans hb2
    have ha3 : ∀ o : Obj, (w1.alloc o).cell? ⟨b, 3, none⟩ = some (.int .i64 H) := fun o => (World.cell?_alloc_lt _ _ _ (blk_lt HP.out)).trans hb3
    go_region
    obtain ⟨N1, N2, N3, N4⟩ := cell_new w1 (.cells #[.int .i64 d, .int .i64 1, .int .i64 x, .int .i64 y, .int .i64 W, .int .i64 H, .int .i64 0] 45 (0, 0))
    generalize (w1.alloc (.cells #[.int .i64 d, .int .i64 1, .int .i64 x, .int .i64 y, .int .i64 W, .int .i64 H, .int .i64 0] 45 (0, 0))).drew = w2 at N1 N2 N3 N4 ⊢
    have hb0 := blk_lt HO.out
    have hbw : b < w1.heap.size := blk_lt HP.out
    have HP2 := Lib.hid ((N2 b hbw).trans HP.out)
    have HO2 := Lib.hid ((N2 h0 hb0).trans HO.out)
    have HR2 := Lib.hid (Kd.R_move (Kd.R_bound HR.out) (fun k hk => N2 k hk.2.2.1))
    have hcb : h0 + 1 ≤ w1.heap.size := hb0
    have hfb : w2.frozen? ⟨w1.heap.size, 1, none⟩ = false := blk_frozen N1 1
    have hcb6 : w2.cell? ⟨w1.heap.size, 1, none⟩ = some (.int .i64 1) := (blk_cell N1 1).trans rfl
    have hb4 : w2.cell? ⟨b, 4, none⟩ = some (.int .i64 kind) := (blk_cell HP2.out 4).trans rfl
    have C3 := Lib.hid (blk_put N1 1 (.int .i64 kind) rfl)
    have O3 := Lib.hid ((Below.heap_setCell w2 ⟨w1.heap.size, 1, none⟩ (.int .i64 kind) h0 (by show h0 ≠ w1.heap.size; omega)).trans HO2.out)
    have R3 := Lib.hid (Kd.R_far (p := ⟨w1.heap.size, 1, none⟩) (Kd.R_mono HR2.out (fun k hk => (show True ∧ k ≠ w1.heap.size from ⟨trivial, by have := hk.2.2.1; omega⟩))) (fun k hk => hk.2) (.int .i64 kind))
    have B3 := Lib.hid (((HB.out).trans (N4 base (by omega))).setCell (p := ⟨w1.heap.size, 1, none⟩) (by show base ≤ w1.heap.size; omega) (.int .i64 kind))
    have A3 := Lib.hid (fun (k : Nat) (hk : k < h0) => (HA.out k).trans (show Alike w1.heap[k]? (w2.setCell ⟨w1.heap.size, 1, none⟩ (.int .i64 kind)).heap[k]? by rw [Below.heap_setCell _ _ _ k (by show k ≠ w1.heap.size; omega), N2 k (by omega)]; exact .refl _))
    clear N1 N2 N3 N4 hb2 hb3 ha2 ha3 HP HA HB HO HR
    go_wp2
    generalize w2.setCell ⟨w1.heap.size, 1, none⟩ (.int .i64 kind) = w3 at C3 O3 R3 B3 A3 ⊢
    have hO0 : w3.cell? ⟨h0, 0, none⟩ = some vs := (blk_cell O3.out 0).trans rfl
    have hc0 : w3.cell? ⟨w1.heap.size, 0, none⟩ = some (.int .i64 d) := (blk_cell C3.out 0).trans rfl
    have hc1 : w3.cell? ⟨w1.heap.size, 1, none⟩ = some (.int .i64 kind) := (blk_cell C3.out 1).trans rfl
    have hc2 : w3.cell? ⟨w1.heap.size, 2, none⟩ = some (.int .i64 x) := (blk_cell C3.out 2).trans rfl
    have hc3 : w3.cell? ⟨w1.heap.size, 3, none⟩ = some (.int .i64 y) := (blk_cell C3.out 3).trans rfl
    have hc4 : w3.cell? ⟨w1.heap.size, 4, none⟩ = some (.int .i64 W) := (blk_cell C3.out 4).trans rfl
    have hc5 : w3.cell? ⟨w1.heap.size, 5, none⟩ = some (.int .i64 H) := (blk_cell C3.out 5).trans rfl
    have hc6 : w3.cell? ⟨w1.heap.size, 6, none⟩ = some (.int .i64 0) := (blk_cell C3.out 6).trans rfl
    clear hfb hcb6 hb4
    have L3 := Lib.hid (blk_lt C3.out)
    have hOa : ∀ o : Obj, (w3.alloc o).cell? ⟨h0, 0, none⟩ = some vs := fun o => (World.cell?_alloc_lt _ _ _ (blk_lt O3.out)).trans hO0
    go_cut [70] (fun sv wx => Aside0 (wx.heap[h0]? = some (.cells #[sv] 22 (0, 0))) ∧ Aside0 (Kd.R k45 45 wx (h0 + 1) (fun _ => True) sv (l ++ [⟨d, kind, x, y, W, H, 0⟩])) ∧ Aside0 (Below base w wx) ∧ Aside0 (∀ k, k < h0 → Alike w.heap[k]? wx.heap[k]?))
    case first =>
      go_region_law (refine Kd.R_append_step k45 (w0 := w3.drew) (W := w3.drew) (h0 + 1) (by kernel_rfl) (.tmp 67) (.tmp 69) 22 45 _ 56 rfl Tryd.underlying22 info45 rfl (by decide) (by decide) vs l ⟨d, kind, x, y, W, H, 0⟩ _ (fun _ => True) (fun _ => False) rfl rfl (k45_mkM _ _ _ _) (fun _ h => h.elim) (fun _ _ => trivial) (Kd.R_mono (Kd.R_move (w1 := w3.drew) R3.out (fun _ _ => rfl)) (fun _ _ => trivial)) (Below.refl _ _) (by have := L3.out; show h0 + 1 ≤ w3.heap.size; omega) (by have := HL.out; omega) ?_; intro v1 w5 r5 hb5 hg5 hat5; obtain ⟨Av, cv, rfl⟩ := Kd.R_slice r5; have O5 := Lib.hid ((hg5.block h0 (blk_lt O3.out) (fun e => by obtain ⟨inner, hown⟩ := Kd.R_own R3.out; exact absurd (own_base hown h0 e.symm) (by omega))).trans O3.out); have hO5 : w5.cell? ⟨h0, 0, none⟩ = some vs := (blk_cell O5.out 0).trans rfl; have hf5 : w5.frozen? ⟨h0, 0, none⟩ = false := blk_frozen O5.out 0; have R5 := Lib.hid r5; have B5 := Lib.hid hb5; clear r5 hb5 hg5 hat5)
      all_goals
        go_wp2_with fail
        go_meet
        refine ⟨⟨blk_put O5.out 0 _ rfl⟩, ⟨?_⟩, ⟨?_⟩, ⟨?_⟩⟩
        · have h5 := R5.out
          rw [List.length_append, List.length_singleton] at h5
          exact Kd.R_mono (Kd.R_far (p := ⟨h0, 0, none⟩) (Kd.R_mono (Kd.R_bound h5) (fun k hk => (show True ∧ k ≠ h0 from ⟨trivial, by have := hk.2.1; omega⟩))) (fun k hk => hk.2) _) (fun _ _ => trivial)
        · exact ((B3.out.drew).trans (B5.out.mono (by omega))).setCell (p := ⟨h0, 0, none⟩) hbase _
        · intro k hk
          rw [Below.heap_setCell _ _ _ k (by show k ≠ h0; omega), B5.out.block k (by omega)]
          exact A3.out k hk
    case rest =>
      obtain ⟨O5, R5, B5, A5⟩ := hcut
      clear hO0 hc0 hc1 hc2 hc3 hc4 hc5 hc6 L3 hOa C3 O3 R3 B3 A3 HP2 HO2 HR2 hcb hbw hb0
      obtain ⟨⟨x5, y5, S5⟩, _⟩ := split_again hTM.out hTP.out hbh (fun k hk => A5.out k hk)
      have hk5 : wc.cell? ⟨b, 5, none⟩ = some (.slice A kids.length c) := (blk_cell S5 5).trans rfl
      go_wp2
      go_loopg [2, 3, 77] kids.length (fun kq xv yv iv wr => ∃ (i : Nat) (xi yi : Int) (L : List S45) (us : Value), xv = .int .i64 xi ∧ yv = .int .i64 yi ∧ iv = .int .i64 (i : Int) ∧ Aside0 (i + kq = kids.length) ∧
        Aside0 (L ++ layL kind (kids.drop i) (wrap64 (d + 1)) xi yi = l ++ layT ⟨kind, W, H, id, kids⟩ d x y) ∧ Aside0 (L.length + cntL (kids.drop i) ≤ 1000000) ∧
        Aside0 (wr.heap[h0]? = some (.cells #[us] 22 (0, 0))) ∧ Aside0 (Kd.R k45 45 wr (h0 + 1) (fun _ => True) us L) ∧ Aside0 (Below base w wr) ∧ Aside0 (∀ k, k < h0 → Alike w.heap[k]? wr.heap[k]?))
      case atStart =>
        refine ⟨0, x, y, l ++ [⟨d, kind, x, y, W, H, 0⟩], _, rfl, rfl, rfl, ⟨by simp⟩, ⟨?_⟩, ⟨?_⟩, O5, R5, B5, A5⟩
        · rw [layT, if_neg k1]
          simp
        · have := HL.out
          rw [cntT] at this
          simp
          omega
      case round =>
        obtain ⟨i, xi, yi, L, us, rfl, rfl, rfl, RI, RL, RN, RO, RR, RB, RA⟩ := hrel
        cases gk with
        | zero =>
          have hi : i = kids.length := RI.out
          subst hi
          have hlt : ¬ (kids.length : Int) < (kids.length : Int) := by omega
          go_wp2
          refine bodyPost_ret (results_none rfl _ _ _) rfl ?_
          have h := RL.out
          rw [List.drop_length, layL, List.append_nil] at h
          rw [← h]
          exact ⟨rfl, RB.out, RA.out, us, RO.out, RR.out⟩
        | succ gk =>
          have hi : i < kids.length := by have := RI.out; omega
          have hlt : (i : Int) < (kids.length : Int) := by omega
          have hw1 := Lib.hid (show wrap64 ((i : Int) + 1) = ((i + 1 : Nat) : Int) by
            have := HL.out
            have := len_cntL kids
            rw [cntT] at *
            exact (IntWalk.wrap64_in _ (by omega)).trans (by omega))
          obtain ⟨S6, r6⟩ := split_again hTM.out hTP.out hbh (fun k hk => RA.out k hk)
          obtain ⟨g, tp, bk, rfl, hcell, hkM⟩ := kid_at r6 i hi
          have hdr : kids.drop i = kids[i] :: kids.drop (i + 1) := List.drop_eq_getElem_cons hi
          have KM := Lib.hid (kT.M_mono (ok' := fun k => k < h0) (fun k hk => hk.1) hkM)
          have hn0 : L.length + cntT kids[i] ≤ 1000000 := by have := RN.out; rw [hdr, cntL] at this; omega
          have HI := Lib.hid (IH.out kids[i] (List.getElem_mem hi) (wrap64 (d + 1)) xi yi L us _ wr KM.out RO.out RR.out hn0)
          have hdr := Lib.hid hdr
          clear S6 r6 hkM hn0
          go_wp2_with (go_at_call 69; refine (HI.out).mono ?_)
          rintro e w6 ⟨rfl, B6, A6, vs6, O6, R6⟩
          have A7 : ∀ k, k < h0 → Alike w.heap[k]? w6.heap[k]? := fun k hk => (RA.out k hk).trans (A6 k hk)
          obtain ⟨⟨x7, y7, S7⟩, _⟩ := split_again hTM.out hTP.out hbh A7
          obtain ⟨_, _, hw2, hh3, hmk⟩ := tree_cells (kT_alike KM.out A6)
          have hb4 : w6.cell? ⟨b, 4, none⟩ = some (.int .i64 kind) := (blk_cell S7 4).trans rfl
          have F6 := Lib.hid (And.intro B6 (And.intro A7 (And.intro O6 R6)))
          clear A6 B6 A7 O6 R6 S7
          have REL : ∀ xn yn : Int, xn = (if kind = 2 then wrap64 (xi + wrap64 (kids[i].w + 1)) else xi) → yn = (if kind = 2 then yi else wrap64 (yi + wrap64 (kids[i].h + 1))) →
              (L ++ layT kids[i] (wrap64 (d + 1)) xi yi) ++ layL kind (kids.drop (i + 1)) (wrap64 (d + 1)) xn yn = l ++ layT ⟨kind, W, H, id, kids⟩ d x y := by
            rintro xn yn rfl rfl
            have h := RL.out
            rw [hdr.out, layL] at h
            rw [List.append_assoc]
            exact h
          have REL := Lib.hid REL
          by_cases hk2 : kind = 2
          · have hk2' : (kind == 2) = true := beq_iff_eq.mpr hk2
            go_wp2
            go_roundg gk
            case measure => omega
            case rel =>
              refine ⟨i + 1, _, _, _, vs6, rfl, rfl, congrArg (Value.int .i64) hw1.out, ⟨by have := RI.out; omega⟩, ⟨REL.out _ _ (by rw [if_pos hk2]) (by rw [if_pos hk2])⟩, ⟨?_⟩, ⟨F6.out.2.2.1⟩, ⟨F6.out.2.2.2⟩, ⟨RB.out.trans F6.out.1⟩, ⟨F6.out.2.1⟩⟩
              have h1 := RN.out
              have h2 := layT_len kids[i] (wrap64 (d + 1)) xi yi
              rw [hdr.out, cntL] at h1
              rw [List.length_append]
              omega
          · have hk2' : (kind == 2) = false := beq_eq_false_iff_ne.mpr hk2
            go_wp2
            go_roundg gk
            case measure => omega
            case rel =>
              refine ⟨i + 1, _, _, _, vs6, rfl, rfl, congrArg (Value.int .i64) hw1.out, ⟨by have := RI.out; omega⟩, ⟨REL.out _ _ (by rw [if_neg hk2]) (by rw [if_neg hk2])⟩, ⟨?_⟩, ⟨F6.out.2.2.1⟩, ⟨F6.out.2.2.2⟩, ⟨RB.out.trans F6.out.1⟩, ⟨F6.out.2.1⟩⟩
              have h1 := RN.out
              have h2 := layT_len kids[i] (wrap64 (d + 1)) xi yi
              rw [hdr.out, cntL] at h1
              rw [List.length_append]
              omega
end Go.Proofs.YtmpnkckaohfflaaDoor.PGiv
end
section
namespace Go.Proofs.YtmpnkckaohfflaaDoor.E
open Go.Proofs.YtmpnkckaohfflaaDoor.K Go.RowKit Go.Proofs.YtmpnkckaohfflaaDoorW.PrintWords Go.Proofs.YtmpnkckaohfflaaDoorW.PrintLast Go.Proofs.YtmpnkckaohfflaaDoorW.PrintMore
attribute [local go_sem] max2_int min2_int max_two min_two max_three min_three max_four min_four
set_option linter.unusedVariables false
set_option linter.unusedSimpArgs false
attribute [local go_sem high] eqA45
def api_Cell.l0 : Nat → List (S45) → List (S45) → Int → Int → Option (Bool)
  | 0, _, _, _, _ => none
  | k + 1, x0, x1, x12, x13 => if x13 < x12 then (if 0 ≤ x13 then (if x13 < (x0.length : Int) then (if x13 < (x1.length : Int) then (if (!(((rd_T45 x0 x13).f0) == ((rd_T45 x1 x13).f0)) || (!(((rd_T45 x0 x13).f1) == ((rd_T45 x1 x13).f1)) || (!(((rd_T45 x0 x13).f2) == ((rd_T45 x1 x13).f2)) || (!(((rd_T45 x0 x13).f3) == ((rd_T45 x1 x13).f3)) || (!(((rd_T45 x0 x13).f4) == ((rd_T45 x1 x13).f4)) || (!(((rd_T45 x0 x13).f5) == ((rd_T45 x1 x13).f5)) || (!(((rd_T45 x0 x13).f6) == ((rd_T45 x1 x13).f6))))))))) = true then (some false) else (api_Cell.l0 k x0 x1 x12 (wrap64 (x13 + 1)))) else (none)) else (none)) else (none)) else (some true)
def api_Cell.f (k : Nat) (l0 : List (S45)) (l1 : List (S45)) : Option (Bool) := if (l0.length : Int) = (l1.length : Int) then (api_Cell.l0 k l0 l1 (l0.length : Int) 0) else (some false)
theorem api_Cell.mono_l : ∀ k, (∀ y0 y1 y2 y3, LeO (api_Cell.l0 k y0 y1 y2 y3) (api_Cell.l0 (k + 1) y0 y1 y2 y3))
  | 0 => fun _ _ _ _ r h => by simp [api_Cell.l0] at h
  | k + 1 => by
    have ih0 := api_Cell.mono_l k
    · intro y0 y1 y2 y3
      unfold api_Cell.l0
      repeat' first
      | (with_reducible exact ih0 _ _ _ _)
      | (with_reducible exact LeO.refl _)
      | (with_reducible exact LeO.none _)
      | (with_reducible refine LeO.ite ?_ ?_)
      | (with_reducible refine LeO.bind ?_ (fun _ => ?_))
      | exact ih0 _ _ _ _
      | exact LeO.none _
      | refine LeO.ite ?_ ?_
      | refine LeO.bind ?_ (fun _ => ?_)
theorem api_Cell.mono : ∀ a0 a1 k, LeO (api_Cell.f k a0 a1) (api_Cell.f (k + 1) a0 a1) := by
  intro a0 a1 k
  have ih0 := api_Cell.mono_l k
  unfold api_Cell.f
  repeat' first
      | (with_reducible exact ih0 _ _ _ _)
      | (with_reducible exact LeO.refl _)
      | (with_reducible exact LeO.none _)
      | (with_reducible refine LeO.ite ?_ ?_)
      | (with_reducible refine LeO.bind ?_ (fun _ => ?_))
      | exact ih0 _ _ _ _
      | exact LeO.none _
      | refine LeO.ite ?_ ?_
      | refine LeO.bind ?_ (fun _ => ?_)
set_option maxHeartbeats 8000000 in
set_option maxRecDepth 100000 in
theorem api_Cell.calls (k : Nat) (A0 : Option Addr) (c0 : Nat) (l0 : List (S45)) (A1 : Option Addr) (c1 : Nat) (l1 : List (S45)) (r : Bool) (w : World) (hr0 : Kd.C k45 w A0 l0.length l0) (hc0 : l0.length ≤ c0) (hr1 : Kd.C k45 w A1 l1.length l1) (hc1 : l1.length ≤ c1) (h : api_Cell.f k l0 l1 = some r) :
    Calls Tryd.prog 53 #[.slice A0 l0.length c0, .slice A1 l1.length c1] w fun e w' => e = .returned (.bool r) ∧ Drawn0 w w' := by
  have hu45 := Tryd.underlying45
  have HR0 := Aside0.mk hr0
  have HC0 := Aside0.mk hc0
  clear hr0 hc0
  have HR1 := Aside0.mk hr1
  have HC1 := Aside0.mk hc1
  clear hr1 hc1
  have H : (if (l0.length : Int) = (l1.length : Int) then (api_Cell.l0 k l0 l1 (l0.length : Int) 0) else (some false)) = some r := h
  clear h
  by_cases c3 : (l0.length : Int) = (l1.length : Int)
  · rw [if_pos c3] at H
    have c3b0 : ((l0.length : Int) == (l1.length : Int)) = true := beq_iff_eq.mpr c3
    have c3b1 : ((l0.length : Int) != (l1.length : Int)) = false := bne_eq_false_iff_eq.mpr c3
    have c3b2 : (l0.length == l1.length) = true := by first | simpa using c3 | (simp at c3 ⊢; omega)
    clear c3
    have H' := Aside0.mk H
    clear H
    go_enter Tryd.func53, Tryd.ntmps53
    go_wp2
    repeat (go_quiet (fail); try go_wp2)
    go_loopg [13] k (fun kq v13 w' => ∃ (x13_1 : Int), v13 = .int .i64 x13_1 ∧ Aside0 (api_Cell.l0 kq l0 l1 (l0.length : Int) x13_1 = some r) ∧ Aside0 (kq ≤ k) ∧ Drawn0 w w')
    case atStart => exact ⟨(0), (by first | rfl | (simp; done) | (simp [*]; done)), H', ⟨Nat.le_refl _⟩, by repeat (first | exact Drawn0.refl _ | apply Drawn0.step)⟩
    case round =>
      clear H'
      try clear c1
      try clear p2
      try clear c3
      try clear c3b0
      try clear c3b1
      try clear c3b2
      obtain ⟨x13_1, rfl, HA, HK1, ⟨m1, rfl⟩⟩ := hrel
      cases gk with
      | zero => exact absurd HA.out (by simp [api_Cell.l0])
      | succ k1 =>
        have H := HA.out
        clear HA
        simp only [api_Cell.l0] at H
        by_cases c4 : x13_1 < (l0.length : Int)
        · rw [if_pos c4] at H
          have c4b0 : decide (x13_1 < (l0.length : Int)) = true := decide_eq_true c4
          clear c4
          by_cases c5 : 0 ≤ x13_1
          · rw [if_pos c5] at H
            have c5b0 : decide (0 ≤ x13_1) = true := decide_eq_true c5
            clear c5
            by_cases c6 : x13_1 < (l0.length : Int)
            · rw [if_pos c6] at H
              have c6b0 : decide (x13_1 < (l0.length : Int)) = true := decide_eq_true c6
              clear c6
              by_cases c7 : x13_1 < (l1.length : Int)
              · rw [if_pos c7] at H
                have c7b0 : decide (x13_1 < (l1.length : Int)) = true := decide_eq_true c7
                clear c7
                by_cases c8 : (!(((rd_T45 l0 x13_1).f0) == ((rd_T45 l1 x13_1).f0)) || (!(((rd_T45 l0 x13_1).f1) == ((rd_T45 l1 x13_1).f1)) || (!(((rd_T45 l0 x13_1).f2) == ((rd_T45 l1 x13_1).f2)) || (!(((rd_T45 l0 x13_1).f3) == ((rd_T45 l1 x13_1).f3)) || (!(((rd_T45 l0 x13_1).f4) == ((rd_T45 l1 x13_1).f4)) || (!(((rd_T45 l0 x13_1).f5) == ((rd_T45 l1 x13_1).f5)) || (!(((rd_T45 l0 x13_1).f6) == ((rd_T45 l1 x13_1).f6))))))))) = true
                · rw [if_pos c8] at H
                  have c8b0 : (!(((rd_T45 l0 x13_1).f0) == ((rd_T45 l1 x13_1).f0)) || (!(((rd_T45 l0 x13_1).f1) == ((rd_T45 l1 x13_1).f1)) || (!(((rd_T45 l0 x13_1).f2) == ((rd_T45 l1 x13_1).f2)) || (!(((rd_T45 l0 x13_1).f3) == ((rd_T45 l1 x13_1).f3)) || (!(((rd_T45 l0 x13_1).f4) == ((rd_T45 l1 x13_1).f4)) || (!(((rd_T45 l0 x13_1).f5) == ((rd_T45 l1 x13_1).f5)) || (!(((rd_T45 l0 x13_1).f6) == ((rd_T45 l1 x13_1).f6))))))))) = true := c8
                  clear c8
                  obtain rfl := Option.some.inj H
                  have p101 : 0 ≤ (x13_1 : Int) := of_decide_eq_true (by first | (with_reducible assumption) | assumption)
                  have q101 : x13_1 < (l0.length : Int) := of_decide_eq_true (by first | (with_reducible assumption) | assumption)
                  obtain ⟨ad101, e101, hx101_0, hx101_1, hx101_2, hx101_3, hx101_4, hx101_5, hx101_6⟩ := at_T45 HR0.out x13_1 p101 q101
                  cases e101
                  replace p101 := eq_true p101
                  replace q101 := eq_true q101
                  have p102 : 0 ≤ (x13_1 : Int) := of_decide_eq_true (by first | (with_reducible assumption) | assumption)
                  have q102 : x13_1 < (l1.length : Int) := of_decide_eq_true (by first | (with_reducible assumption) | assumption)
                  obtain ⟨ad102, e102, hx102_0, hx102_1, hx102_2, hx102_3, hx102_4, hx102_5, hx102_6⟩ := at_T45 HR1.out x13_1 p102 q102
                  cases e102
                  replace p102 := eq_true p102
                  replace q102 := eq_true q102
                  go_wp2
                  repeat (go_quiet (fail); try go_wp2)
                  go_ret
                  exact ⟨by first | rfl | (simp; done) | (simp [*]; done), by repeat (first | exact Drawn0.refl _ | apply Drawn0.step)⟩
                · rw [if_neg c8] at H
                  have c8b0 : (!(((rd_T45 l0 x13_1).f0) == ((rd_T45 l1 x13_1).f0)) || (!(((rd_T45 l0 x13_1).f1) == ((rd_T45 l1 x13_1).f1)) || (!(((rd_T45 l0 x13_1).f2) == ((rd_T45 l1 x13_1).f2)) || (!(((rd_T45 l0 x13_1).f3) == ((rd_T45 l1 x13_1).f3)) || (!(((rd_T45 l0 x13_1).f4) == ((rd_T45 l1 x13_1).f4)) || (!(((rd_T45 l0 x13_1).f5) == ((rd_T45 l1 x13_1).f5)) || (!(((rd_T45 l0 x13_1).f6) == ((rd_T45 l1 x13_1).f6))))))))) = false := by simpa using c8
                  clear c8
                  have H' := Aside0.mk H
                  clear H
                  have p101 : 0 ≤ (x13_1 : Int) := of_decide_eq_true (by first | (with_reducible assumption) | assumption)
                  have q101 : x13_1 < (l0.length : Int) := of_decide_eq_true (by first | (with_reducible assumption) | assumption)
                  obtain ⟨ad101, e101, hx101_0, hx101_1, hx101_2, hx101_3, hx101_4, hx101_5, hx101_6⟩ := at_T45 HR0.out x13_1 p101 q101
                  cases e101
                  replace p101 := eq_true p101
                  replace q101 := eq_true q101
                  have p102 : 0 ≤ (x13_1 : Int) := of_decide_eq_true (by first | (with_reducible assumption) | assumption)
                  have q102 : x13_1 < (l1.length : Int) := of_decide_eq_true (by first | (with_reducible assumption) | assumption)
                  obtain ⟨ad102, e102, hx102_0, hx102_1, hx102_2, hx102_3, hx102_4, hx102_5, hx102_6⟩ := at_T45 HR1.out x13_1 p102 q102
                  cases e102
                  replace p102 := eq_true p102
                  replace q102 := eq_true q102
                  go_wp2
                  repeat (go_quiet (fail); try go_wp2)
                  go_roundg k1
                  case measure => have := HK1.out; omega
                  case rel => exact ⟨(wrap64 (x13_1 + 1)), (by first | rfl | (simp; done) | (simp [*]; done)), H', ⟨by have := HK1.out; omega⟩, by repeat (first | exact Drawn0.refl _ | apply Drawn0.step)⟩
              · rw [if_neg c7] at H
                exact absurd H (by simp)
            · rw [if_neg c6] at H
              exact absurd H (by simp)
          · rw [if_neg c5] at H
            exact absurd H (by simp)
        · rw [if_neg c4] at H
          have c4b0 : decide (x13_1 < (l0.length : Int)) = false := decide_eq_false c4
          clear c4
          obtain rfl := Option.some.inj H
          go_wp2
          repeat (go_quiet (fail); try go_wp2)
          go_ret
          exact ⟨by first | rfl | (simp; done) | (simp [*]; done), by repeat (first | exact Drawn0.refl _ | apply Drawn0.step)⟩
  · rw [if_neg c3] at H
    have c3b0 : ((l0.length : Int) == (l1.length : Int)) = false := beq_eq_false_iff_ne.mpr c3
    have c3b1 : ((l0.length : Int) != (l1.length : Int)) = true := bne_iff_ne.mpr c3
    have c3b2 : (l0.length == l1.length) = false := by first | simpa using c3 | (simp at c3 ⊢; omega)
    obtain rfl := Option.some.inj H
    go_enter Tryd.func53, Tryd.ntmps53
    go_wp2
    repeat (go_quiet (fail); try go_wp2)
    go_ret
    exact ⟨by first | rfl | (simp; done) | (simp [*]; done), by repeat (first | exact Drawn0.refl _ | apply Drawn0.step)⟩
def layout_side.f (a0 : Int) : Option (Bool) := if a0 ≥ 1 then (some (decide (a0 ≤ 1000))) else (some false)
set_option maxHeartbeats 8000000 in
set_option maxRecDepth 100000 in
theorem layout_side.calls (a0 : Int) (r : Bool) (w : World) (h : layout_side.f a0 = some r) :
    Calls Tryd.prog 49 #[.int .i64 a0] w fun e w' => e = .returned (.bool r) ∧ Drawn0 w w' := by
  have H : (if a0 ≥ 1 then (some (decide (a0 ≤ 1000))) else (some false)) = some r := h
  clear h
  by_cases c2 : a0 ≥ 1
  · rw [if_pos c2] at H
    have c2b0 : decide (1 ≤ a0) = true := decide_eq_true c2
    clear c2
    obtain rfl := Option.some.inj H
    go_enter Tryd.func49, Tryd.ntmps49
    go_wp2
    go_ret
    exact ⟨by first | rfl | (simp; done) | (simp [*]; done), by repeat (first | exact Drawn0.refl _ | apply Drawn0.step)⟩
  · rw [if_neg c2] at H
    have c2b0 : decide (1 ≤ a0) = false := decide_eq_false c2
    clear c2
    obtain rfl := Option.some.inj H
    go_enter Tryd.func49, Tryd.ntmps49
    go_wp2
    go_ret
    exact ⟨by first | rfl | (simp; done) | (simp [*]; done), by repeat (first | exact Drawn0.refl _ | apply Drawn0.step)⟩
def layout_id.f (a0 : Int) : Option (Bool) := if a0 ≥ 1 then (some (decide (a0 ≤ 4611686018427387904))) else (some false)
set_option maxHeartbeats 8000000 in
set_option maxRecDepth 100000 in
theorem layout_id.calls (a0 : Int) (r : Bool) (w : World) (h : layout_id.f a0 = some r) :
    Calls Tryd.prog 50 #[.int .i64 a0] w fun e w' => e = .returned (.bool r) ∧ Drawn0 w w' := by
  have H : (if a0 ≥ 1 then (some (decide (a0 ≤ 4611686018427387904))) else (some false)) = some r := h
  clear h
  by_cases c2 : a0 ≥ 1
  · rw [if_pos c2] at H
    have c2b0 : decide (1 ≤ a0) = true := decide_eq_true c2
    clear c2
    obtain rfl := Option.some.inj H
    go_enter Tryd.func50, Tryd.ntmps50
    go_wp2
    go_ret
    exact ⟨by first | rfl | (simp; done) | (simp [*]; done), by repeat (first | exact Drawn0.refl _ | apply Drawn0.step)⟩
  · rw [if_neg c2] at H
    have c2b0 : decide (1 ≤ a0) = false := decide_eq_false c2
    clear c2
    obtain rfl := Option.some.inj H
    go_enter Tryd.func50, Tryd.ntmps50
    go_wp2
    go_ret
    exact ⟨by first | rfl | (simp; done) | (simp [*]; done), by repeat (first | exact Drawn0.refl _ | apply Drawn0.step)⟩
def layout_kindOf.f (a0 : Int) : Option (Bool) := if a0 = 2 then (some true) else (some (a0 == 3))
set_option maxHeartbeats 8000000 in
set_option maxRecDepth 100000 in
theorem layout_kindOf.calls (a0 : Int) (r : Bool) (w : World) (h : layout_kindOf.f a0 = some r) :
    Calls Tryd.prog 51 #[.int .i64 a0] w fun e w' => e = .returned (.bool r) ∧ Drawn0 w w' := by
  have H : (if a0 = 2 then (some true) else (some (a0 == 3))) = some r := h
  clear h
  by_cases c2 : a0 = 2
  · rw [if_pos c2] at H
    have c2b0 : (a0 == 2) = true := beq_iff_eq.mpr c2
    have c2b1 : (a0 != 2) = false := bne_eq_false_iff_eq.mpr c2
    clear c2
    obtain rfl := Option.some.inj H
    go_enter Tryd.func51, Tryd.ntmps51
    go_wp2
    go_ret
    exact ⟨by first | rfl | (simp; done) | (simp [*]; done), by repeat (first | exact Drawn0.refl _ | apply Drawn0.step)⟩
  · rw [if_neg c2] at H
    have c2b0 : (a0 == 2) = false := beq_eq_false_iff_ne.mpr c2
    have c2b1 : (a0 != 2) = true := bne_iff_ne.mpr c2
    obtain rfl := Option.some.inj H
    go_enter Tryd.func51, Tryd.ntmps51
    go_wp2
    go_ret
    exact ⟨by first | rfl | (simp; done) | (simp [*]; done), by repeat (first | exact Drawn0.refl _ | apply Drawn0.step)⟩
def plan_four.f (a0 : Int) : Option (ByteArray) := if 0 ≤ (Go.bits .and .i64 (a0 / 4096) 15) then (if (Go.bits .and .i64 (a0 / 4096) 15) < 16 then (if 0 ≤ (Go.bits .and .i64 (a0 / 256) 15) then (if (Go.bits .and .i64 (a0 / 256) 15) < 16 then (if 0 ≤ (Go.bits .and .i64 (a0 / 16) 15) then (if (Go.bits .and .i64 (a0 / 16) 15) < 16 then (if 0 ≤ (Go.bits .and .i64 a0 15) then (if (Go.bits .and .i64 a0 15) < 16 then (some (strOfNums (([bt (⟨#[48, 49, 50, 51, 52, 53, 54, 55, 56, 57, 97, 98, 99, 100, 101, 102]⟩ : ByteArray) (Go.bits .and .i64 (a0 / 4096) 15), bt (⟨#[48, 49, 50, 51, 52, 53, 54, 55, 56, 57, 97, 98, 99, 100, 101, 102]⟩ : ByteArray) (Go.bits .and .i64 (a0 / 256) 15), bt (⟨#[48, 49, 50, 51, 52, 53, 54, 55, 56, 57, 97, 98, 99, 100, 101, 102]⟩ : ByteArray) (Go.bits .and .i64 (a0 / 16) 15), bt (⟨#[48, 49, 50, 51, 52, 53, 54, 55, 56, 57, 97, 98, 99, 100, 101, 102]⟩ : ByteArray) (Go.bits .and .i64 a0 15)] : List Int)))) else (none)) else (none)) else (none)) else (none)) else (none)) else (none)) else (none)) else (none)
def plan_four.T1 : Bool × List (List Nat × List Nat) := (true, [([], []), ([0], [0]), ([1], [1]), ([2], [2]), ([], []), ([4], [4]), ([5], [5]), ([6], [6]), ([], []), ([8], [8]), ([9], [9]), ([10], [10]), ([], []), ([12], [12]), ([13], [13]), ([3, 7, 11, 14], [3, 7, 11, 14]), ([15], [15]), ([16, 0, 1, 2, 3, 4, 5, 6, 7, 8, 9, 10, 11, 12, 13, 14, 15, 16], [16])])
def plan_four.B1 : List Nat := [0, 1, 3, 7, 0, 16, 48, 112, 0, 256, 768, 1792, 0, 4096, 12288, 32767, 65535, 131071]
theorem plan_four.tab1 : rtab .any (opsOf Tryd.f24 1) = plan_four.T1 := by kernel_rfl
theorem plan_four.bits1 : waitsOk plan_four.T1.2 plan_four.B1 = true := by kernel_rfl
set_option maxHeartbeats 8000000 in
set_option maxRecDepth 100000 in
theorem plan_four.calls (a0 : Int) (r : ByteArray) (w : World) (h : plan_four.f a0 = some r) :
    Calls Tryd.prog 24 #[.int .i64 a0] w fun e w' => e = .returned (.string r) ∧ Below w.heap.size w w' := by
  have HB := Aside0.mk (Below.refl w.heap.size w)
  have H : (if 0 ≤ (Go.bits .and .i64 (a0 / 4096) 15) then (if (Go.bits .and .i64 (a0 / 4096) 15) < 16 then (if 0 ≤ (Go.bits .and .i64 (a0 / 256) 15) then (if (Go.bits .and .i64 (a0 / 256) 15) < 16 then (if 0 ≤ (Go.bits .and .i64 (a0 / 16) 15) then (if (Go.bits .and .i64 (a0 / 16) 15) < 16 then (if 0 ≤ (Go.bits .and .i64 a0 15) then (if (Go.bits .and .i64 a0 15) < 16 then (some (strOfNums (([bt (⟨#[48, 49, 50, 51, 52, 53, 54, 55, 56, 57, 97, 98, 99, 100, 101, 102]⟩ : ByteArray) (Go.bits .and .i64 (a0 / 4096) 15), bt (⟨#[48, 49, 50, 51, 52, 53, 54, 55, 56, 57, 97, 98, 99, 100, 101, 102]⟩ : ByteArray) (Go.bits .and .i64 (a0 / 256) 15), bt (⟨#[48, 49, 50, 51, 52, 53, 54, 55, 56, 57, 97, 98, 99, 100, 101, 102]⟩ : ByteArray) (Go.bits .and .i64 (a0 / 16) 15), bt (⟨#[48, 49, 50, 51, 52, 53, 54, 55, 56, 57, 97, 98, 99, 100, 101, 102]⟩ : ByteArray) (Go.bits .and .i64 a0 15)] : List Int)))) else (none)) else (none)) else (none)) else (none)) else (none)) else (none)) else (none)) else (none)) = some r := h
  clear h
  obtain ⟨ji2, hji2⟩ : ∃ j_ : Int, (Go.bits .and .i64 (a0 / 4096) 15) = j_ := ⟨_, rfl⟩
  replace H : (if 0 ≤ (ji2) then (if (ji2) < 16 then (if 0 ≤ (Go.bits .and .i64 (a0 / 256) 15) then (if (Go.bits .and .i64 (a0 / 256) 15) < 16 then (if 0 ≤ (Go.bits .and .i64 (a0 / 16) 15) then (if (Go.bits .and .i64 (a0 / 16) 15) < 16 then (if 0 ≤ (Go.bits .and .i64 a0 15) then (if (Go.bits .and .i64 a0 15) < 16 then (some (strOfNums (([bt (⟨#[48, 49, 50, 51, 52, 53, 54, 55, 56, 57, 97, 98, 99, 100, 101, 102]⟩ : ByteArray) (ji2), bt (⟨#[48, 49, 50, 51, 52, 53, 54, 55, 56, 57, 97, 98, 99, 100, 101, 102]⟩ : ByteArray) (Go.bits .and .i64 (a0 / 256) 15), bt (⟨#[48, 49, 50, 51, 52, 53, 54, 55, 56, 57, 97, 98, 99, 100, 101, 102]⟩ : ByteArray) (Go.bits .and .i64 (a0 / 16) 15), bt (⟨#[48, 49, 50, 51, 52, 53, 54, 55, 56, 57, 97, 98, 99, 100, 101, 102]⟩ : ByteArray) (Go.bits .and .i64 a0 15)] : List Int)))) else (none)) else (none)) else (none)) else (none)) else (none)) else (none)) else (none)) else (none)) = some r := by first | (rw [hji2] at H; exact H) | (simp only [hji2] at H ⊢; exact H)
  by_cases c3 : 0 ≤ (ji2)
  · rw [if_pos c3] at H
    have c3b0 : decide (0 ≤ (ji2)) = true := decide_eq_true c3
    clear c3
    by_cases c4 : (ji2) < 16
    · rw [if_pos c4] at H
      have c4b0 : decide ((ji2) < 16) = true := decide_eq_true c4
      clear c4
      obtain ⟨ji6, hji6⟩ : ∃ j_ : Int, (Go.bits .and .i64 (a0 / 256) 15) = j_ := ⟨_, rfl⟩
      replace H : (if 0 ≤ (ji6) then (if (ji6) < 16 then (if 0 ≤ (Go.bits .and .i64 (a0 / 16) 15) then (if (Go.bits .and .i64 (a0 / 16) 15) < 16 then (if 0 ≤ (Go.bits .and .i64 a0 15) then (if (Go.bits .and .i64 a0 15) < 16 then (some (strOfNums (([bt (⟨#[48, 49, 50, 51, 52, 53, 54, 55, 56, 57, 97, 98, 99, 100, 101, 102]⟩ : ByteArray) (ji2), bt (⟨#[48, 49, 50, 51, 52, 53, 54, 55, 56, 57, 97, 98, 99, 100, 101, 102]⟩ : ByteArray) (ji6), bt (⟨#[48, 49, 50, 51, 52, 53, 54, 55, 56, 57, 97, 98, 99, 100, 101, 102]⟩ : ByteArray) (Go.bits .and .i64 (a0 / 16) 15), bt (⟨#[48, 49, 50, 51, 52, 53, 54, 55, 56, 57, 97, 98, 99, 100, 101, 102]⟩ : ByteArray) (Go.bits .and .i64 a0 15)] : List Int)))) else (none)) else (none)) else (none)) else (none)) else (none)) else (none)) = some r := by first | (rw [hji6] at H; exact H) | (simp only [hji6] at H ⊢; exact H)
      by_cases c7 : 0 ≤ (ji6)
      · rw [if_pos c7] at H
        have c7b0 : decide (0 ≤ (ji6)) = true := decide_eq_true c7
        clear c7
        by_cases c8 : (ji6) < 16
        · rw [if_pos c8] at H
          have c8b0 : decide ((ji6) < 16) = true := decide_eq_true c8
          clear c8
          obtain ⟨ji10, hji10⟩ : ∃ j_ : Int, (Go.bits .and .i64 (a0 / 16) 15) = j_ := ⟨_, rfl⟩
          replace H : (if 0 ≤ (ji10) then (if (ji10) < 16 then (if 0 ≤ (Go.bits .and .i64 a0 15) then (if (Go.bits .and .i64 a0 15) < 16 then (some (strOfNums (([bt (⟨#[48, 49, 50, 51, 52, 53, 54, 55, 56, 57, 97, 98, 99, 100, 101, 102]⟩ : ByteArray) (ji2), bt (⟨#[48, 49, 50, 51, 52, 53, 54, 55, 56, 57, 97, 98, 99, 100, 101, 102]⟩ : ByteArray) (ji6), bt (⟨#[48, 49, 50, 51, 52, 53, 54, 55, 56, 57, 97, 98, 99, 100, 101, 102]⟩ : ByteArray) (ji10), bt (⟨#[48, 49, 50, 51, 52, 53, 54, 55, 56, 57, 97, 98, 99, 100, 101, 102]⟩ : ByteArray) (Go.bits .and .i64 a0 15)] : List Int)))) else (none)) else (none)) else (none)) else (none)) = some r := by first | (rw [hji10] at H; exact H) | (simp only [hji10] at H ⊢; exact H)
          by_cases c11 : 0 ≤ (ji10)
          · rw [if_pos c11] at H
            have c11b0 : decide (0 ≤ (ji10)) = true := decide_eq_true c11
            clear c11
            by_cases c12 : (ji10) < 16
            · rw [if_pos c12] at H
              have c12b0 : decide ((ji10) < 16) = true := decide_eq_true c12
              clear c12
              by_cases c14 : 0 ≤ (Go.bits .and .i64 a0 15)
              · rw [if_pos c14] at H
                have c14b0 : decide (0 ≤ (Go.bits .and .i64 a0 15)) = true := decide_eq_true c14
                clear c14
                by_cases c15 : (Go.bits .and .i64 a0 15) < 16
                · rw [if_pos c15] at H
                  have c15b0 : decide ((Go.bits .and .i64 a0 15) < 16) = true := decide_eq_true c15
                  clear c15
                  obtain ⟨y103, hy103⟩ : ∃ y_ : List Int, y_ = (([bt (⟨#[48, 49, 50, 51, 52, 53, 54, 55, 56, 57, 97, 98, 99, 100, 101, 102]⟩ : ByteArray) (ji2), bt (⟨#[48, 49, 50, 51, 52, 53, 54, 55, 56, 57, 97, 98, 99, 100, 101, 102]⟩ : ByteArray) (ji6), bt (⟨#[48, 49, 50, 51, 52, 53, 54, 55, 56, 57, 97, 98, 99, 100, 101, 102]⟩ : ByteArray) (ji10), bt (⟨#[48, 49, 50, 51, 52, 53, 54, 55, 56, 57, 97, 98, 99, 100, 101, 102]⟩ : ByteArray) (Go.bits .and .i64 a0 15)] : List Int)) := ⟨_, rfl⟩
                  replace H : (some (strOfNums y103)) = some r := by first | (rw [hy103]; with_reducible exact H) | (have H2_ := (Option.bind_some _ _).symm.trans H; rw [hy103]; with_reducible exact H2_) | (have H2_ := (Option.bind_some _ _).symm.trans H; with_reducible exact H2_) | with_reducible exact H | (rw [hy103]; exact H) | exact H
                  have Ny103 := Aside0.mk hy103
                  clear hy103
                  obtain rfl := Option.some.inj H
                  go_enter Tryd.func24, Tryd.ntmps24
                  try go_wp2
                  have n0_ := Aside0.mk (below_drew1 HB.out)
                  clear HB
                  have HB := n0_
                  clear n0_
                  have p5 : 0 ≤ ((ji2) : Int) := of_decide_eq_true (by first | (with_reducible assumption) | assumption)
                  have q5 : (ji2) < (16 : Int) := of_decide_eq_true (by first | (with_reducible assumption) | assumption)
                  have hx5 := bt_at (⟨#[48, 49, 50, 51, 52, 53, 54, 55, 56, 57, 97, 98, 99, 100, 101, 102]⟩ : ByteArray) (ji2)
                  replace p5 := eq_true p5
                  replace q5 := eq_true q5
                  have p9 : 0 ≤ ((ji6) : Int) := of_decide_eq_true (by first | (with_reducible assumption) | assumption)
                  have q9 : (ji6) < (16 : Int) := of_decide_eq_true (by first | (with_reducible assumption) | assumption)
                  have hx9 := bt_at (⟨#[48, 49, 50, 51, 52, 53, 54, 55, 56, 57, 97, 98, 99, 100, 101, 102]⟩ : ByteArray) (ji6)
                  replace p9 := eq_true p9
                  replace q9 := eq_true q9
                  have p13 : 0 ≤ ((ji10) : Int) := of_decide_eq_true (by first | (with_reducible assumption) | assumption)
                  have q13 : (ji10) < (16 : Int) := of_decide_eq_true (by first | (with_reducible assumption) | assumption)
                  have hx13 := bt_at (⟨#[48, 49, 50, 51, 52, 53, 54, 55, 56, 57, 97, 98, 99, 100, 101, 102]⟩ : ByteArray) (ji10)
                  replace p13 := eq_true p13
                  replace q13 := eq_true q13
                  have p16 : 0 ≤ ((Go.bits .and .i64 a0 15) : Int) := of_decide_eq_true (by first | (with_reducible assumption) | assumption)
                  have q16 : (Go.bits .and .i64 a0 15) < (16 : Int) := of_decide_eq_true (by first | (with_reducible assumption) | assumption)
                  have hx16 := bt_at (⟨#[48, 49, 50, 51, 52, 53, 54, 55, 56, 57, 97, 98, 99, 100, 101, 102]⟩ : ByteArray) (Go.bits .and .i64 a0 15)
                  replace p16 := eq_true p16
                  replace q16 := eq_true q16
                  refine start_ (n := 18) (S := fun w' => True) (ds := []) #[false, false, false, false, false, false, false, false, false, false, false, false, false, false, false, false, false, false] (by kernel_rfl) rfl rfl trivial (fun hHeld => ?_); refine with_tabW plan_four.tab1 plan_four.bits1 (fun HT_ HW_ => ?_)
                  generalize w.drew = w17 at HB hHeld ⊢
                  refine pure_ (i := 0) (N := some 3) (v := ?_) (a' := ?_) #[true, false, false, false, false, false, false, false, false, false, false, false, false, false, false, false, false, false] rfl rfl (any_of HT_.out (by kernel_rfl)) (fun _ _ _ h => h) (Or.inl ⟨by rfl, ?_⟩) ?_ ?_
                  rotate_left
                  · intro w'
                    go_simp
                    with_reducible rfl
                  rotate_left
                  · simp only [Act.put, List.setIfInBounds_toArray, List.set_cons_zero, List.set_cons_succ, i64_w, i32_w]
                    rfl
                  refine pure_ (i := 1) (N := some 4) (v := ?_) (a' := ?_) #[true, true, false, false, false, false, false, false, false, false, false, false, false, false, false, false, false, false] rfl rfl (any_of HT_.out (by kernel_rfl)) (fun _ _ _ h => h) (Or.inl ⟨by rfl, ?_⟩) ?_ ?_
                  rotate_left
                  · intro w'
                    go_simp
                    with_reducible rfl
                  rotate_left
                  · simp only [Act.put, List.setIfInBounds_toArray, List.set_cons_zero, List.set_cons_succ, i64_w, i32_w]
                    rfl
                  refine pure_ (i := 2) (N := some 5) (v := ?_) (a' := ?_) #[true, true, true, false, false, false, false, false, false, false, false, false, false, false, false, false, false, false] rfl rfl (any_of HT_.out (by kernel_rfl)) (fun _ _ _ h => h) (Or.inl ⟨by rfl, ?_⟩) ?_ ?_
                  rotate_left
                  · intro w'
                    go_simp
                    with_reducible rfl
                  rotate_left
                  · simp only [Act.put, List.setIfInBounds_toArray, List.set_cons_zero, List.set_cons_succ, i64_w, i32_w]
                    rfl
                  refine pure_ (i := 4) (N := some 7) (v := ?_) (a' := ?_) #[true, true, true, false, true, false, false, false, false, false, false, false, false, false, false, false, false, false] rfl rfl (any_of HT_.out (by kernel_rfl)) (fun _ _ _ h => h) (Or.inl ⟨by rfl, ?_⟩) ?_ ?_
                  rotate_left
                  · intro w'
                    go_simp
                    with_reducible rfl
                  rotate_left
                  · simp only [Act.put, List.setIfInBounds_toArray, List.set_cons_zero, List.set_cons_succ, i64_w, i32_w]
                    rfl
                  refine pure_ (i := 5) (N := some 8) (v := ?_) (a' := ?_) #[true, true, true, false, true, true, false, false, false, false, false, false, false, false, false, false, false, false] rfl rfl (any_of HT_.out (by kernel_rfl)) (fun _ _ _ h => h) (Or.inl ⟨by rfl, ?_⟩) ?_ ?_
                  rotate_left
                  · intro w'
                    go_simp
                    with_reducible rfl
                  rotate_left
                  · simp only [Act.put, List.setIfInBounds_toArray, List.set_cons_zero, List.set_cons_succ, i64_w, i32_w]
                    rfl
                  refine pure_ (i := 6) (N := some 9) (v := ?_) (a' := ?_) #[true, true, true, false, true, true, true, false, false, false, false, false, false, false, false, false, false, false] rfl rfl (any_of HT_.out (by kernel_rfl)) (fun _ _ _ h => h) (Or.inl ⟨by rfl, ?_⟩) ?_ ?_
                  rotate_left
                  · intro w'
                    go_simp
                    with_reducible rfl
                  rotate_left
                  · simp only [Act.put, List.setIfInBounds_toArray, List.set_cons_zero, List.set_cons_succ, i64_w, i32_w]
                    rfl
                  refine pure_ (i := 8) (N := some 11) (v := ?_) (a' := ?_) #[true, true, true, false, true, true, true, false, true, false, false, false, false, false, false, false, false, false] rfl rfl (any_of HT_.out (by kernel_rfl)) (fun _ _ _ h => h) (Or.inl ⟨by rfl, ?_⟩) ?_ ?_
                  rotate_left
                  · intro w'
                    go_simp
                    with_reducible rfl
                  rotate_left
                  · simp only [Act.put, List.setIfInBounds_toArray, List.set_cons_zero, List.set_cons_succ, i64_w, i32_w]
                    rfl
                  refine pure_ (i := 9) (N := some 12) (v := ?_) (a' := ?_) #[true, true, true, false, true, true, true, false, true, true, false, false, false, false, false, false, false, false] rfl rfl (any_of HT_.out (by kernel_rfl)) (fun _ _ _ h => h) (Or.inl ⟨by rfl, ?_⟩) ?_ ?_
                  rotate_left
                  · intro w'
                    go_simp
                    with_reducible rfl
                  rotate_left
                  · simp only [Act.put, List.setIfInBounds_toArray, List.set_cons_zero, List.set_cons_succ, i64_w, i32_w]
                    rfl
                  refine pure_ (i := 10) (N := some 13) (v := ?_) (a' := ?_) #[true, true, true, false, true, true, true, false, true, true, true, false, false, false, false, false, false, false] rfl rfl (any_of HT_.out (by kernel_rfl)) (fun _ _ _ h => h) (Or.inl ⟨by rfl, ?_⟩) ?_ ?_
                  rotate_left
                  · intro w'
                    go_simp
                    with_reducible rfl
                  rotate_left
                  · simp only [Act.put, List.setIfInBounds_toArray, List.set_cons_zero, List.set_cons_succ, i64_w, i32_w]
                    rfl
                  refine pure_ (i := 12) (N := some 15) (v := ?_) (a' := ?_) #[true, true, true, false, true, true, true, false, true, true, true, false, true, false, false, false, false, false] rfl rfl (any_of HT_.out (by kernel_rfl)) (fun _ _ _ h => h) (Or.inl ⟨by rfl, ?_⟩) ?_ ?_
                  rotate_left
                  · intro w'
                    go_simp
                    with_reducible rfl
                  rotate_left
                  · simp only [Act.put, List.setIfInBounds_toArray, List.set_cons_zero, List.set_cons_succ, i64_w, i32_w]
                    rfl
                  refine pure_ (i := 13) (N := some 16) (v := ?_) (a' := ?_) #[true, true, true, false, true, true, true, false, true, true, true, false, true, true, false, false, false, false] rfl rfl (any_of HT_.out (by kernel_rfl)) (fun _ _ _ h => h) (Or.inl ⟨by rfl, ?_⟩) ?_ ?_
                  rotate_left
                  · intro w'
                    go_simp
                    with_reducible rfl
                  rotate_left
                  · simp only [Act.put, List.setIfInBounds_toArray, List.set_cons_zero, List.set_cons_succ, i64_w, i32_w]
                    rfl
                  refine take_ (i := 3) (N := some 6) (v := ?_) (a' := ?_) #[true, true, true, true, true, true, true, false, true, true, true, false, true, true, false, false, false, false] rfl rfl (take_ofW HT_.out HW_.out (by kernel_rfl)) (fun _ _ _ h => h) (Or.inl ⟨by rfl, ?_⟩) hHeld ?_ ?_
                  rotate_left
                  · intro w' _
                    go_simp
                    with_reducible rfl
                  rotate_left
                  · simp only [Act.put, List.setIfInBounds_toArray, List.set_cons_zero, List.set_cons_succ, i64_w, i32_w]
                    rfl
                  refine take_ (i := 7) (N := some 10) (v := ?_) (a' := ?_) #[true, true, true, true, true, true, true, true, true, true, true, false, true, true, false, false, false, false] rfl rfl (take_ofW HT_.out HW_.out (by kernel_rfl)) (fun _ _ _ h => h) (Or.inl ⟨by rfl, ?_⟩) hHeld ?_ ?_
                  rotate_left
                  · intro w' _
                    go_simp
                    with_reducible rfl
                  rotate_left
                  · simp only [Act.put, List.setIfInBounds_toArray, List.set_cons_zero, List.set_cons_succ, i64_w, i32_w]
                    rfl
                  refine take_ (i := 11) (N := some 14) (v := ?_) (a' := ?_) #[true, true, true, true, true, true, true, true, true, true, true, true, true, true, false, false, false, false] rfl rfl (take_ofW HT_.out HW_.out (by kernel_rfl)) (fun _ _ _ h => h) (Or.inl ⟨by rfl, ?_⟩) hHeld ?_ ?_
                  rotate_left
                  · intro w' _
                    go_simp
                    with_reducible rfl
                  rotate_left
                  · simp only [Act.put, List.setIfInBounds_toArray, List.set_cons_zero, List.set_cons_succ, i64_w, i32_w]
                    rfl
                  refine take_ (i := 14) (N := some 17) (v := ?_) (a' := ?_) #[true, true, true, true, true, true, true, true, true, true, true, true, true, true, true, false, false, false] rfl rfl (take_ofW HT_.out HW_.out (by kernel_rfl)) (fun _ _ _ h => h) (Or.inl ⟨by rfl, ?_⟩) hHeld ?_ ?_
                  rotate_left
                  · intro w' _
                    go_simp
                    with_reducible rfl
                  rotate_left
                  · simp only [Act.put, List.setIfInBounds_toArray, List.set_cons_zero, List.set_cons_succ, i64_w, i32_w]
                    rfl
                  refine one_ (i := 15) (N := some 18) #[true, true, true, true, true, true, true, true, true, true, true, true, true, true, true, true, false, false] rfl rfl (one_of HT_.out (by kernel_rfl)) (by decide) (fun K hK => ?_)
                  refine Kd.R_lit_step (Kd.int .u8) _ 5 ?hg (N := 18) ?hd (xs := ([bt (⟨#[48, 49, 50, 51, 52, 53, 54, 55, 56, 57, 97, 98, 99, 100, 101, 102]⟩ : ByteArray) (ji2), bt (⟨#[48, 49, 50, 51, 52, 53, 54, 55, 56, 57, 97, 98, 99, 100, 101, 102]⟩ : ByteArray) (ji6), bt (⟨#[48, 49, 50, 51, 52, 53, 54, 55, 56, 57, 97, 98, 99, 100, 101, 102]⟩ : ByteArray) (ji10), bt (⟨#[48, 49, 50, 51, 52, 53, 54, 55, 56, 57, 97, 98, 99, 100, 101, 102]⟩ : ByteArray) (Go.bits .and .i64 a0 15)] : List Int)) (inner := [.int .u8 (bt (⟨#[48, 49, 50, 51, 52, 53, 54, 55, 56, 57, 97, 98, 99, 100, 101, 102]⟩ : ByteArray) (ji2)), .int .u8 (bt (⟨#[48, 49, 50, 51, 52, 53, 54, 55, 56, 57, 97, 98, 99, 100, 101, 102]⟩ : ByteArray) (ji6)), .int .u8 (bt (⟨#[48, 49, 50, 51, 52, 53, 54, 55, 56, 57, 97, 98, 99, 100, 101, 102]⟩ : ByteArray) (ji10)), .int .u8 (bt (⟨#[48, 49, 50, 51, 52, 53, 54, 55, 56, 57, 97, 98, 99, 100, 101, 102]⟩ : ByteArray) (Go.bits .and .i64 a0 15))]) (ok := fun _ => True) (okp := fun _ => True) ?hr ?hp (fun _ hk => hk) trivial (Below.refl _ _) (Nat.le_refl _) (by simp) ?_; (case hd => rfl); (case hg => rfl); (case hr => first | (go_simp; done) | (go_simp; rfl)); (case hp => exact (Reps.one (show Kd.M (Kd.int .u8) _ _ _ (bt (⟨#[48, 49, 50, 51, 52, 53, 54, 55, 56, 57, 97, 98, 99, 100, 101, 102]⟩ : ByteArray) (ji2)) [.int .u8 (bt (⟨#[48, 49, 50, 51, 52, 53, 54, 55, 56, 57, 97, 98, 99, 100, 101, 102]⟩ : ByteArray) (ji2))] from rfl) (Reps.one (show Kd.M (Kd.int .u8) _ _ _ (bt (⟨#[48, 49, 50, 51, 52, 53, 54, 55, 56, 57, 97, 98, 99, 100, 101, 102]⟩ : ByteArray) (ji6)) [.int .u8 (bt (⟨#[48, 49, 50, 51, 52, 53, 54, 55, 56, 57, 97, 98, 99, 100, 101, 102]⟩ : ByteArray) (ji6))] from rfl) (Reps.one (show Kd.M (Kd.int .u8) _ _ _ (bt (⟨#[48, 49, 50, 51, 52, 53, 54, 55, 56, 57, 97, 98, 99, 100, 101, 102]⟩ : ByteArray) (ji10)) [.int .u8 (bt (⟨#[48, 49, 50, 51, 52, 53, 54, 55, 56, 57, 97, 98, 99, 100, 101, 102]⟩ : ByteArray) (ji10))] from rfl) (Reps.one (show Kd.M (Kd.int .u8) _ _ _ (bt (⟨#[48, 49, 50, 51, 52, 53, 54, 55, 56, 57, 97, 98, 99, 100, 101, 102]⟩ : ByteArray) (Go.bits .and .i64 a0 15)) [.int .u8 (bt (⟨#[48, 49, 50, 51, 52, 53, 54, 55, 56, 57, 97, 98, 99, 100, 101, 102]⟩ : ByteArray) (Go.bits .and .i64 a0 15))] from rfl) (Reps.none _ _))))))
                  intro v104 w18 ho19 hb hg_ hnew_
                  clear hg_ hnew_
                  (first | rw [← Ny103.out] at ho19 | (simp only [Int.reduceToNat] at ho19; rw [← Ny103.out] at ho19))
                  have n0_ := Aside0.mk (Kd.R_lower ho19 (below_size (by repeat (first | (with_reducible first | exact HB.out | apply below_alloc | apply pw_below_drewN | apply below_drew1) | exact HB.out))))
                  have n1_ := Aside0.mk (below_step (by repeat (first | (with_reducible first | exact HB.out | apply below_alloc | apply pw_below_drewN | apply below_drew1) | exact HB.out)) hb)
                  clear HB
                  have HO105 := n0_
                  have HB := n1_
                  clear n0_ n1_
                  clear hb ho19
                  refine hK.out _ _ trivial (fun hHeld => ?_)
                  clear hK K
                  refine norm_ (a' := ?_) ?_ ?_
                  rotate_left
                  · show Act.put _ (some 18) _ = _
                    simp only [Act.put, List.setIfInBounds_toArray, List.set_cons_zero, List.set_cons_succ, i64_w, i32_w]
                    rfl
                  refine one_ (i := 16) (N := some 19) #[true, true, true, true, true, true, true, true, true, true, true, true, true, true, true, true, true, false] rfl rfl (one_of HT_.out (by kernel_rfl)) (by decide) (fun K hK => ?_)
                  have hcv20 := own_string (P := Tryd.prog) Tryd.underlying37 Tryd.underlying5 Tryd.underlying9 (Kd.own_of_R HO105.out)
                  refine value_ (w1 := ?_) (v := ?_) (by rfl) rfl ?_ ?_
                  rotate_left 2
                  · go_simp
                    constructor
                    · rfl
                    · rfl
                  clear hcv20
                  refine hK.out _ _ trivial (fun hHeld => ?_)
                  clear hK K
                  refine norm_ (a' := ?_) ?_ ?_
                  rotate_left
                  · show Act.put _ (some 19) _ = _
                    simp only [Act.put, List.setIfInBounds_toArray, List.set_cons_zero, List.set_cons_succ, i64_w, i32_w]
                    rfl
                  refine pure_ (i := 17) (N := some 2) (v := ?_) (a' := ?_) #[true, true, true, true, true, true, true, true, true, true, true, true, true, true, true, true, true, true] rfl rfl (any_of HT_.out (by kernel_rfl)) (fun _ _ _ h => h) (Or.inl ⟨by rfl, ?_⟩) ?_ ?_
                  rotate_left
                  · intro w'
                    go_simp
                    with_reducible rfl
                  rotate_left
                  · simp only [Act.put, List.setIfInBounds_toArray, List.set_cons_zero, List.set_cons_succ, i64_w, i32_w]
                    rfl
                  refine done_ (done_of HT_.out (by kernel_rfl)) ?_
                  try go_wp2
                  go_ret
                  exact ⟨by first | rfl | (simp [errW_none, errW_some] <;> rfl) | (simp only [← hji2, ← hji6, ← hji10]; first | rfl | (simp [errW_none, errW_some] <;> rfl)) | (simp [*, errW_none, errW_some] <;> rfl), by repeat (first | (with_reducible first | exact HB.out | apply below_alloc | apply pw_below_drewN | apply below_drew1) | exact HB.out)⟩
                · rw [if_neg c15] at H
                  exact absurd H (by simp)
              · rw [if_neg c14] at H
                exact absurd H (by simp)
            · rw [if_neg c12] at H
              exact absurd H (by simp)
          · rw [if_neg c11] at H
            exact absurd H (by simp)
        · rw [if_neg c8] at H
          exact absurd H (by simp)
      · rw [if_neg c7] at H
        exact absurd H (by simp)
    · rw [if_neg c4] at H
      exact absurd H (by simp)
  · rw [if_neg c3] at H
    exact absurd H (by simp)
def plan_Sum.l0 : Nat → ByteArray → Int → Int → Option (Int)
  | 0, _, _, _ => none
  | k + 1, x0, x3, x4 => if x4 < (x0.size : Int) then (if 0 ≤ x4 then (plan_Sum.l0 k x0 (IntKind.u16.wrap ((Go.bits .or .u16 (x3 / 2) (IntKind.u16.wrap (x3 * 32768))) + (IntKind.u16.wrap (bt x0 x4)))) (wrap64 (x4 + 1))) else (none)) else (some (wrap64 (x3)))
def plan_Sum.f (k : Nat) (a0 : ByteArray) : Option (Int) := plan_Sum.l0 k a0 0 0
theorem plan_Sum.mono_l : ∀ k, (∀ y0 y1 y2, LeO (plan_Sum.l0 k y0 y1 y2) (plan_Sum.l0 (k + 1) y0 y1 y2))
  | 0 => fun _ _ _ r h => by simp [plan_Sum.l0] at h
  | k + 1 => by
    have ih0 := plan_Sum.mono_l k
    · intro y0 y1 y2
      unfold plan_Sum.l0
      repeat' first
      | (with_reducible exact ih0 _ _ _)
      | (with_reducible exact LeO.refl _)
      | (with_reducible exact LeO.none _)
      | (with_reducible refine LeO.ite ?_ ?_)
      | (with_reducible refine LeO.bind ?_ (fun _ => ?_))
      | exact ih0 _ _ _
      | exact LeO.none _
      | refine LeO.ite ?_ ?_
      | refine LeO.bind ?_ (fun _ => ?_)
theorem plan_Sum.mono : ∀ a0 k, LeO (plan_Sum.f k a0) (plan_Sum.f (k + 1) a0) := by
  intro a0 k
  have ih0 := plan_Sum.mono_l k
  unfold plan_Sum.f
  repeat' first
      | (with_reducible exact ih0 _ _ _)
      | (with_reducible exact LeO.refl _)
      | (with_reducible exact LeO.none _)
      | (with_reducible refine LeO.ite ?_ ?_)
      | (with_reducible refine LeO.bind ?_ (fun _ => ?_))
      | exact ih0 _ _ _
      | exact LeO.none _
      | refine LeO.ite ?_ ?_
      | refine LeO.bind ?_ (fun _ => ?_)
set_option maxHeartbeats 8000000 in
set_option maxRecDepth 100000 in
theorem plan_Sum.calls (k : Nat) (a0 : ByteArray) (r : Int) (w : World) (h : plan_Sum.f k a0 = some r) :
    Calls Tryd.prog 25 #[.string a0] w fun e w' => e = .returned (.int .i64 r) ∧ Drawn0 w w' := by
  have H : (plan_Sum.l0 k a0 0 0) = some r := h
  clear h
  have H' := Aside0.mk H
  clear H
  go_enter Tryd.func25, Tryd.ntmps25
  go_wp2
  go_loopg [3, 4] k (fun kq v3 v4 w' => ∃ (x3_1 : Int) (x4_1 : Int), v3 = .int .u16 x3_1 ∧ v4 = .int .i64 x4_1 ∧ Aside0 (plan_Sum.l0 kq a0 x3_1 x4_1 = some r) ∧ Aside0 (kq ≤ k) ∧ Drawn0 w w')
  case atStart => exact ⟨(0), (0), (by first | rfl | (simp; done) | (simp [*]; done)), (by first | rfl | (simp; done) | (simp [*]; done)), H', ⟨Nat.le_refl _⟩, by repeat (first | exact Drawn0.refl _ | apply Drawn0.step)⟩
  case round =>
    clear H'
    obtain ⟨x3_1, x4_1, rfl, rfl, HA, HK1, ⟨m1, rfl⟩⟩ := hrel
    cases gk with
    | zero => exact absurd HA.out (by simp [plan_Sum.l0])
    | succ k1 =>
      have H := HA.out
      clear HA
      simp only [plan_Sum.l0] at H
      by_cases c2 : x4_1 < (a0.size : Int)
      · rw [if_pos c2] at H
        have c2b0 : decide (x4_1 < (a0.size : Int)) = true := decide_eq_true c2
        clear c2
        by_cases c3 : 0 ≤ x4_1
        · rw [if_pos c3] at H
          have c3b0 : decide (0 ≤ x4_1) = true := decide_eq_true c3
          clear c3
          have H' := Aside0.mk H
          clear H
          have p4 : 0 ≤ (x4_1 : Int) := of_decide_eq_true (by first | (with_reducible assumption) | assumption)
          have q4 : x4_1 < (a0.size : Int) := of_decide_eq_true (by first | (with_reducible assumption) | assumption)
          have hx4 := bt_at a0 x4_1
          replace p4 := eq_true p4
          replace q4 := eq_true q4
          go_wp2
          go_roundg k1
          case measure => have := HK1.out; omega
          case rel => exact ⟨(IntKind.u16.wrap ((Go.bits .or .u16 (x3_1 / 2) (IntKind.u16.wrap (x3_1 * 32768))) + (IntKind.u16.wrap (bt a0 x4_1)))), (wrap64 (x4_1 + 1)), (by first | rfl | (simp; done) | (simp [*]; done)), (by first | rfl | (simp; done) | (simp [*]; done)), H', ⟨by have := HK1.out; omega⟩, by repeat (first | exact Drawn0.refl _ | apply Drawn0.step)⟩
        · rw [if_neg c3] at H
          exact absurd H (by simp)
      · rw [if_neg c2] at H
        have c2b0 : decide (x4_1 < (a0.size : Int)) = false := decide_eq_false c2
        clear c2
        obtain rfl := Option.some.inj H
        go_wp2
        go_ret
        exact ⟨by first | rfl | (simp; done) | (simp [*]; done), by repeat (first | exact Drawn0.refl _ | apply Drawn0.step)⟩
end Go.Proofs.YtmpnkckaohfflaaDoor.E
end
section
namespace Go.Proofs.YtmpnkckaohfflaaDoor.PGiv
open Go.RowKit Go.Proofs.YtmpnkckaohfflaaDoorW.PrintWords Go.Proofs.YtmpnkckaohfflaaDoorW.PrintLast Go.Proofs.YtmpnkckaohfflaaDoorW.PrintMore Go.Proofs.YtmpnkckaohfflaaDoor.K Go.Maps
set_option linter.unusedVariables false
set_option linter.unusedSimpArgs false
def sideB (n : Int) : Bool := decide (1 ≤ n) && decide (n ≤ 1000)
def idB (n : Int) : Bool := decide (1 ≤ n) && decide (n ≤ 4611686018427387904)
def kindB (n : Int) : Bool := n == 2 || n == 3
theorem side_calls (n : Int) (r : Bool) (h : sideB n = r) (w : World) : Calls Tryd.prog 49 #[.int .i64 n] w fun e w' => e = .returned (.bool r) ∧ w' = w := by
  subst h
  unfold sideB
  go_enter Tryd.func49, Tryd.ntmps49
  by_cases k : 1 ≤ n
  · have k' : decide (1 ≤ n) = true := decide_eq_true k
    go_wp2
    go_ret
    exact ⟨by simp [k], rfl⟩
  · have k' : decide (1 ≤ n) = false := decide_eq_false k
    go_wp2
    go_ret
    exact ⟨by simp [k], rfl⟩
theorem id_calls (n : Int) (r : Bool) (h : idB n = r) (w : World) : Calls Tryd.prog 50 #[.int .i64 n] w fun e w' => e = .returned (.bool r) ∧ w' = w := by
  subst h
  unfold idB
  go_enter Tryd.func50, Tryd.ntmps50
  by_cases k : 1 ≤ n
  · have k' : decide (1 ≤ n) = true := decide_eq_true k
    go_wp2
    go_ret
    exact ⟨by simp [k], rfl⟩
  · have k' : decide (1 ≤ n) = false := decide_eq_false k
    go_wp2
    go_ret
    exact ⟨by simp [k], rfl⟩
theorem kindOf_calls (n : Int) (r : Bool) (h : kindB n = r) (w : World) : Calls Tryd.prog 51 #[.int .i64 n] w fun e w' => e = .returned (.bool r) ∧ w' = w := by
  subst h
  unfold kindB
  go_enter Tryd.func51, Tryd.ntmps51
  by_cases k : n = 2
  · have k' : (n == 2) = true := beq_iff_eq.mpr k
    go_wp2
    go_ret
    exact ⟨by simp [k], rfl⟩
  · have k' : (n == 2) = false := beq_eq_false_iff_ne.mpr k
    go_wp2
    go_ret
    exact ⟨by simp [k], rfl⟩
theorem write_calls (base : Nat) (t : Tr) (v : Value) (w : World) (hb : base ≤ w.heap.size) (hM : kT.M w base (fun _ => True) t [v]) (hc : cntT t ≤ 1000000) :
    Calls Tryd.prog 54 #[v] w fun e w' => ∃ (A : Option Addr) (c : Nat), e = .returned (.slice A (layT t 0 0 0).length c) ∧ (layT t 0 0 0).length ≤ c ∧ Kd.C k45 w' A (layT t 0 0 0).length (layT t 0 0 0) ∧
      Below base w w' ∧ ∀ k, k < w.heap.size → Alike w.heap[k]? w'.heap[k]? := by
  have e1 : (w.alloc (.cells #[.slice none 0 0] 22 (0, 0))).heap = w.heap.push (.cells #[.slice none 0 0] 22 (0, 0)) := rfl
  have hO := Lib.hid (show (w.alloc (.cells #[.slice none 0 0] 22 (0, 0))).heap[w.heap.size]? = some (.cells #[.slice none 0 0] 22 (0, 0)) by rw [e1]; simp)
  have hA := Lib.hid (show ∀ k, k < w.heap.size → (w.alloc (.cells #[.slice none 0 0] 22 (0, 0))).heap[k]? = w.heap[k]? from fun k hk => Below.heap_alloc w _ k hk)
  have hM1 := Lib.hid (kT.M_move (w1 := w.alloc (.cells #[.slice none 0 0] 22 (0, 0))) (fun k hk => hA.out k hk) (kT.M_mono (ok' := fun k => k < w.heap.size) (fun k hk => hk.2.2.1) (kT.M_bound hM)))
  have hB := Lib.hid (show Below base w (w.alloc (.cells #[.slice none 0 0] 22 (0, 0))) from (Below.refl _ _).alloc hb _)
  go_enter Tryd.func54, Tryd.ntmps54
  go_wp2_with (go_at_call 69; refine (lay_calls base w.heap.size hb t 0 0 0 [] (.slice none 0 0) v _ hM1.out hO.out (Kd.R_nil _ _ _ _ _) (by simpa using hc)).mono ?_)
  rintro e w1 ⟨rfl, B1, A1, vs, O1, R1⟩
  obtain ⟨Av, cv, rfl, hl, hC⟩ := Kd.R_reads R1
  have hv : w1.cell? ⟨w.heap.size, 0, none⟩ = some (.slice Av ([] ++ layT t 0 0 0).length cv) := (blk_cell O1 0).trans rfl
  have F := Lib.hid (And.intro hl (And.intro hC (And.intro B1 A1)))
  clear B1 A1 O1 R1 hl hC
  go_wp2
  go_ret
  have F := F.out
  rw [List.nil_append] at F
  refine ⟨Av, cv, rfl, F.1, F.2.1, hB.out.trans F.2.2.1, fun k hk => ?_⟩
  have := F.2.2.2 k hk
  rwa [hA.out k hk] at this
def seenD : List Int → DataW Unit
  | [] => .map []
  | p :: S => (seenD S).put (.int .i64 p) (.lit (.int .i64 1))
theorem seenD_tidy : ∀ S, Tidy (seenD S)
  | [] => tidy_empty
  | p :: S => (seenD_tidy S).put (show WideAt.IsKeyLit (.int .i64 p) from trivial) _
theorem seenD_has (p : Int) : ∀ S, has (seenD S) (.int .i64 p) = decide (p ∈ S)
  | [] => by simp [seenD, has]
  | q :: S => by
    by_cases e : p = q
    · subst e
      rw [seenD, has_put_same (seenD_tidy S).isMap (show WideAt.IsKeyLit (.int .i64 p) from trivial)]
      simp
    · rw [seenD, has_put_other (fun h => e (by injection h)), seenD_has p S]
      simp [e]
theorem seenD_at (p : Int) (z : DataW Unit) : ∀ S, (seenD S).atKey (.int .i64 p) z = if p ∈ S then .lit (.int .i64 1) else z
  | [] => by
    rw [atKey_of_not_has (by rw [seenD_has]; simp)]
    simp
  | q :: S => by
    by_cases e : p = q
    · subst e
      rw [seenD, atKey_put_same (seenD_tidy S).isMap (show WideAt.IsKeyLit (.int .i64 p) from trivial)]
      simp
    · rw [seenD, atKey_put_other (fun h => e (by injection h)), seenD_at p z S]
      simp [e]
theorem seenD_size : ∀ S, S.Nodup → size (seenD S) = S.length
  | [], _ => rfl
  | p :: S, h => by
    obtain ⟨h1, h2⟩ := List.nodup_cons.1 h
    rw [seenD, size_put (seenD_tidy S), seenD_has, seenD_size S h2]
    simp [h1]
def seenF : List S45 → List Int → Option (List Int)
  | [], S => some S
  | c :: r, S => if c.f4 < 1 ∨ 1000 < c.f4 ∨ c.f5 < 1 ∨ 1000 < c.f5 then none
    else if c.f1 = 1 then (if idB c.f6 = false ∨ c.f6 ∈ S then none else seenF r (c.f6 :: S))
    else if c.f6 ≠ 0 ∨ kindB c.f1 = false then none else seenF r S
instance decS : DecidableEq S45 := fun a b => decidable_of_iff (a.f0 = b.f0 ∧ a.f1 = b.f1 ∧ a.f2 = b.f2 ∧ a.f3 = b.f3 ∧ a.f4 = b.f4 ∧ a.f5 = b.f5 ∧ a.f6 = b.f6) (by
  cases a
  cases b
  simp)
def readF : List S45 → Option (Option Tr)
  | [] => some none
  | c :: l => if 64 < (c :: l).length then some none else if sideB c.f4 = false then some none else if sideB c.f5 = false then some none
    else match seenF (c :: l) [] with
      | none => some none
      | some S => if 32 < S.length then some none
        else (growF 1000 (c :: l) 0).bind fun r => match r with
          | none => some none
          | some (t, rest) => if 0 < rest.length then some none else if layT t 0 0 0 = c :: l then some (some t) else some none
theorem law_int : Keyed Tryd.prog 3 := int_keyed Tryd.underlying3
theorem zero_int (w : World) : (zeroValue 3).run Tryd.prog w = .ok (.int .i64 0) w := by kernel_rfl
theorem rd_at (l : List S45) (i : Nat) (h : i < l.length) : rd_T45 l (i : Int) = l[i] := by
  simp [rd_T45, List.getD_eq_getElem?_getD, List.getElem?_eq_getElem h]
def ReadPost (w : World) (r : Option Tr) (e : Ending) (w' : World) : Prop :=
  match r with
  | none => e = .returned .nilIface ∧ Below w.heap.size w w'
  | some t => ∃ v, e = .returned v ∧ kT.M w' w.heap.size (fun _ => True) t [v] ∧ Below w.heap.size w w'
theorem seenF_step (c : S45) (r : List S45) (S : List Int) : seenF (c :: r) S = if c.f4 < 1 ∨ 1000 < c.f4 ∨ c.f5 < 1 ∨ 1000 < c.f5 then none
    else if c.f1 = 1 then (if idB c.f6 = false ∨ c.f6 ∈ S then none else seenF r (c.f6 :: S))
    else if c.f6 ≠ 0 ∨ kindB c.f1 = false then none else seenF r S := rfl
theorem id_wf {n : Int} (h : idB n = true) : (Lit.int .i64 n).wf = true := by
  simp [idB] at h
  exact WalkArith.wf_i64 (by omega)
theorem cntL_snoc (t : Tr) : ∀ ks, cntL (ks ++ [t]) = cntL ks + cntT t
  | [] => by simp [cntL]
  | k :: r => by
    rw [List.cons_append, cntL, cntL, cntL_snoc t r]
    omega
theorem tail_cnt {c : S45} {kids : List Tr} {sum e : Int} {l rest : List S45} {t : Tr} (h : (if kids.length < 2 then some none else if sum = e then some (some ((⟨c.f1, c.f4, c.f5, 0, kids⟩ : Tr), l)) else some none) = some (some (t, rest))) : cntT t + rest.length = 1 + cntL kids + l.length := by
  split at h
  · simp at h
  · split at h
    · simp only [Option.some.injEq, Prod.mk.injEq] at h
      obtain ⟨rfl, rfl⟩ := h
      simp [cntT]
    · simp at h
theorem grow_cnt : ∀ k, (∀ l d t rest, growF k l d = some (some (t, rest)) → cntT t + rest.length = l.length) ∧ (∀ c d kids sum l t rest, growL k c d kids sum l = some (some (t, rest)) → cntT t + rest.length = 1 + cntL kids + l.length) := by
  intro k
  induction k with
  | zero => exact ⟨fun l d t rest h => by simp [growF] at h, fun c d kids sum l t rest h => by simp [growL] at h⟩
  | succ k ih =>
    obtain ⟨ih1, ih2⟩ := ih
    constructor
    · intro l d t rest h
      cases l with
      | nil => simp [growF] at h
      | cons c r =>
        rw [growF] at h
        split at h
        · simp only [Option.some.injEq, Prod.mk.injEq] at h
          obtain ⟨rfl, rfl⟩ := h
          simp [cntT, cntL]
          omega
        · have := ih2 _ _ _ _ _ _ _ h
          simp [cntL] at this ⊢
          omega
    · intro c d kids sum l t rest h
      cases l with
      | nil =>
        rw [growL, if_neg (by simp)] at h
        exact tail_cnt h
      | cons x r =>
        rw [growL] at h
        split at h
        · split at h
          · simp at h
          · obtain ⟨g, hg, h⟩ := Option.bind_eq_some_iff.1 h
            cases g with
            | none => simp at h
            | some tr =>
              obtain ⟨t', rest'⟩ := tr
              have h1 := ih1 _ _ _ _ hg
              simp only at h
              split at h
              · have h2 := ih2 _ _ _ _ _ _ _ h
                rw [cntL_snoc] at h2
                omega
              · simp at h
        · exact tail_cnt h
theorem cell_eq {a b : S45} (h : (!(a.f0 == b.f0) || (!(a.f1 == b.f1) || (!(a.f2 == b.f2) || (!(a.f3 == b.f3) || (!(a.f4 == b.f4) || (!(a.f5 == b.f5) || !(a.f6 == b.f6))))))) = false) : a = b := by
  cases a
  cases b
  simp only [Bool.or_eq_false_iff, Bool.not_eq_false', beq_iff_eq] at h
  obtain ⟨h0, h1, h2, h3, h4, h5, h6⟩ := h
  subst h0 h1 h2 h3 h4 h5 h6
  rfl
theorem equal_l (a b : List S45) (hn : a.length = b.length) (hb : a.length ≤ 1000000) : ∀ (k i : Nat), i ≤ a.length → a.length < k + i → E.api_Cell.l0 k a b (a.length : Int) (i : Int) = some (decide (a.drop i = b.drop i)) := by
  intro k
  induction k with
  | zero => intro i h1 h2; omega
  | succ k ih =>
    intro i h1 h2
    rw [E.api_Cell.l0]
    by_cases hi : i < a.length
    · have hi' : i < b.length := by omega
      rw [if_pos (by omega), if_pos (by omega), if_pos (by omega), if_pos (by omega), rd_at a i hi, rd_at b i hi']
      have da : a.drop i = a[i] :: a.drop (i + 1) := List.drop_eq_getElem_cons hi
      have db : b.drop i = b[i] :: b.drop (i + 1) := List.drop_eq_getElem_cons hi'
      have hw : wrap64 ((i : Int) + 1) = ((i + 1 : Nat) : Int) := (IntWalk.wrap64_in _ (by omega)).trans (by omega)
      have hiff : (a.drop i = b.drop i) ↔ (a[i] = b[i] ∧ a.drop (i + 1) = b.drop (i + 1)) := by
        rw [da, db]
        simp only [List.cons.injEq]
      split
      · rename_i h
        have hne : ¬ a.drop i = b.drop i := fun e => by
          rw [(hiff.1 e).1] at h
          simp at h
        simp only [hne, decide_false]
      · rename_i h
        have e := cell_eq (by simpa using h)
        rw [hw, ih (i + 1) (by omega) (by omega)]
        simp only [hiff, e, true_and]
    · rw [if_neg (by omega), List.drop_eq_nil_of_le (by omega), List.drop_eq_nil_of_le (by omega)]
      simp
theorem equal_f (a b : List S45) (hb : a.length ≤ 1000) : E.api_Cell.f 10000 a b = some (decide (a = b)) := by
  rw [E.api_Cell.f]
  by_cases hn : a.length = b.length
  · rw [if_pos (by omega)]
    have := equal_l a b hn (by omega) 10000 0 (by omega) (by omega)
    simpa using this
  · rw [if_neg (by omega)]
    have : ¬ a = b := fun e => hn (by rw [e])
    simp [this]
theorem equal_true {a b : List S45} (hb : a.length ≤ 1000) (h : a = b) : E.api_Cell.f 10000 a b = some true := by
  rw [equal_f a b hb]
  simp [h]
theorem equal_false {a b : List S45} (hb : a.length ≤ 1000) (h : ¬ a = b) : E.api_Cell.f 10000 a b = some false := by
  rw [equal_f a b hb]
  simp [h]
set_option maxHeartbeats 16000000 in
set_option maxRecDepth 100000 in
theorem read_calls (A : Option Addr) (c0 : Nat) (l : List S45) (r : Option Tr) (w : World) (hr : Kd.C k45 w A l.length l) (hc : l.length ≤ c0) (h : readF l = some r) :
    Calls Tryd.prog 33 #[.slice A l.length c0] w fun e w' => ReadPost w r e w' := by
  cases l with
  | nil =>
    obtain rfl := Option.some.inj h
    go_enter Tryd.func33, Tryd.ntmps33
    go_wp2
    go_ret
    exact ⟨rfl, Below.refl _ _⟩
  | cons c l =>
  have HR := Lib.hid hr
  obtain ⟨ad, rfl, h0, h1, h2, h3, h4, h5, h6⟩ := at_T45 hr 0 (by omega) (by simp)
  have ec : rd_T45 (c :: l) 0 = c := rfl
  have ea : ad.add (Int.toNat 0 * 7) = ad := rfl
  rw [ec, ea] at h0 h1 h2 h3 h4 h5 h6
  clear ec ea hr
  have HE := Lib.hid h
  have HC := Lib.hid hc
  clear h hc
  have hmm := @run_makeMap Tryd.prog
  generalize hn : (c :: l).length = n at *
  have hn0 : (n : Int) ≠ 0 := by rw [← hn]; simp; omega
  have hn0' : ((n : Int) == 0) = false := beq_eq_false_iff_ne.mpr hn0
  go_enter Tryd.func33, Tryd.ntmps33
  by_cases hn64 : 64 < n
  · have hn64' : decide ((64 : Int) < (n : Int)) = true := decide_eq_true (by omega)
    have e : some none = some r := by have := HE.out; rwa [readF, hn, if_pos hn64] at this
    obtain rfl := Option.some.inj e
    go_wp2
    go_ret
    exact ⟨rfl, Below.refl _ _⟩
  · have hn64' : decide ((64 : Int) < (n : Int)) = false := decide_eq_false (by omega)
    have HE1 := HE.out
    rw [readF, hn, if_neg hn64] at HE1
    clear HE
    by_cases hs1 : sideB c.f4 = false
    · rw [if_pos hs1] at HE1
      obtain rfl := Option.some.inj HE1
      go_wp2_with (go_at_call 49; refine (side_calls c.f4 false hs1 _).mono ?_; rintro e w' ⟨rfl, hw⟩; rw [hw]; clear hw w')
      go_wp2
      go_ret
      exact ⟨rfl, Below.refl _ _⟩
    · rw [if_neg hs1] at HE1
      have hs1 : sideB c.f4 = true := by simpa using hs1
      by_cases hs2 : sideB c.f5 = false
      · rw [if_pos hs2] at HE1
        obtain rfl := Option.some.inj HE1
        go_wp2_with (go_at_call 49; first | (refine (side_calls c.f4 true hs1 _).mono ?_; rintro e w' ⟨rfl, hw⟩; rw [hw]; clear hw w') | (refine (side_calls c.f5 false hs2 _).mono ?_; rintro e w' ⟨rfl, hw⟩; rw [hw]; clear hw w'))
        go_wp2
        go_ret
        exact ⟨rfl, Below.refl _ _⟩
      · rw [if_neg hs2] at HE1
        have hs2 : sideB c.f5 = true := by simpa using hs2
        have HE2 := Lib.hid HE1
        clear HE1
        go_wp2_with (go_at_call 49; first | (refine (side_calls c.f4 true hs1 _).mono ?_; rintro e w' ⟨rfl, hw⟩; rw [hw]; clear hw w') | (refine (side_calls c.f5 true hs2 _).mono ?_; rintro e w' ⟨rfl, hw⟩; rw [hw]; clear hw w'))
        have hB0 : w.heap.size < (w.alloc (.map #[] 0)).heap.size := (World.ownsMap_made (H := Unit) w Tryd.prog 3 (plainElem Tryd.prog 3)).lt
        go_loopg [35] n (fun kq iv wr => ∃ (z : Int) (i : Nat) (S : List Int), iv = .int .i64 z ∧ Aside0 (z = (i : Int)) ∧ Aside0 (i + kq = n) ∧ Aside0 (seenF ((c :: l).drop i) S = seenF (c :: l) []) ∧ Aside0 (S.Nodup ∧ S.length ≤ i) ∧
          Aside0 (wr.ownsMap Tryd.prog 3 (plainElem Tryd.prog 3) w.heap.size i (seenD S)) ∧ Aside0 (Below w.heap.size w wr))
        case atStart =>
          exact ⟨0, 0, [], rfl, ⟨rfl⟩, ⟨by omega⟩, ⟨rfl⟩, ⟨List.nodup_nil, by simp⟩, ⟨World.ownsMap_made _ _ _ _⟩, ⟨(Below.refl _ _).alloc (Nat.le_refl _) _⟩⟩
        case round =>
          clear h0 h1 h2 h3 h4 h5 h6 hs1 hs2 hB0 hmm
          obtain ⟨z, i, S, rfl, HZ, RI, RS, RD, RM, RB⟩ := hrel
          cases gk with
          | zero =>
            have hz : z = (n : Int) := by have := HZ.out; have := RI.out; omega
            have hz' : decide (z < (n : Int)) = false := decide_eq_false (by omega)
            have hSF : seenF (c :: l) [] = some S := by
              have h := RS.out
              have e : i = (c :: l).length := by have := RI.out; omega
              rw [e, List.drop_length] at h
              exact h.symm
            have HE3 := HE2.out
            rw [hSF] at HE3
            have HE3 := Lib.hid HE3
            clear HE2 hz hSF
            have hsz := seenD_size S RD.out.1
            have hlen := RM.out.len Tryd.underlying67 3
            rw [hsz] at hlen
            by_cases h32 : 32 < S.length
            · have h32' : decide ((32 : Int) < (S.length : Int)) = true := decide_eq_true (by omega)
              have e : some none = some r := by have h : (if 32 < S.length then some none else _) = some r := HE3.out; rwa [if_pos h32] at h
              obtain rfl := Option.some.inj e
              go_wp2
              go_ret
              exact ⟨rfl, RB.out⟩
            · have h32' : decide ((32 : Int) < (S.length : Int)) = false := decide_eq_false (by omega)
              have HE4 := HE3.out
              simp only [if_neg h32] at HE4
              obtain ⟨g, hg, HE5⟩ := Option.bind_eq_some_iff.1 HE4
              have G := grow_calls 1000 (by omega) (some ad) c0 (c :: l) 0 g wr (by rw [hn]; exact Kd.C_below HR.out RB.out) (by rw [hn]; exact HC.out) hg
              rw [hn] at G
              have G := Lib.hid G
              have HG := Lib.hid hg
              have HE5 := Lib.hid HE5
              clear HE4 HE3 hg RM RD RS RI
              go_wp2_with (go_at_call 52; refine (G.out).mono ?_)
              cases g with
              | none =>
                rintro e w2 ⟨rfl, b2⟩
                obtain rfl := Option.some.inj HE5.out
                go_wp2
                go_ret
                exact ⟨rfl, RB.out.trans (b2.mono RB.out.size)⟩
              | some tr =>
                obtain ⟨t, rest⟩ := tr
                rintro e w2 ⟨v2, A2, c2, rfl, m2, l2, cc2, b2⟩
                obtain ⟨tp, bt, rfl, _⟩ := tree_value m2
                have hcnt := (grow_cnt 1000).1 _ _ _ _ HG.out
                have B2 := Lib.hid (RB.out.trans (b2.mono RB.out.size))
                have M2 := Lib.hid (kT.M_lower RB.out.size m2)
                clear m2 cc2 b2
                by_cases hrest : 0 < rest.length
                · have hrest' : decide ((0 : Int) < (rest.length : Int)) = true := decide_eq_true (by omega)
                  have e : some none = some r := by have h := HE5.out; simp only [if_pos hrest] at h; exact h
                  obtain rfl := Option.some.inj e
                  go_wp2
                  go_ret
                  exact ⟨rfl, B2.out⟩
                · have hrest' : decide ((0 : Int) < (rest.length : Int)) = false := decide_eq_false (by omega)
                  have HE6 := HE5.out
                  simp only [if_neg hrest] at HE6
                  have HE6 := Lib.hid HE6
                  have hlen := layT_len t 0 0 0
                  have hce : cntT t ≤ 64 := by rw [hn] at hcnt; omega
                  have WR := Lib.hid (write_calls w.heap.size t _ w2 B2.out.size M2.out (by omega))
                  have HRA := Lib.hid (And.intro hlen hce)
                  clear hlen hce hcnt HE5 HG G
                  go_wp2_with (go_at_call 54; refine (WR.out).mono ?_)
                  rintro e w3 ⟨A3, c3, rfl, l3, C3, B3, A3'⟩
                  have F3 := Lib.hid (And.intro B3 A3')
                  have EQ : (layT t 0 0 0).length ≤ 1000 := by have := HRA.out; omega
                  have CE := Lib.hid (fun b hb => E.api_Cell.calls 10000 A3 c3 (layT t 0 0 0) (some ad) c0 (c :: l) b w3 C3 l3 (by rw [hn]; exact Kd.C_below HR.out (B2.out.trans B3)) (by rw [hn]; exact HC.out) hb)
                  clear C3 l3 B3 A3'
                  by_cases heq : layT t 0 0 0 = c :: l
                  · have EQ1 : E.api_Cell.f 10000 (layT t 0 0 0) (c :: l) = some true := equal_true EQ heq
                    have e : some (some t) = some r := by have h := HE6.out; rwa [if_pos heq] at h
                    obtain rfl := Option.some.inj e
                    have CE1 := CE.out true EQ1
                    rw [hn] at CE1
                    have CE1 := Lib.hid CE1
                    clear heq EQ EQ1
                    go_wp2_with (go_at_call 53; refine (CE1.out).mono ?_; rintro e w' ⟨rfl, ⟨m4, rfl⟩⟩)
                    go_ret
                    refine ⟨.iface tp (.pointer (some ⟨bt, 0, none⟩)), rfl, ?_, pw_below_drewN (B2.out.trans F3.out.1) _⟩
                    have M3 := kT_alike (w1 := w3) (kT.M_mono (ok' := fun k => k < w2.heap.size) (fun k hk => hk.2.2.1) (kT.M_bound M2.out)) F3.out.2
                    exact kT.M_mono (fun _ _ => trivial) (kT_alike (w1 := w3.drewN m4) M3 (fun k _ => .refl _))
                  · have EQ1 : E.api_Cell.f 10000 (layT t 0 0 0) (c :: l) = some false := equal_false EQ heq
                    have e : some none = some r := by have h := HE6.out; rwa [if_neg heq] at h
                    obtain rfl := Option.some.inj e
                    have CE1 := CE.out false EQ1
                    rw [hn] at CE1
                    have CE1 := Lib.hid CE1
                    clear heq EQ EQ1
                    go_wp2_with (go_at_call 53; refine (CE1.out).mono ?_; rintro e w' ⟨rfl, ⟨m4, rfl⟩⟩)
                    go_ret
                    exact ⟨rfl, pw_below_drewN (B2.out.trans F3.out.1) _⟩
          | succ gk =>
            have hiL : i < (c :: l).length := by have := RI.out; omega
            have hz0 : 0 ≤ z := by have := HZ.out; omega
            have hzn : z < (n : Int) := by have := HZ.out; have := RI.out; omega
            have hz' : decide (z < (n : Int)) = true := decide_eq_true hzn
            obtain ⟨ad', e', q0, q1, q2, q3, q4, q5, q6⟩ := at_T45 (Kd.C_below HR.out RB.out) z hz0 hzn
            cases e'
            have ex : rd_T45 (c :: l) z = (c :: l)[i] := by rw [HZ.out]; exact rd_at _ i hiL
            have hdr : (c :: l).drop i = (c :: l)[i] :: (c :: l).drop (i + 1) := List.drop_eq_getElem_cons hiL
            rw [ex] at q0 q1 q2 q3 q4 q5 q6
            generalize (c :: l)[i] = x at q0 q1 q2 q3 q4 q5 q6 hdr
            have HS := RS.out
            rw [hdr, seenF_step] at HS
            have HS := Lib.hid HS
            have hz0' : (0 ≤ z) = True := eq_true hz0
            have hzn' : (z < (n : Int)) = True := eq_true hzn
            clear RS hdr ex hz0 hzn
            by_cases b1 : x.f4 < 1
            · have b1' : decide (x.f4 < 1) = true := decide_eq_true b1
              have hSF : seenF (c :: l) [] = none := by have h := HS.out; rw [if_pos (by omega)] at h; exact h.symm
              have HE3 := HE2.out
              rw [hSF] at HE3
              obtain rfl := Option.some.inj HE3
              go_wp2
              go_ret
              exact ⟨rfl, RB.out.alloc RB.out.size _⟩
            · have b1' : decide (x.f4 < 1) = false := decide_eq_false b1
              by_cases b2 : 1000 < x.f4
              · have b2' : decide (1000 < x.f4) = true := decide_eq_true b2
                have hSF : seenF (c :: l) [] = none := by have h := HS.out; rw [if_pos (by omega)] at h; exact h.symm
                have HE3 := HE2.out
                rw [hSF] at HE3
                obtain rfl := Option.some.inj HE3
                go_wp2
                go_ret
                exact ⟨rfl, RB.out.alloc RB.out.size _⟩
              · have b2' : decide (1000 < x.f4) = false := decide_eq_false b2
                by_cases b3 : x.f5 < 1
                · have b3' : decide (x.f5 < 1) = true := decide_eq_true b3
                  have hSF : seenF (c :: l) [] = none := by have h := HS.out; rw [if_pos (by omega)] at h; exact h.symm
                  have HE3 := HE2.out
                  rw [hSF] at HE3
                  obtain rfl := Option.some.inj HE3
                  go_wp2
                  go_ret
                  exact ⟨rfl, RB.out.alloc RB.out.size _⟩
                · have b3' : decide (x.f5 < 1) = false := decide_eq_false b3
                  by_cases b4 : 1000 < x.f5
                  · have b4' : decide (1000 < x.f5) = true := decide_eq_true b4
                    have hSF : seenF (c :: l) [] = none := by have h := HS.out; rw [if_pos (by omega)] at h; exact h.symm
                    have HE3 := HE2.out
                    rw [hSF] at HE3
                    obtain rfl := Option.some.inj HE3
                    go_wp2
                    go_ret
                    exact ⟨rfl, RB.out.alloc RB.out.size _⟩
                  · have b4' : decide (1000 < x.f5) = false := decide_eq_false b4
                    have HS1 := HS.out
                    rw [if_neg (by omega)] at HS1
                    clear HS b1 b2 b3 b4
                    by_cases kx : x.f1 = 1
                    · have kx' : (x.f1 == 1) = true := beq_iff_eq.mpr kx
                      rw [if_pos kx] at HS1
                      clear kx
                      by_cases hid : idB x.f6 = false
                      · rw [if_pos (Or.inl hid)] at HS1
                        have HE3 := HE2.out
                        rw [← HS1] at HE3
                        obtain rfl := Option.some.inj HE3
                        go_wp2_with (go_at_call 50; refine (id_calls x.f6 false hid _).mono ?_; rintro e w' ⟨rfl, hw⟩; rw [hw]; clear hw w')
                        go_ret
                        exact ⟨rfl, RB.out.alloc RB.out.size _⟩
                      · have hid1 : idB x.f6 = true := by simpa using hid
                        obtain ⟨cv, hrun, hat, _⟩ := (RM.out.alloc (.cells #[.int .i64 x.f0, .int .i64 x.f1, .int .i64 x.f2, .int .i64 x.f3, .int .i64 x.f4, .int .i64 x.f5, .int .i64 x.f6] 45 (0, 0))).lookup_int law_int Tryd.underlying67 Tryd.underlying3 (zero_int _) (keyOf_int_mk Tryd.underlying3 (id_wf hid1))
                        rw [seenD_at] at hat
                        by_cases hmem : x.f6 ∈ S
                        · rw [if_pos hmem] at hat
                          rw [if_pos (Or.inr hmem)] at HS1
                          obtain rfl : cv = 1 := by injection hat with h; injection h with _ h; exact h.symm
                          have HE3 := HE2.out
                          rw [← HS1] at HE3
                          obtain rfl := Option.some.inj HE3
                          clear hat hmem
                          go_wp2_with (go_at_call 50; refine (id_calls x.f6 true hid1 _).mono ?_; rintro e w' ⟨rfl, hw⟩; rw [hw]; clear hw w')
                          go_ret
                          exact ⟨rfl, RB.out.alloc RB.out.size _⟩
                        · rw [if_neg hmem] at hat
                          rw [if_neg (by rw [hid1]; simp [hmem])] at HS1
                          obtain rfl : cv = 0 := by injection hat with h; injection h with _ h; exact h.symm
                          have HS2 := Lib.hid HS1
                          have HM := Lib.hid hmem
                          have MW := Lib.hid (RM.out.alloc (.cells #[.int .i64 x.f0, .int .i64 x.f1, .int .i64 x.f2, .int .i64 x.f3, .int .i64 x.f4, .int .i64 x.f5, .int .i64 x.f6] 45 (0, 0)))
                          have HK := Lib.hid (keyOf_int_mk Tryd.underlying3 (id_wf hid1))
                          clear HS1 hmem hid hat
                          go_wp2_with (first
                            | (go_at_call 50; refine (id_calls x.f6 true hid1 _).mono ?_; rintro e w' ⟨rfl, hw⟩; rw [hw]; clear hw w')
                            | (at_mapUpdate; refine wpList_mapUpdate_own _ rfl _ _ _ 67 rfl 3 3 law_int Tryd.underlying67 _ w.heap.size i _ rfl MW.out (by have := RI.out; unfold maxLen; omega) _ _ _ rfl rfl HK.out _ [] (plainElem_int Tryd.underlying3 (by decide)) ?_; intro w1 hown1 hgrow1))
                          have hw1 : wrap64 (z + 1) = ((i + 1 : Nat) : Int) := by
                            have := HZ.out
                            have := RI.out
                            exact (IntWalk.wrap64_in _ (by omega)).trans (by omega)
                          go_roundg gk
                          case measure => omega
                          case rel =>
                            refine ⟨wrap64 (z + 1), i + 1, x.f6 :: S, rfl, ⟨hw1⟩, ⟨by have := RI.out; omega⟩, ⟨HS2.out⟩, ⟨List.nodup_cons.2 ⟨HM.out, RD.out.1⟩, by have := RD.out.2; simp; omega⟩, ⟨hown1⟩, ⟨?_⟩⟩
                            exact (RB.out.alloc RB.out.size _).grown hgrow1 (RB.out.alloc RB.out.size (.cells #[.int .i64 x.f0, .int .i64 x.f1, .int .i64 x.f2, .int .i64 x.f3, .int .i64 x.f4, .int .i64 x.f5, .int .i64 x.f6] 45 (0, 0))).size (fun j hj => by cases hj; exact Nat.le_refl _)
                    · have kx' : (x.f1 == 1) = false := beq_eq_false_iff_ne.mpr kx
                      rw [if_neg kx] at HS1
                      clear kx
                      by_cases h6 : x.f6 = 0
                      · have h6' : (x.f6 != 0) = false := bne_eq_false_iff_eq.mpr h6
                        by_cases hkd : kindB x.f1 = false
                        · rw [if_pos (Or.inr hkd)] at HS1
                          have HE3 := HE2.out
                          rw [← HS1] at HE3
                          obtain rfl := Option.some.inj HE3
                          clear h6
                          go_wp2_with (go_at_call 51; refine (kindOf_calls x.f1 false hkd _).mono ?_; rintro e w' ⟨rfl, hw⟩; rw [hw]; clear hw w')
                          go_ret
                          exact ⟨rfl, RB.out.alloc RB.out.size _⟩
                        · have hkd1 : kindB x.f1 = true := by simpa using hkd
                          rw [if_neg (by rw [hkd1, h6]; simp)] at HS1
                          have HS2 := Lib.hid HS1
                          clear HS1 h6 hkd
                          go_wp2_with (go_at_call 51; refine (kindOf_calls x.f1 true hkd1 _).mono ?_; rintro e w' ⟨rfl, hw⟩; rw [hw]; clear hw w')
                          have hw1 : wrap64 (z + 1) = ((i + 1 : Nat) : Int) := by
                            have := HZ.out
                            have := RI.out
                            exact (IntWalk.wrap64_in _ (by omega)).trans (by omega)
                          go_roundg gk
                          case measure => omega
                          case rel =>
                            exact ⟨wrap64 (z + 1), i + 1, S, rfl, ⟨hw1⟩, ⟨by have := RI.out; omega⟩, ⟨HS2.out⟩, ⟨RD.out.1, by have := RD.out.2; omega⟩, ⟨(RM.out.alloc _).mono (by omega)⟩, ⟨RB.out.alloc RB.out.size _⟩⟩
                      · have h6' : (x.f6 != 0) = true := bne_iff_ne.mpr h6
                        rw [if_pos (Or.inl h6)] at HS1
                        have HE3 := HE2.out
                        rw [← HS1] at HE3
                        obtain rfl := Option.some.inj HE3
                        clear h6
                        go_wp2
                        go_ret
                        exact ⟨rfl, RB.out.alloc RB.out.size _⟩
end Go.Proofs.YtmpnkckaohfflaaDoor.PGiv
end
section
namespace Go.Proofs.YtmpnkckaohfflaaDoor.PGiv
open Go.RowKit Go.Proofs.YtmpnkckaohfflaaDoorW.PrintWords Go.Proofs.YtmpnkckaohfflaaDoorW.PrintLast Go.Proofs.YtmpnkckaohfflaaDoorW.PrintMore Go.Proofs.YtmpnkckaohfflaaDoor.K
set_option linter.unusedVariables false
set_option linter.unusedSimpArgs false
def WrBlk (b : Nat) (sl : Value) (n : Int) (p v : Value) (w : World) : Prop := w.heap[b]? = some (.cells #[sl, .int .i64 n, p, v] 53 (0, 0))
abbrev bdr (b : Nat) : Value := .pointer (some ⟨b, 2, none⟩)
def WrAt (b : Nat) (sl : Value) (n : Int) (txt : List UInt8) (w : World) : Prop := ∃ p v, (p = .pointer none ∨ p = bdr b) ∧ WrBlk b sl n p v w ∧ w.ownsRow (b + 1) 5 1 v txt.length (Lib.byteCells txt)
theorem sizeB : (Tryd.prog.info? 51).map (·.size) = some 2 := by kernel_rfl
theorem liesB : liesAt Tryd.prog Tryd.prog.depth 53 (4 / Tryd.prog.cellsOf 53) 2 51 1 = true := by kernel_rfl
theorem info_u8 : (Tryd.prog.info? 5).map (fun i => (i.zero, i.size, i.bytes)) = some (some (.int .u8 0), 1, 1) := by kernel_rfl
set_option maxHeartbeats 1000000 in
set_option maxRecDepth 100000 in
theorem wcopy_used (b : Nat) (sl : Value) (n : Int) (v : Value) (w : World) (h : WrBlk b sl n (bdr b) v w) :
    Calls Tryd.prog 61 #[bdr b] w fun e w' => e = .returned (.tuple #[]) ∧ w' = w := by
  obtain ⟨j, hj, _⟩ := Option.map_eq_some_iff.1 sizeB
  have h0 : w.cell? ⟨b, 2, none⟩ = some (bdr b) := (blk_cell h 2).trans rfl
  go_enter Tryd.func61, Tryd.ntmps61
  go_wp2
  rw [Lib.run_neq_ptr_same w _ Tryd.underlying49 hj]
  go_wp2
  go_end0
  exact ⟨rfl, rfl⟩
set_option maxHeartbeats 1000000 in
set_option maxRecDepth 100000 in
theorem wcopy_fresh (b : Nat) (sl : Value) (n : Int) (v : Value) (w : World) (h : WrBlk b sl n (.pointer none) v w) :
    Calls Tryd.prog 61 #[bdr b] w fun e w' => e = .returned (.tuple #[]) ∧ w' = w.setCell ⟨b, 2, none⟩ (bdr b) := by
  obtain ⟨j, hj, hjs⟩ := Option.map_eq_some_iff.1 sizeB
  have h0 : w.cell? ⟨b, 2, none⟩ = some (.pointer none) := (blk_cell h 2).trans rfl
  have hfz : w.frozen? ⟨b, 2, none⟩ = false := blk_frozen h 2
  have hsh : w.shape? b = some (53, 4) := by
    have h' : w.heap[b]? = some (.cells #[sl, .int .i64 n, .pointer none, v] 53 (0, 0)) := h
    simp [World.shape?, h']
  go_enter Tryd.func61, Tryd.ntmps61
  go_wp2
  rw [Lib.run_to_unsafe w ⟨b, 2, none⟩ Tryd.underlying49 Tryd.underlying128 hj (by rw [hjs]; decide) hsh (by show 2 < 4; omega)]
  simp only [Result.andThen]
  rw [Oper.upon_value]
  go_wp2
  rw [run_callFunc_extern Tryd.func72 (by kernel_rfl) (by kernel_rfl) (by kernel_rfl) (e := Extern.AbiNoEscape.same) (by kernel_rfl)]
  rw [Lib.run_noEscape]
  simp only [Result.andThen]
  rw [Oper.upon_value]
  go_wp2
  rw [Lib.run_from_unsafe w ⟨b, 2, none⟩ Tryd.underlying128 Tryd.underlying49 hj hsh liesB]
  simp only [Result.andThen]
  rw [Oper.upon_value]
  go_wp2
  go_end0
  exact ⟨rfl, rfl⟩
theorem wcopy (b : Nat) (sl : Value) (n : Int) (txt : List UInt8) (w : World) (h : WrAt b sl n txt w) :
    Calls Tryd.prog 61 #[bdr b] w fun e w' => e = .returned (.tuple #[]) ∧ (∃ v, WrBlk b sl n (bdr b) v w' ∧ w'.ownsRow (b + 1) 5 1 v txt.length (Lib.byteCells txt)) ∧ Below b w w' ∧ Lib.OthersKept 5 (some b) w w' := by
  obtain ⟨p, v, rfl | rfl, hb, ho⟩ := h
  · refine (wcopy_fresh b sl n v w hb).mono ?_
    rintro e w' ⟨rfl, rfl⟩
    refine ⟨rfl, ⟨v, blk_put hb 2 (bdr b) rfl, own_move ho (fun k hk => ?_)⟩, (Below.refl _ _).setCell (p := ⟨b, 2, none⟩) (Nat.le_refl _) _, (Lib.OthersKept.refl _ _ _).setCell ⟨b, 2, none⟩ rfl _⟩
    exact Below.heap_setCell _ _ _ k (by have := own_base ho k hk; show k ≠ b; omega)
  · refine (wcopy_used b sl n v w hb).mono ?_
    rintro e w' ⟨rfl, rfl⟩
    exact ⟨rfl, ⟨v, hb, ho⟩, Below.refl _ _, Lib.OthersKept.refl _ _ _⟩
set_option maxHeartbeats 2000000 in
set_option maxRecDepth 100000 in
theorem wstr (b : Nat) (sl : Value) (n : Int) (txt : List UInt8) (s : ByteArray) (w : World) (h : WrAt b sl n txt w) (hlen : txt.length + s.size ≤ 140737488355328) :
    Calls Tryd.prog 37 #[bdr b, .string s] w fun e w' => e = .returned (.tuple #[.int .i64 s.size, .nilIface]) ∧ WrAt b sl n (txt ++ s.data.toList) w' ∧ Below b w w' ∧ Lib.OthersKept 5 (some b) w w' := by
  obtain ⟨i0, hi, hz⟩ := Option.map_eq_some_iff.1 info_u8
  simp only [Prod.mk.injEq] at hz
  obtain ⟨hz0, hz1, hz2⟩ := hz
  have HW := Lib.hid (wcopy b sl n txt w h)
  go_enter Tryd.func37, Tryd.ntmps37
  go_wp2_with (go_at_call 61; refine (HW.out).mono ?_)
  rintro e w1 ⟨rfl, ⟨v, hbk, hown⟩, hb1, hk1⟩
  have c1 : w1.cell? ⟨b, 3, none⟩ = some v := (blk_cell hbk 3).trans rfl
  have hbn : b < w1.heap.size := blk_lt hbk
  go_wp2_with (at_builtin; refine Lib.wpList_append_own_string _ rfl _ _ 37 9 rfl (b + 1) 5 i0 Tryd.underlying37 Tryd.underlying9 hi hz0 hz1 hz2 _ _ _ rfl hown s rfl ?c3 ?c4 ?c5 ?_)
  case c3 => unfold maxLen; omega
  case c4 => omega
  case c5 => omega
  intro v' w2 hown' hgrow _
  have hne : some b ≠ v.ownBlock := fun e => by have := own_base hown b e.symm; omega
  have hb2 : WrBlk b sl n (bdr b) v w2 := (hgrow.block b hbn hne).trans hbk
  have d1 : w2.cell? ⟨b, 3, none⟩ = some v := (blk_cell hb2 3).trans rfl
  have f1 : w2.frozen? ⟨b, 3, none⟩ = false := blk_frozen hb2 3
  obtain ⟨ao, n', cap, rfl⟩ : ∃ ao n' cap, v' = .slice ao n' cap := by
    rcases hown'.2 with ⟨hv, _⟩ | ⟨g, cap, cur, hv, _⟩
    · exact ⟨_, _, _, hv⟩
    · exact ⟨_, _, _, hv⟩
  have F := Lib.hid (And.intro hbk (And.intro hown (And.intro hb1 (And.intro hk1 (And.intro hown' hgrow)))))
  clear hbk hown hb1 hk1 hown' hgrow hne
  go_wp2
  go_ret2
  obtain ⟨hbk, hown, hb1, hk1, hown', hgrow⟩ := F.out
  refine ⟨rfl, ⟨bdr b, _, .inr rfl, blk_put hb2 3 _ rfl, ?_⟩, ?_, ?_⟩
  · have := own_move (w1 := w2.setCell ⟨b, 3, none⟩ (.slice ao n' cap)) hown' (fun k hk => Below.heap_setCell _ _ _ k (by have := own_base hown' k hk; show k ≠ b; omega))
    simpa [Lib.byteCells, Lib.strCells] using this
  · exact (hb1.grown hgrow (Nat.le_of_lt hbn) (fun k hk => by have := own_base hown k hk; omega)).setCell (p := ⟨b, 3, none⟩) (Nat.le_refl _) _
  · refine (hk1.grown hgrow (fun g hg => ?_)).setCell ⟨b, 3, none⟩ rfl _
    obtain ⟨cells, hc⟩ := own_typed hown g hg
    exact ⟨cells, _, hc⟩
set_option maxHeartbeats 2000000 in
set_option maxRecDepth 100000 in
theorem wbyte (b : Nat) (sl : Value) (n : Int) (txt : List UInt8) (c : UInt8) (w : World) (h : WrAt b sl n txt w) (hlen : txt.length + 1 ≤ 140737488355328) :
    Calls Tryd.prog 39 #[bdr b, .int .u8 c.toNat] w fun e w' => e = .returned .nilIface ∧ WrAt b sl n (txt ++ [c]) w' ∧ Below b w w' ∧ Lib.OthersKept 5 (some b) w w' := by
  obtain ⟨i0, hi, hz⟩ := Option.map_eq_some_iff.1 info_u8
  simp only [Prod.mk.injEq] at hz
  obtain ⟨hz0, hz1, hz2⟩ := hz
  have HW := Lib.hid (wcopy b sl n txt w h)
  go_enter Tryd.func39, Tryd.ntmps39
  go_wp2_with (go_at_call 61; refine (HW.out).mono ?_)
  rintro e w1 ⟨rfl, ⟨v, hbk, hown⟩, hb1, hk1⟩
  have c1 : w1.cell? ⟨b, 3, none⟩ = some v := (blk_cell hbk 3).trans rfl
  have hbn : b < w1.heap.size := blk_lt hbk
  go_wp2_with (at_builtin; refine wpList_append_own _ rfl _ _ 37 rfl (b + 1) 5 i0 (.int .u8 0) 1 1 Tryd.underlying37 hi hz0 hz1 hz2 rfl (by decide) _ _ _ rfl (own_move hown (fun k hk => Below.heap_alloc _ _ k (own_lt hown k hk))) ⟨w1.heap.size, 0, none⟩ 1 1 [.int .u8 c.toNat] rfl rfl ?c1 ?c2 ?c3 ?c4 ?c5 ?_)
  case c1 =>
    intro j u hj
    match j, hj with
    | 0, hj => simp at hj; subst hj; simp [Addr.add]
  case c2 => intro u hu; simp at hu; subst hu; rfl
  case c3 => unfold maxLen; omega
  case c4 => omega
  case c5 => simp; omega
  intro v' w2 hown' hgrow _
  have hne : some b ≠ v.ownBlock := fun e => by have := own_base hown b e.symm; omega
  have hb2 : WrBlk b sl n (bdr b) v w2 := (hgrow.block b (by simp; omega) hne).trans ((Below.heap_alloc _ _ b hbn).trans hbk)
  have d1 : w2.cell? ⟨b, 3, none⟩ = some v := (blk_cell hb2 3).trans rfl
  have f1 : w2.frozen? ⟨b, 3, none⟩ = false := blk_frozen hb2 3
  obtain ⟨ao, n', cap, rfl⟩ : ∃ ao n' cap, v' = .slice ao n' cap := by
    rcases hown'.2 with ⟨hv, _⟩ | ⟨g, cap, cur, hv, _⟩
    · exact ⟨_, _, _, hv⟩
    · exact ⟨_, _, _, hv⟩
  have F := Lib.hid (And.intro hbk (And.intro hown (And.intro hb1 (And.intro hk1 (And.intro hown' hgrow)))))
  clear hbk hown hb1 hk1 hown' hgrow hne
  go_wp2
  go_ret
  obtain ⟨hbk, hown, hb1, hk1, hown', hgrow⟩ := F.out
  refine ⟨rfl, ⟨bdr b, _, .inr rfl, blk_put hb2 3 _ rfl, ?_⟩, ?_, ?_⟩
  · have := own_move (w1 := w2.setCell ⟨b, 3, none⟩ (.slice ao n' cap)) hown' (fun k hk => Below.heap_setCell _ _ _ k (by have := own_base hown' k hk; show k ≠ b; omega))
    simpa [Lib.byteCells] using this
  · exact ((hb1.alloc (Nat.le_of_lt hbn) _).grown hgrow (by simp; omega) (fun k hk => by have := own_base hown k hk; omega)).setCell (p := ⟨b, 3, none⟩) (Nat.le_refl _) _
  · refine ((hk1.alloc _).grown hgrow (fun g hg => ?_)).setCell ⟨b, 3, none⟩ rfl _
    obtain ⟨cells, hc⟩ := own_typed hown g hg
    exact ⟨cells, _, (Below.heap_alloc _ _ g (own_lt hown g hg)).trans hc⟩
set_option maxHeartbeats 1000000 in
set_option maxRecDepth 100000 in
theorem wtext (b : Nat) (sl : Value) (n : Int) (l : List UInt8) (w : World) (h : WrAt b sl n l w) (h0 : l ≠ []) :
    Calls Tryd.prog 23 #[bdr b] w fun e w' => e = .returned (.string ⟨l.toArray⟩) ∧ Below b w w' := by
  obtain ⟨p, v, _, hbk, hown⟩ := h
  have hl0 : l.length ≠ 0 := by simpa using h0
  obtain ⟨g, cap, cur, rfl, hbg, hg, hnc, hcm, hcs, htake⟩ : ∃ g cap cur, v = .slice (some ⟨g, 0, none⟩) l.length cap ∧ b + 1 ≤ g ∧ w.heap[g]? = some (.cells cur 5 (0, 0)) ∧ l.length ≤ cap ∧ cap ≤ maxLen ∧ cur.size = cap * 1 ∧ cur.toList.take (l.length * 1) = Lib.byteCells l := by
    rcases hown.2 with ⟨_, hz⟩ | ⟨g, cap, cur, hv, r⟩
    · exact absurd hz hl0
    · exact ⟨g, cap, cur, hv, r⟩
  have c1 : w.drew.cell? ⟨b, 3, none⟩ = some (.slice (some ⟨g, 0, none⟩) l.length cap) := by
    have : w.drew.heap[b]? = some (.cells #[sl, .int .i64 n, p, .slice (some ⟨g, 0, none⟩) l.length cap] 53 (0, 0)) := hbk
    rw [Lib.cell_of_heap this]; rfl
  have hSD : (Builtin.unsafeSliceData_ #[37] 80 #[.slice (some ⟨g, 0, none⟩) l.length cap]).run Tryd.prog w.drew = .ok (.pointer (some ⟨g, 0, none⟩)) w.drew :=
    Lib.run_unsafeSliceData_row _ _ _ _ _ _ (by omega)
  have hUS : (Builtin.unsafeString_ #[80, 3] 9 #[.pointer (some ⟨g, 0, none⟩), .int .i64 l.length]).run Tryd.prog w.drew = .ok (.string ⟨l.toArray⟩) (w.drew.freeze ⟨g, 0, none⟩ l.length) := by
    refine Lib.run_unsafeString_row w.drew 80 3 9 5 Tryd.underlying80 (by kernel_rfl) g cur.size (by have hg' : w.drew.heap[g]? = some (.cells cur 5 (0, 0)) := hg; simp [World.shape?, hg']) l h0 (by omega) (by unfold maxLen at hcm; omega) ?_
    intro j x hx
    have := hown.cells (g := g) rfl j (.int .u8 x.toNat) (by simp [Lib.byteCells, hx])
    exact this
  go_enter Tryd.func23, Tryd.ntmps23
  go_wp2
  go_region
  all_goals (go_wp2; go_ret; exact ⟨rfl, Lib.below_freeze (Below.drew (Below.refl b w)) (p := ⟨g, 0, none⟩) (by show b ≤ g; omega) _⟩)
end Go.Proofs.YtmpnkckaohfflaaDoor.PGiv
end
