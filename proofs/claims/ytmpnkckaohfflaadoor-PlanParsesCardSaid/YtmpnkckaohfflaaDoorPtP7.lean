/- Of the texts of this claim, what it needs, put together by a program of this claim's author. Conditions: as each theorem says. -/
import Derived.Stop.LaidErr
import Derived.Test.YtmpnkckaohfflaaDoorCards
import Derived.Test.YtmpnkckaohfflaaDoorTie
import Derived.WalkKit
import Derived.ProofKit
import Derived.OpenShut
import Derived.ShutString
import Derived.ChangeOld
import Derived.Below
import Derived.SizedLaws
import Derived.JoinedCond
import Derived.Deep.DeepHandedRow
import Derived.Lib.LaidTab
import Derived.Test.YtmpnkckaohfflaaDoorPtP6
section
namespace Go.Proofs.YtmpnkckaohfflaaDoor.V
open Go.Proofs.YtmpnkckaohfflaaDoor.K Go.Proofs.YtmpnkckaohfflaaDoor.L Go.RowKit Go.Proofs.YtmpnkckaohfflaaDoorW.PrintWords Go.Proofs.YtmpnkckaohfflaaDoorW.PrintLast Go.Proofs.YtmpnkckaohfflaaDoorW.PrintMore Go.Proofs.YtmpnkckaohfflaaDoor.PGiv
attribute [local go_sem] max2_int min2_int max_two min_two max_three min_three max_four min_four
set_option linter.unusedVariables false
set_option linter.unusedSimpArgs false
mutual
def mullionref05_Parse.j0 : Nat → ByteArray → Bool → Option ((List (S45)) × Int)
 | 0, _, _ => none
 | k + 1, x0, x41 => if x41 = true then (some (([] : List (S45)), 50)) else (if 5 ≤ (x0.size : Int) then ((mullionref05_Sum.f k (x0.extract 5 x0.size)).bind fun t203 => ((mullionref05_four.f t203).bind fun t204 => (if 0 ≤ 4 then (if 4 ≤ (x0.size : Int) then (if t204.toList = (x0.extract 0 4).toList then ((mullionref05_cell.f k (x0.extract 5 x0.size) 0).bind fun bt205 => (if bt205.2.2 = true then (mullionref05_Parse.j1 k bt205.1 (bt205.2.1.toList != ([] : List UInt8))) else (mullionref05_Parse.j1 k bt205.1 true))) else (some (([] : List (S45)), 51))) else (none)) else (none)))) else (none))
def mullionref05_Parse.j1 : Nat → List (S45) → Bool → Option ((List (S45)) × Int)
 | 0, _, _ => none
 | k + 1, x4, x61 => if x61 = true then (some (([] : List (S45)), 50)) else ((mullionref04_Check.f k x4).bind fun t210 => (if t210 = 0 then (some (x4, 0)) else (some (([] : List (S45)), 40))))
end
def mullionref05_Parse.f (k : Nat) (a0 : ByteArray) : Option ((List (S45)) × Int) := if (a0.size : Int) > 2048 then (some (([] : List (S45)), 2)) else (if (a0.size : Int) < 5 then (mullionref05_Parse.j0 k a0 true) else (if 0 < (a0.size : Int) then ((mullionref05_hex.f (bt a0 0)).bind fun t199 => (if t199 = true then (if 1 < (a0.size : Int) then ((mullionref05_hex.f (bt a0 1)).bind fun t200 => (if t200 = true then (if 2 < (a0.size : Int) then ((mullionref05_hex.f (bt a0 2)).bind fun t201 => (if t201 = true then (if 3 < (a0.size : Int) then ((mullionref05_hex.f (bt a0 3)).bind fun t202 => (if t202 = true then (if 4 < (a0.size : Int) then (mullionref05_Parse.j0 k a0 ((bt a0 4) != 44)) else (none)) else (mullionref05_Parse.j0 k a0 true))) else (none)) else (mullionref05_Parse.j0 k a0 true))) else (none)) else (mullionref05_Parse.j0 k a0 true))) else (none)) else (mullionref05_Parse.j0 k a0 true))) else (none)))
theorem mullionref05_Parse.mono_l : ∀ k, (∀ y0 y1, LeO (mullionref05_Parse.j0 k y0 y1) (mullionref05_Parse.j0 (k + 1) y0 y1)) ∧ (∀ y0 y1, LeO (mullionref05_Parse.j1 k y0 y1) (mullionref05_Parse.j1 (k + 1) y0 y1))
 | 0 => ⟨fun _ _ r h => by simp [mullionref05_Parse.j0] at h, fun _ _ r h => by simp [mullionref05_Parse.j1] at h⟩
 | k + 1 => by
   obtain ⟨ih0, ih1⟩ := mullionref05_Parse.mono_l k
   refine ⟨?_, ?_⟩
   · intro y0 y1
     unfold mullionref05_Parse.j0
     repeat' first
     | (with_reducible exact ih0 _ _)
     | (with_reducible exact ih1 _ _)
     | (with_reducible exact mullionref04_Check.mono _ _)
     | (with_reducible exact mullionref05_Sum.mono _ _)
     | (with_reducible exact mullionref05_cell.mono _ _ _)
     | (with_reducible exact LeO.refl _)
     | (with_reducible exact LeO.none _)
     | (with_reducible refine LeO.ite ?_ ?_)
     | (with_reducible refine LeO.bind ?_ (fun _ => ?_))
     | exact ih0 _ _
     | exact ih1 _ _
     | exact mullionref04_Check.mono _ _
     | exact mullionref05_Sum.mono _ _
     | exact mullionref05_cell.mono _ _ _
     | exact LeO.none _
     | refine LeO.ite ?_ ?_
     | refine LeO.bind ?_ (fun _ => ?_)
   · intro y0 y1
     unfold mullionref05_Parse.j1
     repeat' first
     | (with_reducible exact ih0 _ _)
     | (with_reducible exact ih1 _ _)
     | (with_reducible exact mullionref04_Check.mono _ _)
     | (with_reducible exact mullionref05_Sum.mono _ _)
     | (with_reducible exact mullionref05_cell.mono _ _ _)
     | (with_reducible exact LeO.refl _)
     | (with_reducible exact LeO.none _)
     | (with_reducible refine LeO.ite ?_ ?_)
     | (with_reducible refine LeO.bind ?_ (fun _ => ?_))
     | exact ih0 _ _
     | exact ih1 _ _
     | exact mullionref04_Check.mono _ _
     | exact mullionref05_Sum.mono _ _
     | exact mullionref05_cell.mono _ _ _
     | exact LeO.none _
     | refine LeO.ite ?_ ?_
     | refine LeO.bind ?_ (fun _ => ?_)
theorem mullionref05_Parse.mono : ∀ a0 k, LeO (mullionref05_Parse.f k a0) (mullionref05_Parse.f (k + 1) a0) := by
 intro a0 k
 obtain ⟨ih0, ih1⟩ := mullionref05_Parse.mono_l k
 unfold mullionref05_Parse.f
 repeat' first
     | (with_reducible exact ih0 _ _)
     | (with_reducible exact ih1 _ _)
     | (with_reducible exact mullionref04_Check.mono _ _)
     | (with_reducible exact mullionref05_Sum.mono _ _)
     | (with_reducible exact mullionref05_cell.mono _ _ _)
     | (with_reducible exact LeO.refl _)
     | (with_reducible exact LeO.none _)
     | (with_reducible refine LeO.ite ?_ ?_)
     | (with_reducible refine LeO.bind ?_ (fun _ => ?_))
     | exact ih0 _ _
     | exact ih1 _ _
     | exact mullionref04_Check.mono _ _
     | exact mullionref05_Sum.mono _ _
     | exact mullionref05_cell.mono _ _ _
     | exact LeO.none _
     | refine LeO.ite ?_ ?_
     | refine LeO.bind ?_ (fun _ => ?_)
set_option maxHeartbeats 8000000 in
set_option maxRecDepth 100000 in
theorem mullionref05_Parse.calls (k : Nat) (a0 : ByteArray) (r1 : List (S45)) (r2 : Int) (w : World) (h : mullionref05_Parse.f k a0 = some (r1, r2)) :
   Calls Tryd.prog 16 #[.string a0] w fun e w' => ∃ v0_ : Value, e = .returned (.tuple #[v0_, .int .i64 r2]) ∧ Kd.R k45 45 w' w.heap.size (fun _ => True) v0_ r1 ∧ Below w.heap.size w w' := by
 have HB := Aside0.mk (Below.refl w.heap.size w)
 have H : (if (a0.size : Int) > 2048 then (some (([] : List (S45)), 2)) else (if (a0.size : Int) < 5 then (mullionref05_Parse.j0 k a0 true) else (if 0 < (a0.size : Int) then ((mullionref05_hex.f (bt a0 0)).bind fun t199 => (if t199 = true then (if 1 < (a0.size : Int) then ((mullionref05_hex.f (bt a0 1)).bind fun t200 => (if t200 = true then (if 2 < (a0.size : Int) then ((mullionref05_hex.f (bt a0 2)).bind fun t201 => (if t201 = true then (if 3 < (a0.size : Int) then ((mullionref05_hex.f (bt a0 3)).bind fun t202 => (if t202 = true then (if 4 < (a0.size : Int) then (mullionref05_Parse.j0 k a0 ((bt a0 4) != 44)) else (none)) else (mullionref05_Parse.j0 k a0 true))) else (none)) else (mullionref05_Parse.j0 k a0 true))) else (none)) else (mullionref05_Parse.j0 k a0 true))) else (none)) else (mullionref05_Parse.j0 k a0 true))) else (none)))) = some (r1, r2) := h
 clear h
 by_cases c2 : (a0.size : Int) > 2048
 · rw [if_pos c2] at H
   have c2b0 : decide (2048 < (a0.size : Int)) = true := decide_eq_true c2
   have c2b1 : decide (2048 < a0.size) = true := decide_eq_true (by omega)
   clear c2
   simp only [Option.some.injEq, Prod.mk.injEq] at H
   obtain ⟨rfl, rfl⟩ := H
   go_enter Tryd.func16, Tryd.ntmps16
   go_wp2
   repeat (go_quiet (fail); try go_wp2)
   go_ret2
   exact ⟨_, by first | rfl | (simp [errW_none, errW_some] <;> rfl) | (simp [*, errW_none, errW_some] <;> rfl), by first | exact Kd.R_nil _ _ _ _ _ | exact Kd.N_nil _ _ _ _ _ | exact Kd.V_nil _ _ _ _ _ | exact Kd.Q_nil _ _ _ _ _ | exact Kd.S_nil _ _ _ _ _, by repeat (first | (with_reducible first | exact HB.out | apply below_alloc | apply pw_below_drewN | apply below_drew1) | exact HB.out)⟩
 · rw [if_neg c2] at H
   have c2b0 : decide (2048 < (a0.size : Int)) = false := decide_eq_false c2
   have c2b1 : decide (2048 < a0.size) = false := decide_eq_false (by omega)
   clear c2
   have HC3 := Aside0.mk H
   clear H
   go_enter Tryd.func16, Tryd.ntmps16
   go_upto_region 3 with (fail)
   repeat (go_quiet (fail); go_upto_region 3 with (fail))
   go_cut [41] (fun v41 wc => ∃ (kq : Nat) (x41_2 : Bool), v41 = .bool x41_2 ∧ Aside0 (mullionref05_Parse.j0 kq a0 x41_2 = some (r1, r2)) ∧ Aside0 (kq ≤ k) ∧ Aside0 (Below w.heap.size w wc))
   case first =>
     have H := HC3.out
     clear HC3
     by_cases c4 : (a0.size : Int) < 5
     · rw [if_pos c4] at H
       have c4b0 : decide ((a0.size : Int) < 5) = true := decide_eq_true c4
       have c4b1 : decide (a0.size < 5) = true := decide_eq_true (by omega)
       clear c4
       (first | rw [c4b0] | (simp only [i64_w, i32_w]; rw [c4b0]) | skip)
       have H' := Aside0.mk H
       clear H
       go_wp2
       repeat (go_quiet (fail); try go_wp2)
       go_meet
       case rel => exact ⟨_, (true), (by first | rfl | (simp; done) | (simp [*]; done)), H', ⟨by first | omega | exact Nat.le_refl _⟩, ⟨by repeat (first | (with_reducible first | exact HB.out | apply below_alloc | apply pw_below_drewN | apply below_drew1) | exact HB.out)⟩⟩
     · rw [if_neg c4] at H
       have c4b0 : decide ((a0.size : Int) < 5) = false := decide_eq_false c4
       have c4b1 : decide (a0.size < 5) = false := decide_eq_false (by omega)
       clear c4
       (first | rw [c4b0] | (simp only [i64_w, i32_w]; rw [c4b0]) | skip)
       by_cases c5 : 0 < (a0.size : Int)
       · rw [if_pos c5] at H
         have c5b0 : decide (0 < (a0.size : Int)) = true := decide_eq_true c5
         have c5b1 : decide (0 < a0.size) = true := decide_eq_true (by omega)
         clear c5
         replace H := Option.bind_eq_some_iff.mp H
         obtain ⟨t199, A70, H⟩ := H
         replace H : (if t199 = true then (if 1 < (a0.size : Int) then ((mullionref05_hex.f (bt a0 1)).bind fun t200 => (if t200 = true then (if 2 < (a0.size : Int) then ((mullionref05_hex.f (bt a0 2)).bind fun t201 => (if t201 = true then (if 3 < (a0.size : Int) then ((mullionref05_hex.f (bt a0 3)).bind fun t202 => (if t202 = true then (if 4 < (a0.size : Int) then (mullionref05_Parse.j0 k a0 ((bt a0 4) != 44)) else (none)) else (mullionref05_Parse.j0 k a0 true))) else (none)) else (mullionref05_Parse.j0 k a0 true))) else (none)) else (mullionref05_Parse.j0 k a0 true))) else (none)) else (mullionref05_Parse.j0 k a0 true)) = some (r1, r2) := H
         have A7 := Aside0.mk A70
         clear A70
         by_cases c8 : t199 = true
         · subst c8
           have H1 : (if 1 < (a0.size : Int) then ((mullionref05_hex.f (bt a0 1)).bind fun t200 => (if t200 = true then (if 2 < (a0.size : Int) then ((mullionref05_hex.f (bt a0 2)).bind fun t201 => (if t201 = true then (if 3 < (a0.size : Int) then ((mullionref05_hex.f (bt a0 3)).bind fun t202 => (if t202 = true then (if 4 < (a0.size : Int) then (mullionref05_Parse.j0 k a0 ((bt a0 4) != 44)) else (none)) else (mullionref05_Parse.j0 k a0 true))) else (none)) else (mullionref05_Parse.j0 k a0 true))) else (none)) else (mullionref05_Parse.j0 k a0 true))) else (none)) = some (r1, r2) := by rw [if_pos rfl] at H; exact H
           clear H
           have H := H1
           clear H1
           by_cases c9 : 1 < (a0.size : Int)
           · rw [if_pos c9] at H
             have c9b0 : decide (1 < (a0.size : Int)) = true := decide_eq_true c9
             have c9b1 : decide (1 < a0.size) = true := decide_eq_true (by omega)
             clear c9
             replace H := Option.bind_eq_some_iff.mp H
             obtain ⟨t200, A110, H⟩ := H
             replace H : (if t200 = true then (if 2 < (a0.size : Int) then ((mullionref05_hex.f (bt a0 2)).bind fun t201 => (if t201 = true then (if 3 < (a0.size : Int) then ((mullionref05_hex.f (bt a0 3)).bind fun t202 => (if t202 = true then (if 4 < (a0.size : Int) then (mullionref05_Parse.j0 k a0 ((bt a0 4) != 44)) else (none)) else (mullionref05_Parse.j0 k a0 true))) else (none)) else (mullionref05_Parse.j0 k a0 true))) else (none)) else (mullionref05_Parse.j0 k a0 true)) = some (r1, r2) := H
             have A11 := Aside0.mk A110
             clear A110
             by_cases c12 : t200 = true
             · subst c12
               have H1 : (if 2 < (a0.size : Int) then ((mullionref05_hex.f (bt a0 2)).bind fun t201 => (if t201 = true then (if 3 < (a0.size : Int) then ((mullionref05_hex.f (bt a0 3)).bind fun t202 => (if t202 = true then (if 4 < (a0.size : Int) then (mullionref05_Parse.j0 k a0 ((bt a0 4) != 44)) else (none)) else (mullionref05_Parse.j0 k a0 true))) else (none)) else (mullionref05_Parse.j0 k a0 true))) else (none)) = some (r1, r2) := by rw [if_pos rfl] at H; exact H
               clear H
               have H := H1
               clear H1
               by_cases c13 : 2 < (a0.size : Int)
               · rw [if_pos c13] at H
                 have c13b0 : decide (2 < (a0.size : Int)) = true := decide_eq_true c13
                 have c13b1 : decide (2 < a0.size) = true := decide_eq_true (by omega)
                 clear c13
                 replace H := Option.bind_eq_some_iff.mp H
                 obtain ⟨t201, A150, H⟩ := H
                 replace H : (if t201 = true then (if 3 < (a0.size : Int) then ((mullionref05_hex.f (bt a0 3)).bind fun t202 => (if t202 = true then (if 4 < (a0.size : Int) then (mullionref05_Parse.j0 k a0 ((bt a0 4) != 44)) else (none)) else (mullionref05_Parse.j0 k a0 true))) else (none)) else (mullionref05_Parse.j0 k a0 true)) = some (r1, r2) := H
                 have A15 := Aside0.mk A150
                 clear A150
                 by_cases c16 : t201 = true
                 · subst c16
                   have H1 : (if 3 < (a0.size : Int) then ((mullionref05_hex.f (bt a0 3)).bind fun t202 => (if t202 = true then (if 4 < (a0.size : Int) then (mullionref05_Parse.j0 k a0 ((bt a0 4) != 44)) else (none)) else (mullionref05_Parse.j0 k a0 true))) else (none)) = some (r1, r2) := by rw [if_pos rfl] at H; exact H
                   clear H
                   have H := H1
                   clear H1
                   by_cases c17 : 3 < (a0.size : Int)
                   · rw [if_pos c17] at H
                     have c17b0 : decide (3 < (a0.size : Int)) = true := decide_eq_true c17
                     have c17b1 : decide (3 < a0.size) = true := decide_eq_true (by omega)
                     clear c17
                     replace H := Option.bind_eq_some_iff.mp H
                     obtain ⟨t202, A190, H⟩ := H
                     replace H : (if t202 = true then (if 4 < (a0.size : Int) then (mullionref05_Parse.j0 k a0 ((bt a0 4) != 44)) else (none)) else (mullionref05_Parse.j0 k a0 true)) = some (r1, r2) := H
                     have A19 := Aside0.mk A190
                     clear A190
                     by_cases c20 : t202 = true
                     · subst c20
                       have H1 : (if 4 < (a0.size : Int) then (mullionref05_Parse.j0 k a0 ((bt a0 4) != 44)) else (none)) = some (r1, r2) := by rw [if_pos rfl] at H; exact H
                       clear H
                       have H := H1
                       clear H1
                       by_cases c21 : 4 < (a0.size : Int)
                       · rw [if_pos c21] at H
                         have c21b0 : decide (4 < (a0.size : Int)) = true := decide_eq_true c21
                         have c21b1 : decide (4 < a0.size) = true := decide_eq_true (by omega)
                         clear c21
                         have H' := Aside0.mk H
                         clear H
                         have p6 : 0 ≤ (0 : Int) := (by omega)
                         have q6 : 0 < a0.size := (by have : (0 : Int) < (a0.size : Int) := of_decide_eq_true (by first | (with_reducible assumption) | assumption); omega)
                         have hx6 : ∀ h : 0 < a0.size, ((a0[0]'h).toNat : Int) = bt a0 0 := bt_at a0 0
                         clear p6
                         have qi6 : (0 < (a0.size : Int)) = True := eq_true (of_decide_eq_true (by first | (with_reducible assumption) | assumption))
                         replace q6 := eq_true q6
                         go_wp2_with (first | (go_at_call 31; (with_reducible refine (mullionref05_hex.calls (bt a0 0) true _ A7.out).mono ?_); rintro e w' ⟨rfl, ⟨nd, rfl⟩⟩; (try first | exact ⟨rfl, _, World.drewN_drewN _ _ _⟩ | exact ⟨rfl, _, Eq.trans (World.drewN_drewN _ _ _) (congrArg (World.drewN _) (Nat.add_assoc _ _ _))⟩); have p10 : 0 ≤ (1 : Int) := (by omega); have q10 : 1 < a0.size := (by have : (1 : Int) < (a0.size : Int) := of_decide_eq_true (by first | (with_reducible assumption) | assumption); omega); have hx10 : ∀ h : 1 < a0.size, ((a0[1]'h).toNat : Int) = bt a0 1 := bt_at a0 1; clear p10; have qi10 : (1 < (a0.size : Int)) = True := eq_true (of_decide_eq_true (by first | (with_reducible assumption) | assumption)); replace q10 := eq_true q10) | (go_at_call 31; (with_reducible refine (mullionref05_hex.calls (bt a0 1) true _ A11.out).mono ?_); rintro e w' ⟨rfl, ⟨nd, rfl⟩⟩; (try first | exact ⟨rfl, _, World.drewN_drewN _ _ _⟩ | exact ⟨rfl, _, Eq.trans (World.drewN_drewN _ _ _) (congrArg (World.drewN _) (Nat.add_assoc _ _ _))⟩); have p14 : 0 ≤ (2 : Int) := (by omega); have q14 : 2 < a0.size := (by have : (2 : Int) < (a0.size : Int) := of_decide_eq_true (by first | (with_reducible assumption) | assumption); omega); have hx14 : ∀ h : 2 < a0.size, ((a0[2]'h).toNat : Int) = bt a0 2 := bt_at a0 2; clear p14; have qi14 : (2 < (a0.size : Int)) = True := eq_true (of_decide_eq_true (by first | (with_reducible assumption) | assumption)); replace q14 := eq_true q14) | (go_at_call 31; (with_reducible refine (mullionref05_hex.calls (bt a0 2) true _ A15.out).mono ?_); rintro e w' ⟨rfl, ⟨nd, rfl⟩⟩; (try first | exact ⟨rfl, _, World.drewN_drewN _ _ _⟩ | exact ⟨rfl, _, Eq.trans (World.drewN_drewN _ _ _) (congrArg (World.drewN _) (Nat.add_assoc _ _ _))⟩); have p18 : 0 ≤ (3 : Int) := (by omega); have q18 : 3 < a0.size := (by have : (3 : Int) < (a0.size : Int) := of_decide_eq_true (by first | (with_reducible assumption) | assumption); omega); have hx18 : ∀ h : 3 < a0.size, ((a0[3]'h).toNat : Int) = bt a0 3 := bt_at a0 3; clear p18; have qi18 : (3 < (a0.size : Int)) = True := eq_true (of_decide_eq_true (by first | (with_reducible assumption) | assumption)); replace q18 := eq_true q18) | (go_at_call 31; (with_reducible refine (mullionref05_hex.calls (bt a0 3) true _ A19.out).mono ?_); rintro e w' ⟨rfl, ⟨nd, rfl⟩⟩; (try first | exact ⟨rfl, _, World.drewN_drewN _ _ _⟩ | exact ⟨rfl, _, Eq.trans (World.drewN_drewN _ _ _) (congrArg (World.drewN _) (Nat.add_assoc _ _ _))⟩); have p22 : 0 ≤ (4 : Int) := (by omega); have q22 : 4 < a0.size := (by have : (4 : Int) < (a0.size : Int) := of_decide_eq_true (by first | (with_reducible assumption) | assumption); omega); have hx22 : ∀ h : 4 < a0.size, ((a0[4]'h).toNat : Int) = bt a0 4 := bt_at a0 4; clear p22; have qi22 : (4 < (a0.size : Int)) = True := eq_true (of_decide_eq_true (by first | (with_reducible assumption) | assumption)); replace q22 := eq_true q22))
                         repeat (go_quiet (first | (go_at_call 31; (with_reducible refine (mullionref05_hex.calls (bt a0 0) true _ A7.out).mono ?_); rintro e w' ⟨rfl, ⟨nd, rfl⟩⟩; (try first | exact ⟨rfl, _, World.drewN_drewN _ _ _⟩ | exact ⟨rfl, _, Eq.trans (World.drewN_drewN _ _ _) (congrArg (World.drewN _) (Nat.add_assoc _ _ _))⟩); have p10 : 0 ≤ (1 : Int) := (by omega); have q10 : 1 < a0.size := (by have : (1 : Int) < (a0.size : Int) := of_decide_eq_true (by first | (with_reducible assumption) | assumption); omega); have hx10 : ∀ h : 1 < a0.size, ((a0[1]'h).toNat : Int) = bt a0 1 := bt_at a0 1; clear p10; have qi10 : (1 < (a0.size : Int)) = True := eq_true (of_decide_eq_true (by first | (with_reducible assumption) | assumption)); replace q10 := eq_true q10) | (go_at_call 31; (with_reducible refine (mullionref05_hex.calls (bt a0 1) true _ A11.out).mono ?_); rintro e w' ⟨rfl, ⟨nd, rfl⟩⟩; (try first | exact ⟨rfl, _, World.drewN_drewN _ _ _⟩ | exact ⟨rfl, _, Eq.trans (World.drewN_drewN _ _ _) (congrArg (World.drewN _) (Nat.add_assoc _ _ _))⟩); have p14 : 0 ≤ (2 : Int) := (by omega); have q14 : 2 < a0.size := (by have : (2 : Int) < (a0.size : Int) := of_decide_eq_true (by first | (with_reducible assumption) | assumption); omega); have hx14 : ∀ h : 2 < a0.size, ((a0[2]'h).toNat : Int) = bt a0 2 := bt_at a0 2; clear p14; have qi14 : (2 < (a0.size : Int)) = True := eq_true (of_decide_eq_true (by first | (with_reducible assumption) | assumption)); replace q14 := eq_true q14) | (go_at_call 31; (with_reducible refine (mullionref05_hex.calls (bt a0 2) true _ A15.out).mono ?_); rintro e w' ⟨rfl, ⟨nd, rfl⟩⟩; (try first | exact ⟨rfl, _, World.drewN_drewN _ _ _⟩ | exact ⟨rfl, _, Eq.trans (World.drewN_drewN _ _ _) (congrArg (World.drewN _) (Nat.add_assoc _ _ _))⟩); have p18 : 0 ≤ (3 : Int) := (by omega); have q18 : 3 < a0.size := (by have : (3 : Int) < (a0.size : Int) := of_decide_eq_true (by first | (with_reducible assumption) | assumption); omega); have hx18 : ∀ h : 3 < a0.size, ((a0[3]'h).toNat : Int) = bt a0 3 := bt_at a0 3; clear p18; have qi18 : (3 < (a0.size : Int)) = True := eq_true (of_decide_eq_true (by first | (with_reducible assumption) | assumption)); replace q18 := eq_true q18) | (go_at_call 31; (with_reducible refine (mullionref05_hex.calls (bt a0 3) true _ A19.out).mono ?_); rintro e w' ⟨rfl, ⟨nd, rfl⟩⟩; (try first | exact ⟨rfl, _, World.drewN_drewN _ _ _⟩ | exact ⟨rfl, _, Eq.trans (World.drewN_drewN _ _ _) (congrArg (World.drewN _) (Nat.add_assoc _ _ _))⟩); have p22 : 0 ≤ (4 : Int) := (by omega); have q22 : 4 < a0.size := (by have : (4 : Int) < (a0.size : Int) := of_decide_eq_true (by first | (with_reducible assumption) | assumption); omega); have hx22 : ∀ h : 4 < a0.size, ((a0[4]'h).toNat : Int) = bt a0 4 := bt_at a0 4; clear p22; have qi22 : (4 < (a0.size : Int)) = True := eq_true (of_decide_eq_true (by first | (with_reducible assumption) | assumption)); replace q22 := eq_true q22)); try go_wp2_with (first | (go_at_call 31; (with_reducible refine (mullionref05_hex.calls (bt a0 0) true _ A7.out).mono ?_); rintro e w' ⟨rfl, ⟨nd, rfl⟩⟩; (try first | exact ⟨rfl, _, World.drewN_drewN _ _ _⟩ | exact ⟨rfl, _, Eq.trans (World.drewN_drewN _ _ _) (congrArg (World.drewN _) (Nat.add_assoc _ _ _))⟩); have p10 : 0 ≤ (1 : Int) := (by omega); have q10 : 1 < a0.size := (by have : (1 : Int) < (a0.size : Int) := of_decide_eq_true (by first | (with_reducible assumption) | assumption); omega); have hx10 : ∀ h : 1 < a0.size, ((a0[1]'h).toNat : Int) = bt a0 1 := bt_at a0 1; clear p10; have qi10 : (1 < (a0.size : Int)) = True := eq_true (of_decide_eq_true (by first | (with_reducible assumption) | assumption)); replace q10 := eq_true q10) | (go_at_call 31; (with_reducible refine (mullionref05_hex.calls (bt a0 1) true _ A11.out).mono ?_); rintro e w' ⟨rfl, ⟨nd, rfl⟩⟩; (try first | exact ⟨rfl, _, World.drewN_drewN _ _ _⟩ | exact ⟨rfl, _, Eq.trans (World.drewN_drewN _ _ _) (congrArg (World.drewN _) (Nat.add_assoc _ _ _))⟩); have p14 : 0 ≤ (2 : Int) := (by omega); have q14 : 2 < a0.size := (by have : (2 : Int) < (a0.size : Int) := of_decide_eq_true (by first | (with_reducible assumption) | assumption); omega); have hx14 : ∀ h : 2 < a0.size, ((a0[2]'h).toNat : Int) = bt a0 2 := bt_at a0 2; clear p14; have qi14 : (2 < (a0.size : Int)) = True := eq_true (of_decide_eq_true (by first | (with_reducible assumption) | assumption)); replace q14 := eq_true q14) | (go_at_call 31; (with_reducible refine (mullionref05_hex.calls (bt a0 2) true _ A15.out).mono ?_); rintro e w' ⟨rfl, ⟨nd, rfl⟩⟩; (try first | exact ⟨rfl, _, World.drewN_drewN _ _ _⟩ | exact ⟨rfl, _, Eq.trans (World.drewN_drewN _ _ _) (congrArg (World.drewN _) (Nat.add_assoc _ _ _))⟩); have p18 : 0 ≤ (3 : Int) := (by omega); have q18 : 3 < a0.size := (by have : (3 : Int) < (a0.size : Int) := of_decide_eq_true (by first | (with_reducible assumption) | assumption); omega); have hx18 : ∀ h : 3 < a0.size, ((a0[3]'h).toNat : Int) = bt a0 3 := bt_at a0 3; clear p18; have qi18 : (3 < (a0.size : Int)) = True := eq_true (of_decide_eq_true (by first | (with_reducible assumption) | assumption)); replace q18 := eq_true q18) | (go_at_call 31; (with_reducible refine (mullionref05_hex.calls (bt a0 3) true _ A19.out).mono ?_); rintro e w' ⟨rfl, ⟨nd, rfl⟩⟩; (try first | exact ⟨rfl, _, World.drewN_drewN _ _ _⟩ | exact ⟨rfl, _, Eq.trans (World.drewN_drewN _ _ _) (congrArg (World.drewN _) (Nat.add_assoc _ _ _))⟩); have p22 : 0 ≤ (4 : Int) := (by omega); have q22 : 4 < a0.size := (by have : (4 : Int) < (a0.size : Int) := of_decide_eq_true (by first | (with_reducible assumption) | assumption); omega); have hx22 : ∀ h : 4 < a0.size, ((a0[4]'h).toNat : Int) = bt a0 4 := bt_at a0 4; clear p22; have qi22 : (4 < (a0.size : Int)) = True := eq_true (of_decide_eq_true (by first | (with_reducible assumption) | assumption)); replace q22 := eq_true q22)))
                         go_meet
                         case rel => exact ⟨_, (((bt a0 4) != 44)), (by first | rfl | (simp; done) | (simp [*]; done)), H', ⟨by first | omega | exact Nat.le_refl _⟩, ⟨by repeat (first | (with_reducible first | exact HB.out | apply below_alloc | apply pw_below_drewN | apply below_drew1) | exact HB.out)⟩⟩
                       · rw [if_neg c21] at H
                         exact absurd H (by simp)
                     · replace c20 := Bool.eq_false_iff.mpr c20
                       subst c20
                       have H1 : (mullionref05_Parse.j0 k a0 true) = some (r1, r2) := by rw [if_neg (show ¬ (false = true) by decide)] at H; exact H
                       clear H
                       have H := H1
                       clear H1
                       have H' := Aside0.mk H
                       clear H
                       have p6 : 0 ≤ (0 : Int) := (by omega)
                       have q6 : 0 < a0.size := (by have : (0 : Int) < (a0.size : Int) := of_decide_eq_true (by first | (with_reducible assumption) | assumption); omega)
                       have hx6 : ∀ h : 0 < a0.size, ((a0[0]'h).toNat : Int) = bt a0 0 := bt_at a0 0
                       clear p6
                       have qi6 : (0 < (a0.size : Int)) = True := eq_true (of_decide_eq_true (by first | (with_reducible assumption) | assumption))
                       replace q6 := eq_true q6
                       go_wp2_with (first | (go_at_call 31; (with_reducible refine (mullionref05_hex.calls (bt a0 0) true _ A7.out).mono ?_); rintro e w' ⟨rfl, ⟨nd, rfl⟩⟩; (try first | exact ⟨rfl, _, World.drewN_drewN _ _ _⟩ | exact ⟨rfl, _, Eq.trans (World.drewN_drewN _ _ _) (congrArg (World.drewN _) (Nat.add_assoc _ _ _))⟩); have p10 : 0 ≤ (1 : Int) := (by omega); have q10 : 1 < a0.size := (by have : (1 : Int) < (a0.size : Int) := of_decide_eq_true (by first | (with_reducible assumption) | assumption); omega); have hx10 : ∀ h : 1 < a0.size, ((a0[1]'h).toNat : Int) = bt a0 1 := bt_at a0 1; clear p10; have qi10 : (1 < (a0.size : Int)) = True := eq_true (of_decide_eq_true (by first | (with_reducible assumption) | assumption)); replace q10 := eq_true q10) | (go_at_call 31; (with_reducible refine (mullionref05_hex.calls (bt a0 1) true _ A11.out).mono ?_); rintro e w' ⟨rfl, ⟨nd, rfl⟩⟩; (try first | exact ⟨rfl, _, World.drewN_drewN _ _ _⟩ | exact ⟨rfl, _, Eq.trans (World.drewN_drewN _ _ _) (congrArg (World.drewN _) (Nat.add_assoc _ _ _))⟩); have p14 : 0 ≤ (2 : Int) := (by omega); have q14 : 2 < a0.size := (by have : (2 : Int) < (a0.size : Int) := of_decide_eq_true (by first | (with_reducible assumption) | assumption); omega); have hx14 : ∀ h : 2 < a0.size, ((a0[2]'h).toNat : Int) = bt a0 2 := bt_at a0 2; clear p14; have qi14 : (2 < (a0.size : Int)) = True := eq_true (of_decide_eq_true (by first | (with_reducible assumption) | assumption)); replace q14 := eq_true q14) | (go_at_call 31; (with_reducible refine (mullionref05_hex.calls (bt a0 2) true _ A15.out).mono ?_); rintro e w' ⟨rfl, ⟨nd, rfl⟩⟩; (try first | exact ⟨rfl, _, World.drewN_drewN _ _ _⟩ | exact ⟨rfl, _, Eq.trans (World.drewN_drewN _ _ _) (congrArg (World.drewN _) (Nat.add_assoc _ _ _))⟩); have p18 : 0 ≤ (3 : Int) := (by omega); have q18 : 3 < a0.size := (by have : (3 : Int) < (a0.size : Int) := of_decide_eq_true (by first | (with_reducible assumption) | assumption); omega); have hx18 : ∀ h : 3 < a0.size, ((a0[3]'h).toNat : Int) = bt a0 3 := bt_at a0 3; clear p18; have qi18 : (3 < (a0.size : Int)) = True := eq_true (of_decide_eq_true (by first | (with_reducible assumption) | assumption)); replace q18 := eq_true q18) | (go_at_call 31; (with_reducible refine (mullionref05_hex.calls (bt a0 3) false _ A19.out).mono ?_); rintro e w' ⟨rfl, ⟨nd, rfl⟩⟩; (try first | exact ⟨rfl, _, World.drewN_drewN _ _ _⟩ | exact ⟨rfl, _, Eq.trans (World.drewN_drewN _ _ _) (congrArg (World.drewN _) (Nat.add_assoc _ _ _))⟩)))
                       repeat (go_quiet (first | (go_at_call 31; (with_reducible refine (mullionref05_hex.calls (bt a0 0) true _ A7.out).mono ?_); rintro e w' ⟨rfl, ⟨nd, rfl⟩⟩; (try first | exact ⟨rfl, _, World.drewN_drewN _ _ _⟩ | exact ⟨rfl, _, Eq.trans (World.drewN_drewN _ _ _) (congrArg (World.drewN _) (Nat.add_assoc _ _ _))⟩); have p10 : 0 ≤ (1 : Int) := (by omega); have q10 : 1 < a0.size := (by have : (1 : Int) < (a0.size : Int) := of_decide_eq_true (by first | (with_reducible assumption) | assumption); omega); have hx10 : ∀ h : 1 < a0.size, ((a0[1]'h).toNat : Int) = bt a0 1 := bt_at a0 1; clear p10; have qi10 : (1 < (a0.size : Int)) = True := eq_true (of_decide_eq_true (by first | (with_reducible assumption) | assumption)); replace q10 := eq_true q10) | (go_at_call 31; (with_reducible refine (mullionref05_hex.calls (bt a0 1) true _ A11.out).mono ?_); rintro e w' ⟨rfl, ⟨nd, rfl⟩⟩; (try first | exact ⟨rfl, _, World.drewN_drewN _ _ _⟩ | exact ⟨rfl, _, Eq.trans (World.drewN_drewN _ _ _) (congrArg (World.drewN _) (Nat.add_assoc _ _ _))⟩); have p14 : 0 ≤ (2 : Int) := (by omega); have q14 : 2 < a0.size := (by have : (2 : Int) < (a0.size : Int) := of_decide_eq_true (by first | (with_reducible assumption) | assumption); omega); have hx14 : ∀ h : 2 < a0.size, ((a0[2]'h).toNat : Int) = bt a0 2 := bt_at a0 2; clear p14; have qi14 : (2 < (a0.size : Int)) = True := eq_true (of_decide_eq_true (by first | (with_reducible assumption) | assumption)); replace q14 := eq_true q14) | (go_at_call 31; (with_reducible refine (mullionref05_hex.calls (bt a0 2) true _ A15.out).mono ?_); rintro e w' ⟨rfl, ⟨nd, rfl⟩⟩; (try first | exact ⟨rfl, _, World.drewN_drewN _ _ _⟩ | exact ⟨rfl, _, Eq.trans (World.drewN_drewN _ _ _) (congrArg (World.drewN _) (Nat.add_assoc _ _ _))⟩); have p18 : 0 ≤ (3 : Int) := (by omega); have q18 : 3 < a0.size := (by have : (3 : Int) < (a0.size : Int) := of_decide_eq_true (by first | (with_reducible assumption) | assumption); omega); have hx18 : ∀ h : 3 < a0.size, ((a0[3]'h).toNat : Int) = bt a0 3 := bt_at a0 3; clear p18; have qi18 : (3 < (a0.size : Int)) = True := eq_true (of_decide_eq_true (by first | (with_reducible assumption) | assumption)); replace q18 := eq_true q18) | (go_at_call 31; (with_reducible refine (mullionref05_hex.calls (bt a0 3) false _ A19.out).mono ?_); rintro e w' ⟨rfl, ⟨nd, rfl⟩⟩; (try first | exact ⟨rfl, _, World.drewN_drewN _ _ _⟩ | exact ⟨rfl, _, Eq.trans (World.drewN_drewN _ _ _) (congrArg (World.drewN _) (Nat.add_assoc _ _ _))⟩))); try go_wp2_with (first | (go_at_call 31; (with_reducible refine (mullionref05_hex.calls (bt a0 0) true _ A7.out).mono ?_); rintro e w' ⟨rfl, ⟨nd, rfl⟩⟩; (try first | exact ⟨rfl, _, World.drewN_drewN _ _ _⟩ | exact ⟨rfl, _, Eq.trans (World.drewN_drewN _ _ _) (congrArg (World.drewN _) (Nat.add_assoc _ _ _))⟩); have p10 : 0 ≤ (1 : Int) := (by omega); have q10 : 1 < a0.size := (by have : (1 : Int) < (a0.size : Int) := of_decide_eq_true (by first | (with_reducible assumption) | assumption); omega); have hx10 : ∀ h : 1 < a0.size, ((a0[1]'h).toNat : Int) = bt a0 1 := bt_at a0 1; clear p10; have qi10 : (1 < (a0.size : Int)) = True := eq_true (of_decide_eq_true (by first | (with_reducible assumption) | assumption)); replace q10 := eq_true q10) | (go_at_call 31; (with_reducible refine (mullionref05_hex.calls (bt a0 1) true _ A11.out).mono ?_); rintro e w' ⟨rfl, ⟨nd, rfl⟩⟩; (try first | exact ⟨rfl, _, World.drewN_drewN _ _ _⟩ | exact ⟨rfl, _, Eq.trans (World.drewN_drewN _ _ _) (congrArg (World.drewN _) (Nat.add_assoc _ _ _))⟩); have p14 : 0 ≤ (2 : Int) := (by omega); have q14 : 2 < a0.size := (by have : (2 : Int) < (a0.size : Int) := of_decide_eq_true (by first | (with_reducible assumption) | assumption); omega); have hx14 : ∀ h : 2 < a0.size, ((a0[2]'h).toNat : Int) = bt a0 2 := bt_at a0 2; clear p14; have qi14 : (2 < (a0.size : Int)) = True := eq_true (of_decide_eq_true (by first | (with_reducible assumption) | assumption)); replace q14 := eq_true q14) | (go_at_call 31; (with_reducible refine (mullionref05_hex.calls (bt a0 2) true _ A15.out).mono ?_); rintro e w' ⟨rfl, ⟨nd, rfl⟩⟩; (try first | exact ⟨rfl, _, World.drewN_drewN _ _ _⟩ | exact ⟨rfl, _, Eq.trans (World.drewN_drewN _ _ _) (congrArg (World.drewN _) (Nat.add_assoc _ _ _))⟩); have p18 : 0 ≤ (3 : Int) := (by omega); have q18 : 3 < a0.size := (by have : (3 : Int) < (a0.size : Int) := of_decide_eq_true (by first | (with_reducible assumption) | assumption); omega); have hx18 : ∀ h : 3 < a0.size, ((a0[3]'h).toNat : Int) = bt a0 3 := bt_at a0 3; clear p18; have qi18 : (3 < (a0.size : Int)) = True := eq_true (of_decide_eq_true (by first | (with_reducible assumption) | assumption)); replace q18 := eq_true q18) | (go_at_call 31; (with_reducible refine (mullionref05_hex.calls (bt a0 3) false _ A19.out).mono ?_); rintro e w' ⟨rfl, ⟨nd, rfl⟩⟩; (try first | exact ⟨rfl, _, World.drewN_drewN _ _ _⟩ | exact ⟨rfl, _, Eq.trans (World.drewN_drewN _ _ _) (congrArg (World.drewN _) (Nat.add_assoc _ _ _))⟩))))
                       go_meet
                       case rel => exact ⟨_, (true), (by first | rfl | (simp; done) | (simp [*]; done)), H', ⟨by first | omega | exact Nat.le_refl _⟩, ⟨by repeat (first | (with_reducible first | exact HB.out | apply below_alloc | apply pw_below_drewN | apply below_drew1) | exact HB.out)⟩⟩
                   · rw [if_neg c17] at H
                     exact absurd H (by simp)
                 · replace c16 := Bool.eq_false_iff.mpr c16
                   subst c16
                   have H1 : (mullionref05_Parse.j0 k a0 true) = some (r1, r2) := by rw [if_neg (show ¬ (false = true) by decide)] at H; exact H
                   clear H
                   have H := H1
                   clear H1
                   have H' := Aside0.mk H
                   clear H
                   have p6 : 0 ≤ (0 : Int) := (by omega)
                   have q6 : 0 < a0.size := (by have : (0 : Int) < (a0.size : Int) := of_decide_eq_true (by first | (with_reducible assumption) | assumption); omega)
                   have hx6 : ∀ h : 0 < a0.size, ((a0[0]'h).toNat : Int) = bt a0 0 := bt_at a0 0
                   clear p6
                   have qi6 : (0 < (a0.size : Int)) = True := eq_true (of_decide_eq_true (by first | (with_reducible assumption) | assumption))
                   replace q6 := eq_true q6
                   go_wp2_with (first | (go_at_call 31; (with_reducible refine (mullionref05_hex.calls (bt a0 0) true _ A7.out).mono ?_); rintro e w' ⟨rfl, ⟨nd, rfl⟩⟩; (try first | exact ⟨rfl, _, World.drewN_drewN _ _ _⟩ | exact ⟨rfl, _, Eq.trans (World.drewN_drewN _ _ _) (congrArg (World.drewN _) (Nat.add_assoc _ _ _))⟩); have p10 : 0 ≤ (1 : Int) := (by omega); have q10 : 1 < a0.size := (by have : (1 : Int) < (a0.size : Int) := of_decide_eq_true (by first | (with_reducible assumption) | assumption); omega); have hx10 : ∀ h : 1 < a0.size, ((a0[1]'h).toNat : Int) = bt a0 1 := bt_at a0 1; clear p10; have qi10 : (1 < (a0.size : Int)) = True := eq_true (of_decide_eq_true (by first | (with_reducible assumption) | assumption)); replace q10 := eq_true q10) | (go_at_call 31; (with_reducible refine (mullionref05_hex.calls (bt a0 1) true _ A11.out).mono ?_); rintro e w' ⟨rfl, ⟨nd, rfl⟩⟩; (try first | exact ⟨rfl, _, World.drewN_drewN _ _ _⟩ | exact ⟨rfl, _, Eq.trans (World.drewN_drewN _ _ _) (congrArg (World.drewN _) (Nat.add_assoc _ _ _))⟩); have p14 : 0 ≤ (2 : Int) := (by omega); have q14 : 2 < a0.size := (by have : (2 : Int) < (a0.size : Int) := of_decide_eq_true (by first | (with_reducible assumption) | assumption); omega); have hx14 : ∀ h : 2 < a0.size, ((a0[2]'h).toNat : Int) = bt a0 2 := bt_at a0 2; clear p14; have qi14 : (2 < (a0.size : Int)) = True := eq_true (of_decide_eq_true (by first | (with_reducible assumption) | assumption)); replace q14 := eq_true q14) | (go_at_call 31; (with_reducible refine (mullionref05_hex.calls (bt a0 2) false _ A15.out).mono ?_); rintro e w' ⟨rfl, ⟨nd, rfl⟩⟩; (try first | exact ⟨rfl, _, World.drewN_drewN _ _ _⟩ | exact ⟨rfl, _, Eq.trans (World.drewN_drewN _ _ _) (congrArg (World.drewN _) (Nat.add_assoc _ _ _))⟩)))
                   repeat (go_quiet (first | (go_at_call 31; (with_reducible refine (mullionref05_hex.calls (bt a0 0) true _ A7.out).mono ?_); rintro e w' ⟨rfl, ⟨nd, rfl⟩⟩; (try first | exact ⟨rfl, _, World.drewN_drewN _ _ _⟩ | exact ⟨rfl, _, Eq.trans (World.drewN_drewN _ _ _) (congrArg (World.drewN _) (Nat.add_assoc _ _ _))⟩); have p10 : 0 ≤ (1 : Int) := (by omega); have q10 : 1 < a0.size := (by have : (1 : Int) < (a0.size : Int) := of_decide_eq_true (by first | (with_reducible assumption) | assumption); omega); have hx10 : ∀ h : 1 < a0.size, ((a0[1]'h).toNat : Int) = bt a0 1 := bt_at a0 1; clear p10; have qi10 : (1 < (a0.size : Int)) = True := eq_true (of_decide_eq_true (by first | (with_reducible assumption) | assumption)); replace q10 := eq_true q10) | (go_at_call 31; (with_reducible refine (mullionref05_hex.calls (bt a0 1) true _ A11.out).mono ?_); rintro e w' ⟨rfl, ⟨nd, rfl⟩⟩; (try first | exact ⟨rfl, _, World.drewN_drewN _ _ _⟩ | exact ⟨rfl, _, Eq.trans (World.drewN_drewN _ _ _) (congrArg (World.drewN _) (Nat.add_assoc _ _ _))⟩); have p14 : 0 ≤ (2 : Int) := (by omega); have q14 : 2 < a0.size := (by have : (2 : Int) < (a0.size : Int) := of_decide_eq_true (by first | (with_reducible assumption) | assumption); omega); have hx14 : ∀ h : 2 < a0.size, ((a0[2]'h).toNat : Int) = bt a0 2 := bt_at a0 2; clear p14; have qi14 : (2 < (a0.size : Int)) = True := eq_true (of_decide_eq_true (by first | (with_reducible assumption) | assumption)); replace q14 := eq_true q14) | (go_at_call 31; (with_reducible refine (mullionref05_hex.calls (bt a0 2) false _ A15.out).mono ?_); rintro e w' ⟨rfl, ⟨nd, rfl⟩⟩; (try first | exact ⟨rfl, _, World.drewN_drewN _ _ _⟩ | exact ⟨rfl, _, Eq.trans (World.drewN_drewN _ _ _) (congrArg (World.drewN _) (Nat.add_assoc _ _ _))⟩))); try go_wp2_with (first | (go_at_call 31; (with_reducible refine (mullionref05_hex.calls (bt a0 0) true _ A7.out).mono ?_); rintro e w' ⟨rfl, ⟨nd, rfl⟩⟩; (try first | exact ⟨rfl, _, World.drewN_drewN _ _ _⟩ | exact ⟨rfl, _, Eq.trans (World.drewN_drewN _ _ _) (congrArg (World.drewN _) (Nat.add_assoc _ _ _))⟩); have p10 : 0 ≤ (1 : Int) := (by omega); have q10 : 1 < a0.size := (by have : (1 : Int) < (a0.size : Int) := of_decide_eq_true (by first | (with_reducible assumption) | assumption); omega); have hx10 : ∀ h : 1 < a0.size, ((a0[1]'h).toNat : Int) = bt a0 1 := bt_at a0 1; clear p10; have qi10 : (1 < (a0.size : Int)) = True := eq_true (of_decide_eq_true (by first | (with_reducible assumption) | assumption)); replace q10 := eq_true q10) | (go_at_call 31; (with_reducible refine (mullionref05_hex.calls (bt a0 1) true _ A11.out).mono ?_); rintro e w' ⟨rfl, ⟨nd, rfl⟩⟩; (try first | exact ⟨rfl, _, World.drewN_drewN _ _ _⟩ | exact ⟨rfl, _, Eq.trans (World.drewN_drewN _ _ _) (congrArg (World.drewN _) (Nat.add_assoc _ _ _))⟩); have p14 : 0 ≤ (2 : Int) := (by omega); have q14 : 2 < a0.size := (by have : (2 : Int) < (a0.size : Int) := of_decide_eq_true (by first | (with_reducible assumption) | assumption); omega); have hx14 : ∀ h : 2 < a0.size, ((a0[2]'h).toNat : Int) = bt a0 2 := bt_at a0 2; clear p14; have qi14 : (2 < (a0.size : Int)) = True := eq_true (of_decide_eq_true (by first | (with_reducible assumption) | assumption)); replace q14 := eq_true q14) | (go_at_call 31; (with_reducible refine (mullionref05_hex.calls (bt a0 2) false _ A15.out).mono ?_); rintro e w' ⟨rfl, ⟨nd, rfl⟩⟩; (try first | exact ⟨rfl, _, World.drewN_drewN _ _ _⟩ | exact ⟨rfl, _, Eq.trans (World.drewN_drewN _ _ _) (congrArg (World.drewN _) (Nat.add_assoc _ _ _))⟩))))
                   go_meet
                   case rel => exact ⟨_, (true), (by first | rfl | (simp; done) | (simp [*]; done)), H', ⟨by first | omega | exact Nat.le_refl _⟩, ⟨by repeat (first | (with_reducible first | exact HB.out | apply below_alloc | apply pw_below_drewN | apply below_drew1) | exact HB.out)⟩⟩
               · rw [if_neg c13] at H
                 exact absurd H (by simp)
             · replace c12 := Bool.eq_false_iff.mpr c12
               subst c12
               have H1 : (mullionref05_Parse.j0 k a0 true) = some (r1, r2) := by rw [if_neg (show ¬ (false = true) by decide)] at H; exact H
               clear H
               have H := H1
               clear H1
               have H' := Aside0.mk H
               clear H
               have p6 : 0 ≤ (0 : Int) := (by omega)
               have q6 : 0 < a0.size := (by have : (0 : Int) < (a0.size : Int) := of_decide_eq_true (by first | (with_reducible assumption) | assumption); omega)
               have hx6 : ∀ h : 0 < a0.size, ((a0[0]'h).toNat : Int) = bt a0 0 := bt_at a0 0
               clear p6
               have qi6 : (0 < (a0.size : Int)) = True := eq_true (of_decide_eq_true (by first | (with_reducible assumption) | assumption))
               replace q6 := eq_true q6
               go_wp2_with (first | (go_at_call 31; (with_reducible refine (mullionref05_hex.calls (bt a0 0) true _ A7.out).mono ?_); rintro e w' ⟨rfl, ⟨nd, rfl⟩⟩; (try first | exact ⟨rfl, _, World.drewN_drewN _ _ _⟩ | exact ⟨rfl, _, Eq.trans (World.drewN_drewN _ _ _) (congrArg (World.drewN _) (Nat.add_assoc _ _ _))⟩); have p10 : 0 ≤ (1 : Int) := (by omega); have q10 : 1 < a0.size := (by have : (1 : Int) < (a0.size : Int) := of_decide_eq_true (by first | (with_reducible assumption) | assumption); omega); have hx10 : ∀ h : 1 < a0.size, ((a0[1]'h).toNat : Int) = bt a0 1 := bt_at a0 1; clear p10; have qi10 : (1 < (a0.size : Int)) = True := eq_true (of_decide_eq_true (by first | (with_reducible assumption) | assumption)); replace q10 := eq_true q10) | (go_at_call 31; (with_reducible refine (mullionref05_hex.calls (bt a0 1) false _ A11.out).mono ?_); rintro e w' ⟨rfl, ⟨nd, rfl⟩⟩; (try first | exact ⟨rfl, _, World.drewN_drewN _ _ _⟩ | exact ⟨rfl, _, Eq.trans (World.drewN_drewN _ _ _) (congrArg (World.drewN _) (Nat.add_assoc _ _ _))⟩)))
               repeat (go_quiet (first | (go_at_call 31; (with_reducible refine (mullionref05_hex.calls (bt a0 0) true _ A7.out).mono ?_); rintro e w' ⟨rfl, ⟨nd, rfl⟩⟩; (try first | exact ⟨rfl, _, World.drewN_drewN _ _ _⟩ | exact ⟨rfl, _, Eq.trans (World.drewN_drewN _ _ _) (congrArg (World.drewN _) (Nat.add_assoc _ _ _))⟩); have p10 : 0 ≤ (1 : Int) := (by omega); have q10 : 1 < a0.size := (by have : (1 : Int) < (a0.size : Int) := of_decide_eq_true (by first | (with_reducible assumption) | assumption); omega); have hx10 : ∀ h : 1 < a0.size, ((a0[1]'h).toNat : Int) = bt a0 1 := bt_at a0 1; clear p10; have qi10 : (1 < (a0.size : Int)) = True := eq_true (of_decide_eq_true (by first | (with_reducible assumption) | assumption)); replace q10 := eq_true q10) | (go_at_call 31; (with_reducible refine (mullionref05_hex.calls (bt a0 1) false _ A11.out).mono ?_); rintro e w' ⟨rfl, ⟨nd, rfl⟩⟩; (try first | exact ⟨rfl, _, World.drewN_drewN _ _ _⟩ | exact ⟨rfl, _, Eq.trans (World.drewN_drewN _ _ _) (congrArg (World.drewN _) (Nat.add_assoc _ _ _))⟩))); try go_wp2_with (first | (go_at_call 31; (with_reducible refine (mullionref05_hex.calls (bt a0 0) true _ A7.out).mono ?_); rintro e w' ⟨rfl, ⟨nd, rfl⟩⟩; (try first | exact ⟨rfl, _, World.drewN_drewN _ _ _⟩ | exact ⟨rfl, _, Eq.trans (World.drewN_drewN _ _ _) (congrArg (World.drewN _) (Nat.add_assoc _ _ _))⟩); have p10 : 0 ≤ (1 : Int) := (by omega); have q10 : 1 < a0.size := (by have : (1 : Int) < (a0.size : Int) := of_decide_eq_true (by first | (with_reducible assumption) | assumption); omega); have hx10 : ∀ h : 1 < a0.size, ((a0[1]'h).toNat : Int) = bt a0 1 := bt_at a0 1; clear p10; have qi10 : (1 < (a0.size : Int)) = True := eq_true (of_decide_eq_true (by first | (with_reducible assumption) | assumption)); replace q10 := eq_true q10) | (go_at_call 31; (with_reducible refine (mullionref05_hex.calls (bt a0 1) false _ A11.out).mono ?_); rintro e w' ⟨rfl, ⟨nd, rfl⟩⟩; (try first | exact ⟨rfl, _, World.drewN_drewN _ _ _⟩ | exact ⟨rfl, _, Eq.trans (World.drewN_drewN _ _ _) (congrArg (World.drewN _) (Nat.add_assoc _ _ _))⟩))))
               go_meet
               case rel => exact ⟨_, (true), (by first | rfl | (simp; done) | (simp [*]; done)), H', ⟨by first | omega | exact Nat.le_refl _⟩, ⟨by repeat (first | (with_reducible first | exact HB.out | apply below_alloc | apply pw_below_drewN | apply below_drew1) | exact HB.out)⟩⟩
           · rw [if_neg c9] at H
             exact absurd H (by simp)
         · replace c8 := Bool.eq_false_iff.mpr c8
           subst c8
           have H1 : (mullionref05_Parse.j0 k a0 true) = some (r1, r2) := by rw [if_neg (show ¬ (false = true) by decide)] at H; exact H
           clear H
           have H := H1
           clear H1
           have H' := Aside0.mk H
           clear H
           have p6 : 0 ≤ (0 : Int) := (by omega)
           have q6 : 0 < a0.size := (by have : (0 : Int) < (a0.size : Int) := of_decide_eq_true (by first | (with_reducible assumption) | assumption); omega)
           have hx6 : ∀ h : 0 < a0.size, ((a0[0]'h).toNat : Int) = bt a0 0 := bt_at a0 0
           clear p6
           have qi6 : (0 < (a0.size : Int)) = True := eq_true (of_decide_eq_true (by first | (with_reducible assumption) | assumption))
           replace q6 := eq_true q6
           go_wp2_with (first | (go_at_call 31; (with_reducible refine (mullionref05_hex.calls (bt a0 0) false _ A7.out).mono ?_); rintro e w' ⟨rfl, ⟨nd, rfl⟩⟩; (try first | exact ⟨rfl, _, World.drewN_drewN _ _ _⟩ | exact ⟨rfl, _, Eq.trans (World.drewN_drewN _ _ _) (congrArg (World.drewN _) (Nat.add_assoc _ _ _))⟩)))
           repeat (go_quiet (first | (go_at_call 31; (with_reducible refine (mullionref05_hex.calls (bt a0 0) false _ A7.out).mono ?_); rintro e w' ⟨rfl, ⟨nd, rfl⟩⟩; (try first | exact ⟨rfl, _, World.drewN_drewN _ _ _⟩ | exact ⟨rfl, _, Eq.trans (World.drewN_drewN _ _ _) (congrArg (World.drewN _) (Nat.add_assoc _ _ _))⟩))); try go_wp2_with (first | (go_at_call 31; (with_reducible refine (mullionref05_hex.calls (bt a0 0) false _ A7.out).mono ?_); rintro e w' ⟨rfl, ⟨nd, rfl⟩⟩; (try first | exact ⟨rfl, _, World.drewN_drewN _ _ _⟩ | exact ⟨rfl, _, Eq.trans (World.drewN_drewN _ _ _) (congrArg (World.drewN _) (Nat.add_assoc _ _ _))⟩))))
           go_meet
           case rel => exact ⟨_, (true), (by first | rfl | (simp; done) | (simp [*]; done)), H', ⟨by first | omega | exact Nat.le_refl _⟩, ⟨by repeat (first | (with_reducible first | exact HB.out | apply below_alloc | apply pw_below_drewN | apply below_drew1) | exact HB.out)⟩⟩
       · rw [if_neg c5] at H
         exact absurd H (by simp)
   case rest =>
     clear HC3
     try clear c1
     try clear p1
     try clear q1
     try clear hx1
     try clear qi1
     try clear c2
     try clear c2b0
     try clear c2b1
     try clear p2
     try clear q2
     try clear hx2
     try clear qi2
     try clear c4
     try clear c4b0
     try clear c4b1
     try clear c5
     try clear c5b0
     try clear c5b1
     try clear p6
     try clear q6
     try clear hx6
     try clear qi6
     try clear c8
     try clear c9
     try clear c9b0
     try clear c9b1
     try clear p10
     try clear q10
     try clear hx10
     try clear qi10
     try clear c12
     try clear c13
     try clear c13b0
     try clear c13b1
     try clear p14
     try clear q14
     try clear hx14
     try clear qi14
     try clear c16
     try clear c17
     try clear c17b0
     try clear c17b1
     try clear p18
     try clear q18
     try clear hx18
     try clear qi18
     try clear c20
     try clear c21
     try clear c21b0
     try clear c21b1
     try clear p22
     try clear q22
     try clear hx22
     try clear qi22
     try clear p10
     try clear p14
     try clear p18
     try clear p22
     try clear p6
     try clear q10
     try clear q14
     try clear q18
     try clear q22
     try clear q6
     obtain ⟨kq, x41_2, rfl, HA, HJ2, HB⟩ := hcut
     cases kq with
     | zero => exact absurd HA.out (by simp [mullionref05_Parse.j0])
     | succ kj2 =>
       have H := HA.out
       clear HA
       simp only [mullionref05_Parse.j0] at H
       by_cases c23 : x41_2 = true
       · subst c23
         have H1 : (some (([] : List (S45)), 50)) = some (r1, r2) := by rw [if_pos rfl] at H; exact H
         clear H
         have H := H1
         clear H1
         simp only [Option.some.injEq, Prod.mk.injEq] at H
         obtain ⟨rfl, rfl⟩ := H
         go_wp2
         repeat (go_quiet (fail); try go_wp2)
         go_ret2
         exact ⟨_, by first | rfl | (simp [errW_none, errW_some] <;> rfl) | (simp [*, errW_none, errW_some] <;> rfl), by first | exact Kd.R_nil _ _ _ _ _ | exact Kd.N_nil _ _ _ _ _ | exact Kd.V_nil _ _ _ _ _ | exact Kd.Q_nil _ _ _ _ _ | exact Kd.S_nil _ _ _ _ _, by repeat (first | (with_reducible first | exact HB.out | apply below_alloc | apply pw_below_drewN | apply below_drew1) | exact HB.out)⟩
       · replace c23 := Bool.eq_false_iff.mpr c23
         subst c23
         have H1 : (if 5 ≤ (a0.size : Int) then ((mullionref05_Sum.f kj2 (a0.extract 5 a0.size)).bind fun t203 => ((mullionref05_four.f t203).bind fun t204 => (if 0 ≤ 4 then (if 4 ≤ (a0.size : Int) then (if t204.toList = (a0.extract 0 4).toList then ((mullionref05_cell.f kj2 (a0.extract 5 a0.size) 0).bind fun bt205 => (if bt205.2.2 = true then (mullionref05_Parse.j1 kj2 bt205.1 (bt205.2.1.toList != ([] : List UInt8))) else (mullionref05_Parse.j1 kj2 bt205.1 true))) else (some (([] : List (S45)), 51))) else (none)) else (none)))) else (none)) = some (r1, r2) := by rw [if_neg (show ¬ (false = true) by decide)] at H; exact H
         clear H
         have H := H1
         clear H1
         by_cases c24 : 5 ≤ (a0.size : Int)
         · rw [if_pos c24] at H
           have c24b0 := eq_true c24
           have c24b1 : decide (5 ≤ (a0.size : Int)) = true := decide_eq_true c24
           clear c24
           replace H := Option.bind_eq_some_iff.mp H
           obtain ⟨t203, A250, H⟩ := H
           replace H : ((mullionref05_four.f t203).bind fun t204 => (if 0 ≤ 4 then (if 4 ≤ (a0.size : Int) then (if t204.toList = (a0.extract 0 4).toList then ((mullionref05_cell.f kj2 (a0.extract 5 a0.size) 0).bind fun bt205 => (if bt205.2.2 = true then (mullionref05_Parse.j1 kj2 bt205.1 (bt205.2.1.toList != ([] : List UInt8))) else (mullionref05_Parse.j1 kj2 bt205.1 true))) else (some (([] : List (S45)), 51))) else (none)) else (none))) = some (r1, r2) := H
           have A25 := Aside0.mk A250
           clear A250
           replace H := Option.bind_eq_some_iff.mp H
           obtain ⟨t204, A260, H⟩ := H
           replace H : (if 0 ≤ 4 then (if 4 ≤ (a0.size : Int) then (if t204.toList = (a0.extract 0 4).toList then ((mullionref05_cell.f kj2 (a0.extract 5 a0.size) 0).bind fun bt205 => (if bt205.2.2 = true then (mullionref05_Parse.j1 kj2 bt205.1 (bt205.2.1.toList != ([] : List UInt8))) else (mullionref05_Parse.j1 kj2 bt205.1 true))) else (some (([] : List (S45)), 51))) else (none)) else (none)) = some (r1, r2) := H
           have A26 := Aside0.mk A260
           clear A260
           by_cases c27 : 0 ≤ 4
           · rw [if_pos c27] at H
             have c27b0 := eq_true c27
             have c27b1 : decide (0 ≤ 4) = true := decide_eq_true c27
             clear c27
             by_cases c28 : 4 ≤ (a0.size : Int)
             · rw [if_pos c28] at H
               have c28b0 := eq_true c28
               have c28b1 : decide (4 ≤ (a0.size : Int)) = true := decide_eq_true c28
               clear c28
               by_cases c29 : t204.toList = (a0.extract 0 4).toList
               · rw [if_pos c29] at H
                 have c29b0 : (t204.toList == (a0.extract 0 4).toList) = true := beq_iff_eq.mpr c29
                 have c29b1 : (t204.toList != (a0.extract 0 4).toList) = false := bne_eq_false_iff_eq.mpr c29
                 clear c29
                 have c30b0 := eq_true (of_decide_eq_true (by first | (with_reducible assumption) | assumption) : 5 ≤ (a0.size : Int))
                 replace H := Option.bind_eq_some_iff.mp H
                 obtain ⟨⟨t205, t206, t207⟩, A310, H⟩ := H
                 replace H : (if t207 = true then (mullionref05_Parse.j1 kj2 t205 (t206.toList != ([] : List UInt8))) else (mullionref05_Parse.j1 kj2 t205 true)) = some (r1, r2) := H
                 have A31 := Aside0.mk A310
                 clear A310
                 have HC32 := Aside0.mk H
                 clear H
                 go_upto_region 8 with (first | (go_at_call 28; (with_reducible refine (mullionref05_Sum.calls kj2 (a0.extract 5 a0.size) t203 _ A25.out).mono ?_); rintro e w' ⟨rfl, ⟨nd, rfl⟩⟩; (try first | exact ⟨rfl, _, World.drewN_drewN _ _ _⟩ | exact ⟨rfl, _, Eq.trans (World.drewN_drewN _ _ _) (congrArg (World.drewN _) (Nat.add_assoc _ _ _))⟩)) | (go_at_call 27; (with_reducible refine (mullionref05_four.calls t203 t204 _ A26.out).mono ?_); rintro e w' ⟨rfl, ⟨nd, rfl⟩⟩; (try first | exact ⟨rfl, _, World.drewN_drewN _ _ _⟩ | exact ⟨rfl, _, Eq.trans (World.drewN_drewN _ _ _) (congrArg (World.drewN _) (Nat.add_assoc _ _ _))⟩)) | (go_at_call 32; (with_reducible refine (mullionref05_cell.calls kj2 (a0.extract 5 a0.size) 0 t205 t206 t207 _ A31.out).mono ?_); rintro e w33 ⟨v208, rfl, ho0, hb⟩; have n0_ := Aside0.mk (Kd.R_lower ho0 (below_size (by repeat (first | (with_reducible first | exact HB.out | apply below_alloc | apply pw_below_drewN | apply below_drew1) | exact HB.out)))); have n1_ := Aside0.mk (below_step (by repeat (first | (with_reducible first | exact HB.out | apply below_alloc | apply pw_below_drewN | apply below_drew1) | exact HB.out)) hb); clear HB; have HO209 := n0_; have HB := n1_; clear n0_ n1_; (try clear hb); (try clear hb2); (try clear hk); (try clear hi); (try clear ho0)))
                 repeat (go_quiet (first | (go_at_call 28; (with_reducible refine (mullionref05_Sum.calls kj2 (a0.extract 5 a0.size) t203 _ A25.out).mono ?_); rintro e w' ⟨rfl, ⟨nd, rfl⟩⟩; (try first | exact ⟨rfl, _, World.drewN_drewN _ _ _⟩ | exact ⟨rfl, _, Eq.trans (World.drewN_drewN _ _ _) (congrArg (World.drewN _) (Nat.add_assoc _ _ _))⟩)) | (go_at_call 27; (with_reducible refine (mullionref05_four.calls t203 t204 _ A26.out).mono ?_); rintro e w' ⟨rfl, ⟨nd, rfl⟩⟩; (try first | exact ⟨rfl, _, World.drewN_drewN _ _ _⟩ | exact ⟨rfl, _, Eq.trans (World.drewN_drewN _ _ _) (congrArg (World.drewN _) (Nat.add_assoc _ _ _))⟩)) | (go_at_call 32; (with_reducible refine (mullionref05_cell.calls kj2 (a0.extract 5 a0.size) 0 t205 t206 t207 _ A31.out).mono ?_); rintro e w33 ⟨v208, rfl, ho0, hb⟩; have n0_ := Aside0.mk (Kd.R_lower ho0 (below_size (by repeat (first | (with_reducible first | exact HB.out | apply below_alloc | apply pw_below_drewN | apply below_drew1) | exact HB.out)))); have n1_ := Aside0.mk (below_step (by repeat (first | (with_reducible first | exact HB.out | apply below_alloc | apply pw_below_drewN | apply below_drew1) | exact HB.out)) hb); clear HB; have HO209 := n0_; have HB := n1_; clear n0_ n1_; (try clear hb); (try clear hb2); (try clear hk); (try clear hi); (try clear ho0))); go_upto_region 8 with (first | (go_at_call 28; (with_reducible refine (mullionref05_Sum.calls kj2 (a0.extract 5 a0.size) t203 _ A25.out).mono ?_); rintro e w' ⟨rfl, ⟨nd, rfl⟩⟩; (try first | exact ⟨rfl, _, World.drewN_drewN _ _ _⟩ | exact ⟨rfl, _, Eq.trans (World.drewN_drewN _ _ _) (congrArg (World.drewN _) (Nat.add_assoc _ _ _))⟩)) | (go_at_call 27; (with_reducible refine (mullionref05_four.calls t203 t204 _ A26.out).mono ?_); rintro e w' ⟨rfl, ⟨nd, rfl⟩⟩; (try first | exact ⟨rfl, _, World.drewN_drewN _ _ _⟩ | exact ⟨rfl, _, Eq.trans (World.drewN_drewN _ _ _) (congrArg (World.drewN _) (Nat.add_assoc _ _ _))⟩)) | (go_at_call 32; (with_reducible refine (mullionref05_cell.calls kj2 (a0.extract 5 a0.size) 0 t205 t206 t207 _ A31.out).mono ?_); rintro e w33 ⟨v208, rfl, ho0, hb⟩; have n0_ := Aside0.mk (Kd.R_lower ho0 (below_size (by repeat (first | (with_reducible first | exact HB.out | apply below_alloc | apply pw_below_drewN | apply below_drew1) | exact HB.out)))); have n1_ := Aside0.mk (below_step (by repeat (first | (with_reducible first | exact HB.out | apply below_alloc | apply pw_below_drewN | apply below_drew1) | exact HB.out)) hb); clear HB; have HO209 := n0_; have HB := n1_; clear n0_ n1_; (try clear hb); (try clear hb2); (try clear hk); (try clear hi); (try clear ho0))))
                 (try simp only [Act.put, List.setIfInBounds_toArray, List.set_cons_zero, List.set_cons_succ])
                 go_cut [61] (fun v61 wc => ∃ (kq : Nat) (x61_31 : Bool), v61 = .bool x61_31 ∧ Aside0 (mullionref05_Parse.j1 kq t205 x61_31 = some (r1, r2)) ∧ Aside0 (kq ≤ kj2) ∧ Aside0 (Kd.R k45 45 wc w.heap.size (fun _ => True) v208 t205) ∧ Aside0 (Below w.heap.size w wc))
                 case first =>
                   have H := HC32.out
                   clear HC32
                   by_cases c34 : t207 = true
                   · subst c34
                     have H1 : (mullionref05_Parse.j1 kj2 t205 (t206.toList != ([] : List UInt8))) = some (r1, r2) := by rw [if_pos rfl] at H; exact H
                     clear H
                     have H := H1
                     clear H1
                     have H' := Aside0.mk H
                     clear H
                     go_wp2
                     repeat (go_quiet (fail); try go_wp2)
                     go_meet
                     case rel => exact ⟨_, ((t206.toList != ([] : List UInt8))), (by first | rfl | (simp; done) | (simp [*]; done) | (simp; exact (show ∀ l_ : List UInt8, l_.isEmpty = !(l_ != []) from fun l_ => by cases l_ <;> rfl) _)), H', ⟨by have := HJ2.out; first | omega | exact Nat.le_refl _⟩, ⟨by (with_reducible repeat (first | apply Kd.R_alloc | apply Kd.R_drewN | apply Kd.R_drew)); exact HO209.out⟩, ⟨by repeat (first | (with_reducible first | exact HB.out | apply below_alloc | apply pw_below_drewN | apply below_drew1) | exact HB.out)⟩⟩
                   · replace c34 := Bool.eq_false_iff.mpr c34
                     subst c34
                     have H1 : (mullionref05_Parse.j1 kj2 t205 true) = some (r1, r2) := by rw [if_neg (show ¬ (false = true) by decide)] at H; exact H
                     clear H
                     have H := H1
                     clear H1
                     have H' := Aside0.mk H
                     clear H
                     go_wp2
                     repeat (go_quiet (fail); try go_wp2)
                     go_meet
                     case rel => exact ⟨_, (true), (by first | rfl | (simp; done) | (simp [*]; done)), H', ⟨by have := HJ2.out; first | omega | exact Nat.le_refl _⟩, ⟨by (with_reducible repeat (first | apply Kd.R_alloc | apply Kd.R_drewN | apply Kd.R_drew)); exact HO209.out⟩, ⟨by repeat (first | (with_reducible first | exact HB.out | apply below_alloc | apply pw_below_drewN | apply below_drew1) | exact HB.out)⟩⟩
                 case rest =>
                   clear HC32
                   try clear c1
                   try clear p1
                   try clear q1
                   try clear hx1
                   try clear qi1
                   try clear c2
                   try clear c2b0
                   try clear c2b1
                   try clear p2
                   try clear q2
                   try clear hx2
                   try clear qi2
                   try clear c3
                   try clear c4
                   try clear c4b0
                   try clear c4b1
                   try clear c5
                   try clear c5b0
                   try clear c5b1
                   try clear p6
                   try clear q6
                   try clear hx6
                   try clear qi6
                   try clear c8
                   try clear c9
                   try clear c9b0
                   try clear c9b1
                   try clear p10
                   try clear q10
                   try clear hx10
                   try clear qi10
                   try clear c12
                   try clear c13
                   try clear c13b0
                   try clear c13b1
                   try clear p14
                   try clear q14
                   try clear hx14
                   try clear qi14
                   try clear c16
                   try clear c17
                   try clear c17b0
                   try clear c17b1
                   try clear p18
                   try clear q18
                   try clear hx18
                   try clear qi18
                   try clear c20
                   try clear c21
                   try clear c21b0
                   try clear c21b1
                   try clear p22
                   try clear q22
                   try clear hx22
                   try clear qi22
                   try clear c23
                   try clear c24
                   try clear c24b0
                   try clear c24b1
                   try clear c27
                   try clear c27b0
                   try clear c27b1
                   try clear c28
                   try clear c28b0
                   try clear c28b1
                   try clear c29
                   try clear c29b0
                   try clear c29b1
                   try clear c30
                   try clear c30b0
                   try clear c34
                   try clear p1
                   try clear p10
                   try clear p14
                   try clear p18
                   try clear p2
                   try clear p22
                   try clear p6
                   try clear q1
                   try clear q10
                   try clear q14
                   try clear q18
                   try clear q2
                   try clear q22
                   try clear q6
                   obtain ⟨kq, x61_31, rfl, HA, HJ31, HO_4, HB⟩ := hcut
                   cases kq with
                   | zero => exact absurd HA.out (by simp [mullionref05_Parse.j1])
                   | succ kj31 =>
                     have H := HA.out
                     clear HA
                     simp only [mullionref05_Parse.j1] at H
                     by_cases c35 : x61_31 = true
                     · subst c35
                       have H1 : (some (([] : List (S45)), 50)) = some (r1, r2) := by rw [if_pos rfl] at H; exact H
                       clear H
                       have H := H1
                       clear H1
                       simp only [Option.some.injEq, Prod.mk.injEq] at H
                       obtain ⟨rfl, rfl⟩ := H
                       go_wp2
                       repeat (go_quiet (fail); try go_wp2)
                       go_ret2
                       exact ⟨_, by first | rfl | (simp [errW_none, errW_some] <;> rfl) | (simp [*, errW_none, errW_some] <;> rfl), by first | exact Kd.R_nil _ _ _ _ _ | exact Kd.N_nil _ _ _ _ _ | exact Kd.V_nil _ _ _ _ _ | exact Kd.Q_nil _ _ _ _ _ | exact Kd.S_nil _ _ _ _ _, by repeat (first | (with_reducible first | exact HB.out | apply below_alloc | apply pw_below_drewN | apply below_drew1) | exact HB.out)⟩
                     · replace c35 := Bool.eq_false_iff.mpr c35
                       subst c35
                       have H1 : ((mullionref04_Check.f kj31 t205).bind fun t210 => (if t210 = 0 then (some (t205, 0)) else (some (([] : List (S45)), 40)))) = some (r1, r2) := by rw [if_neg (show ¬ (false = true) by decide)] at H; exact H
                       clear H
                       have H := H1
                       clear H1
                       replace H := Option.bind_eq_some_iff.mp H
                       obtain ⟨t210, A360, H⟩ := H
                       replace H : (if t210 = 0 then (some (t205, 0)) else (some (([] : List (S45)), 40))) = some (r1, r2) := H
                       have A36 := Aside0.mk A360
                       clear A360
                       by_cases c37 : t210 = 0
                       · rw [if_pos c37] at H
                         have c37b0 : (t210 == 0) = true := beq_iff_eq.mpr c37
                         have c37b1 : (t210 != 0) = false := bne_eq_false_iff_eq.mpr c37
                         clear c37
                         simp only [Option.some.injEq, Prod.mk.injEq] at H
                         obtain ⟨rfl, rfl⟩ := H
                         obtain ⟨Ao38, co38, eo38⟩ := Kd.R_slice HO_4.out
                         subst eo38
                         go_wp2_with (first | (go_at_call 21; (with_reducible refine (mullionref04_Check.calls kj31 _ _ t205 t210 _ ?side1 ?side2 A36.out).mono ?_); (case side1 => repeat (first | exact (Kd.R_reads' HO_4.out).2.2 | (with_reducible refine Kd.C_alloc ?_ _) | (with_reducible refine Kd.C_drewN ?_ _) | (with_reducible refine Kd.C_drew ?_))); (case side2 => exact (Kd.R_reads' HO_4.out).2.1); rintro e w39 ⟨rfl, hb⟩; have n0_ := Aside0.mk (Kd.R_below (by (with_reducible repeat (first | apply Kd.R_alloc | apply Kd.R_drewN | apply Kd.R_drew)); exact HO_4.out) hb); have n1_ := Aside0.mk (below_step (by repeat (first | (with_reducible first | exact HB.out | apply below_alloc | apply pw_below_drewN | apply below_drew1) | exact HB.out)) hb); clear HO_4; clear HB; have HO_4 := n0_; have HB := n1_; clear n0_ n1_; (try clear hb); (try clear hb2); (try clear hk); (try clear hi)))
                         repeat (go_quiet (first | (go_at_call 21; (with_reducible refine (mullionref04_Check.calls kj31 _ _ t205 t210 _ ?side1 ?side2 A36.out).mono ?_); (case side1 => repeat (first | exact (Kd.R_reads' HO_4.out).2.2 | (with_reducible refine Kd.C_alloc ?_ _) | (with_reducible refine Kd.C_drewN ?_ _) | (with_reducible refine Kd.C_drew ?_))); (case side2 => exact (Kd.R_reads' HO_4.out).2.1); rintro e w39 ⟨rfl, hb⟩; have n0_ := Aside0.mk (Kd.R_below (by (with_reducible repeat (first | apply Kd.R_alloc | apply Kd.R_drewN | apply Kd.R_drew)); exact HO_4.out) hb); have n1_ := Aside0.mk (below_step (by repeat (first | (with_reducible first | exact HB.out | apply below_alloc | apply pw_below_drewN | apply below_drew1) | exact HB.out)) hb); clear HO_4; clear HB; have HO_4 := n0_; have HB := n1_; clear n0_ n1_; (try clear hb); (try clear hb2); (try clear hk); (try clear hi))); try go_wp2_with (first | (go_at_call 21; (with_reducible refine (mullionref04_Check.calls kj31 _ _ t205 t210 _ ?side1 ?side2 A36.out).mono ?_); (case side1 => repeat (first | exact (Kd.R_reads' HO_4.out).2.2 | (with_reducible refine Kd.C_alloc ?_ _) | (with_reducible refine Kd.C_drewN ?_ _) | (with_reducible refine Kd.C_drew ?_))); (case side2 => exact (Kd.R_reads' HO_4.out).2.1); rintro e w39 ⟨rfl, hb⟩; have n0_ := Aside0.mk (Kd.R_below (by (with_reducible repeat (first | apply Kd.R_alloc | apply Kd.R_drewN | apply Kd.R_drew)); exact HO_4.out) hb); have n1_ := Aside0.mk (below_step (by repeat (first | (with_reducible first | exact HB.out | apply below_alloc | apply pw_below_drewN | apply below_drew1) | exact HB.out)) hb); clear HO_4; clear HB; have HO_4 := n0_; have HB := n1_; clear n0_ n1_; (try clear hb); (try clear hb2); (try clear hk); (try clear hi))))
                         go_ret2
                         exact ⟨_, by first | rfl | (simp [errW_none, errW_some] <;> rfl) | (simp [*, errW_none, errW_some] <;> rfl), by (with_reducible repeat (first | apply Kd.R_alloc | apply Kd.R_drewN | apply Kd.R_drew)); exact HO_4.out, by repeat (first | (with_reducible first | exact HB.out | apply below_alloc | apply pw_below_drewN | apply below_drew1) | exact HB.out)⟩
                       · rw [if_neg c37] at H
                         have c37b0 : (t210 == 0) = false := beq_eq_false_iff_ne.mpr c37
                         have c37b1 : (t210 != 0) = true := bne_iff_ne.mpr c37
                         simp only [Option.some.injEq, Prod.mk.injEq] at H
                         obtain ⟨rfl, rfl⟩ := H
                         obtain ⟨Ao40, co40, eo40⟩ := Kd.R_slice HO_4.out
                         subst eo40
                         go_wp2_with (first | (go_at_call 21; (with_reducible refine (mullionref04_Check.calls kj31 _ _ t205 t210 _ ?side1 ?side2 A36.out).mono ?_); (case side1 => repeat (first | exact (Kd.R_reads' HO_4.out).2.2 | (with_reducible refine Kd.C_alloc ?_ _) | (with_reducible refine Kd.C_drewN ?_ _) | (with_reducible refine Kd.C_drew ?_))); (case side2 => exact (Kd.R_reads' HO_4.out).2.1); rintro e w41 ⟨rfl, hb⟩; have n0_ := Aside0.mk (Kd.R_below (by (with_reducible repeat (first | apply Kd.R_alloc | apply Kd.R_drewN | apply Kd.R_drew)); exact HO_4.out) hb); have n1_ := Aside0.mk (below_step (by repeat (first | (with_reducible first | exact HB.out | apply below_alloc | apply pw_below_drewN | apply below_drew1) | exact HB.out)) hb); clear HO_4; clear HB; have HO_4 := n0_; have HB := n1_; clear n0_ n1_; (try clear hb); (try clear hb2); (try clear hk); (try clear hi)))
                         repeat (go_quiet (first | (go_at_call 21; (with_reducible refine (mullionref04_Check.calls kj31 _ _ t205 t210 _ ?side1 ?side2 A36.out).mono ?_); (case side1 => repeat (first | exact (Kd.R_reads' HO_4.out).2.2 | (with_reducible refine Kd.C_alloc ?_ _) | (with_reducible refine Kd.C_drewN ?_ _) | (with_reducible refine Kd.C_drew ?_))); (case side2 => exact (Kd.R_reads' HO_4.out).2.1); rintro e w41 ⟨rfl, hb⟩; have n0_ := Aside0.mk (Kd.R_below (by (with_reducible repeat (first | apply Kd.R_alloc | apply Kd.R_drewN | apply Kd.R_drew)); exact HO_4.out) hb); have n1_ := Aside0.mk (below_step (by repeat (first | (with_reducible first | exact HB.out | apply below_alloc | apply pw_below_drewN | apply below_drew1) | exact HB.out)) hb); clear HO_4; clear HB; have HO_4 := n0_; have HB := n1_; clear n0_ n1_; (try clear hb); (try clear hb2); (try clear hk); (try clear hi))); try go_wp2_with (first | (go_at_call 21; (with_reducible refine (mullionref04_Check.calls kj31 _ _ t205 t210 _ ?side1 ?side2 A36.out).mono ?_); (case side1 => repeat (first | exact (Kd.R_reads' HO_4.out).2.2 | (with_reducible refine Kd.C_alloc ?_ _) | (with_reducible refine Kd.C_drewN ?_ _) | (with_reducible refine Kd.C_drew ?_))); (case side2 => exact (Kd.R_reads' HO_4.out).2.1); rintro e w41 ⟨rfl, hb⟩; have n0_ := Aside0.mk (Kd.R_below (by (with_reducible repeat (first | apply Kd.R_alloc | apply Kd.R_drewN | apply Kd.R_drew)); exact HO_4.out) hb); have n1_ := Aside0.mk (below_step (by repeat (first | (with_reducible first | exact HB.out | apply below_alloc | apply pw_below_drewN | apply below_drew1) | exact HB.out)) hb); clear HO_4; clear HB; have HO_4 := n0_; have HB := n1_; clear n0_ n1_; (try clear hb); (try clear hb2); (try clear hk); (try clear hi))))
                         go_ret2
                         exact ⟨_, by first | rfl | (simp [errW_none, errW_some] <;> rfl) | (simp [*, errW_none, errW_some] <;> rfl), by first | exact Kd.R_nil _ _ _ _ _ | exact Kd.N_nil _ _ _ _ _ | exact Kd.V_nil _ _ _ _ _ | exact Kd.Q_nil _ _ _ _ _ | exact Kd.S_nil _ _ _ _ _, by repeat (first | (with_reducible first | exact HB.out | apply below_alloc | apply pw_below_drewN | apply below_drew1) | exact HB.out)⟩
               · rw [if_neg c29] at H
                 have c29b0 : (t204.toList == (a0.extract 0 4).toList) = false := beq_eq_false_iff_ne.mpr c29
                 have c29b1 : (t204.toList != (a0.extract 0 4).toList) = true := bne_iff_ne.mpr c29
                 simp only [Option.some.injEq, Prod.mk.injEq] at H
                 obtain ⟨rfl, rfl⟩ := H
                 go_wp2_with (first | (go_at_call 28; (with_reducible refine (mullionref05_Sum.calls kj2 (a0.extract 5 a0.size) t203 _ A25.out).mono ?_); rintro e w' ⟨rfl, ⟨nd, rfl⟩⟩; (try first | exact ⟨rfl, _, World.drewN_drewN _ _ _⟩ | exact ⟨rfl, _, Eq.trans (World.drewN_drewN _ _ _) (congrArg (World.drewN _) (Nat.add_assoc _ _ _))⟩)) | (go_at_call 27; (with_reducible refine (mullionref05_four.calls t203 t204 _ A26.out).mono ?_); rintro e w' ⟨rfl, ⟨nd, rfl⟩⟩; (try first | exact ⟨rfl, _, World.drewN_drewN _ _ _⟩ | exact ⟨rfl, _, Eq.trans (World.drewN_drewN _ _ _) (congrArg (World.drewN _) (Nat.add_assoc _ _ _))⟩)))
                 repeat (go_quiet (first | (go_at_call 28; (with_reducible refine (mullionref05_Sum.calls kj2 (a0.extract 5 a0.size) t203 _ A25.out).mono ?_); rintro e w' ⟨rfl, ⟨nd, rfl⟩⟩; (try first | exact ⟨rfl, _, World.drewN_drewN _ _ _⟩ | exact ⟨rfl, _, Eq.trans (World.drewN_drewN _ _ _) (congrArg (World.drewN _) (Nat.add_assoc _ _ _))⟩)) | (go_at_call 27; (with_reducible refine (mullionref05_four.calls t203 t204 _ A26.out).mono ?_); rintro e w' ⟨rfl, ⟨nd, rfl⟩⟩; (try first | exact ⟨rfl, _, World.drewN_drewN _ _ _⟩ | exact ⟨rfl, _, Eq.trans (World.drewN_drewN _ _ _) (congrArg (World.drewN _) (Nat.add_assoc _ _ _))⟩))); try go_wp2_with (first | (go_at_call 28; (with_reducible refine (mullionref05_Sum.calls kj2 (a0.extract 5 a0.size) t203 _ A25.out).mono ?_); rintro e w' ⟨rfl, ⟨nd, rfl⟩⟩; (try first | exact ⟨rfl, _, World.drewN_drewN _ _ _⟩ | exact ⟨rfl, _, Eq.trans (World.drewN_drewN _ _ _) (congrArg (World.drewN _) (Nat.add_assoc _ _ _))⟩)) | (go_at_call 27; (with_reducible refine (mullionref05_four.calls t203 t204 _ A26.out).mono ?_); rintro e w' ⟨rfl, ⟨nd, rfl⟩⟩; (try first | exact ⟨rfl, _, World.drewN_drewN _ _ _⟩ | exact ⟨rfl, _, Eq.trans (World.drewN_drewN _ _ _) (congrArg (World.drewN _) (Nat.add_assoc _ _ _))⟩))))
                 go_ret2
                 exact ⟨_, by first | rfl | (simp [errW_none, errW_some] <;> rfl) | (simp [*, errW_none, errW_some] <;> rfl), by first | exact Kd.R_nil _ _ _ _ _ | exact Kd.N_nil _ _ _ _ _ | exact Kd.V_nil _ _ _ _ _ | exact Kd.Q_nil _ _ _ _ _ | exact Kd.S_nil _ _ _ _ _, by repeat (first | (with_reducible first | exact HB.out | apply below_alloc | apply pw_below_drewN | apply below_drew1) | exact HB.out)⟩
             · rw [if_neg c28] at H
               exact absurd H (by simp)
           · rw [if_neg c27] at H
             exact absurd H (by simp)
         · rw [if_neg c24] at H
           exact absurd H (by simp)
def mullionlaw05_PlanParses.f (k : Nat) (a0 : ByteArray) : Option (Bool) := (plan_Parse.f a0).bind fun bt211 => ((mullionref05_Parse.f k a0).bind fun bt215 => ((mullionlaw05_same.f k bt211.1 bt215.1).bind fun t219 => (if t219 = true then (if bt211.2 = bt215.2 then ((mullionlaw05_sure.f k).bind fun t220 => (some t220)) else (some false)) else (some false))))
theorem mullionlaw05_PlanParses.mono : ∀ a0 k, LeO (mullionlaw05_PlanParses.f k a0) (mullionlaw05_PlanParses.f (k + 1) a0) := by
 intro a0 k
 unfold mullionlaw05_PlanParses.f
 repeat' first
     | (with_reducible exact mullionlaw05_same.mono _ _ _)
     | (with_reducible exact mullionlaw05_sure.mono _)
     | (with_reducible exact mullionref05_Parse.mono _ _)
     | (with_reducible exact LeO.refl _)
     | (with_reducible exact LeO.none _)
     | (with_reducible refine LeO.ite ?_ ?_)
     | (with_reducible refine LeO.bind ?_ (fun _ => ?_))
     | exact mullionlaw05_same.mono _ _ _
     | exact mullionlaw05_sure.mono _
     | exact mullionref05_Parse.mono _ _
     | exact LeO.none _
     | refine LeO.ite ?_ ?_
     | refine LeO.bind ?_ (fun _ => ?_)
set_option maxHeartbeats 8000000 in
set_option maxRecDepth 100000 in
theorem mullionlaw05_PlanParses.calls (k : Nat) (a0 : ByteArray) (r : Bool) (w : World) (HG : Aside0 (Glb w)) (h : mullionlaw05_PlanParses.f k a0 = some r) :
   Calls Tryd.prog 4 #[.string a0] w fun e w' => e = .returned (.bool r) ∧ Below w.heap.size w w' := by
 have HB := Aside0.mk (Below.refl w.heap.size w)
 have H : ((plan_Parse.f a0).bind fun bt211 => ((mullionref05_Parse.f k a0).bind fun bt215 => ((mullionlaw05_same.f k bt211.1 bt215.1).bind fun t219 => (if t219 = true then (if bt211.2 = bt215.2 then ((mullionlaw05_sure.f k).bind fun t220 => (some t220)) else (some false)) else (some false))))) = some r := h
 clear h
 replace H := Option.bind_eq_some_iff.mp H
 obtain ⟨⟨t211, t212⟩, A20, H⟩ := H
 replace H : ((mullionref05_Parse.f k a0).bind fun bt215 => ((mullionlaw05_same.f k t211 bt215.1).bind fun t219 => (if t219 = true then (if t212 = bt215.2 then ((mullionlaw05_sure.f k).bind fun t220 => (some t220)) else (some false)) else (some false)))) = some r := H
 have A2 := Aside0.mk A20
 clear A20
 replace H := Option.bind_eq_some_iff.mp H
 obtain ⟨⟨t215, t216⟩, A30, H⟩ := H
 replace H : ((mullionlaw05_same.f k t211 t215).bind fun t219 => (if t219 = true then (if t212 = t216 then ((mullionlaw05_sure.f k).bind fun t220 => (some t220)) else (some false)) else (some false))) = some r := H
 have A3 := Aside0.mk A30
 clear A30
 replace H := Option.bind_eq_some_iff.mp H
 obtain ⟨t219, A40, H⟩ := H
 replace H : (if t219 = true then (if t212 = t216 then ((mullionlaw05_sure.f k).bind fun t220 => (some t220)) else (some false)) else (some false)) = some r := H
 have A4 := Aside0.mk A40
 clear A40
 by_cases c5 : t219 = true
 · subst c5
   have H1 : (if t212 = t216 then ((mullionlaw05_sure.f k).bind fun t220 => (some t220)) else (some false)) = some r := by rw [if_pos rfl] at H; exact H
   clear H
   have H := H1
   clear H1
   by_cases c6 : t212 = t216
   · rw [if_pos c6] at H
     have c6b0 : (t212 == t216) = true := beq_iff_eq.mpr c6
     have c6b1 : (t212 != t216) = false := bne_eq_false_iff_eq.mpr c6
     clear c6
     replace H := Option.bind_eq_some_iff.mp H
     obtain ⟨t220, A70, H⟩ := H
     replace H : (some t220) = some r := H
     have A7 := Aside0.mk A70
     clear A70
     obtain rfl := Option.some.inj H
     go_enter Tryd.func4, Tryd.ntmps4
     go_wp2_with (first | ((with_reducible refine gate_callee (f := 15) rfl ?_); refine goesL_ (some 9) rfl rfl Tryd.func15 (by kernel_rfl) rfl #[.string a0] rfl (by (try simp only [List.map_toArray, List.map_cons, List.map_nil]); first | done | rfl | (simp only [List.length_drop, List.length_take]; rfl)) ?_; (with_reducible refine (plan_Parse.calls a0 t211 t212 _ (by exact Aside0.mk (Glb.below HG.out (by repeat (first | (with_reducible first | exact HB.out | apply below_alloc | apply pw_below_drewN | apply below_drew1) | exact HB.out)))) A2.out).mono ?_); rintro e w8 ⟨v213, rfl, ho0, hb⟩; refine ⟨_, rfl, ?_⟩; have n0_ := Aside0.mk (Kd.R_lower ho0 (below_size (by repeat (first | (with_reducible first | exact HB.out | apply below_alloc | apply pw_below_drewN | apply below_drew1) | exact HB.out)))); have n1_ := Aside0.mk (below_step (by repeat (first | (with_reducible first | exact HB.out | apply below_alloc | apply pw_below_drewN | apply below_drew1) | exact HB.out)) hb); clear HB; have HO214 := n0_; have HB := n1_; clear n0_ n1_; (try clear hb); (try clear hb2); (try clear hk); (try clear hi); (try clear ho0)) | ((with_reducible refine gate_callee (f := 16) rfl ?_); refine goesL_ (some 14) rfl rfl Tryd.func16 (by kernel_rfl) rfl #[.string a0] rfl (by (try simp only [List.map_toArray, List.map_cons, List.map_nil]); first | done | rfl | (simp only [List.length_drop, List.length_take]; rfl)) ?_; (with_reducible refine (mullionref05_Parse.calls k a0 t215 t216 _ A3.out).mono ?_); rintro e w9 ⟨v217, rfl, ho0, hb⟩; refine ⟨_, rfl, ?_⟩; have n0_ := Aside0.mk (Kd.R_elder' (by (with_reducible repeat (first | apply Kd.R_alloc | apply Kd.R_drewN | apply Kd.R_drew)); exact HO214.out) (Kd.R_base ho0) hb); have n1_ := Aside0.mk (Kd.R_lower (Kd.R_new' ho0 (Kd.R_lt (by (with_reducible repeat (first | apply Kd.R_alloc | apply Kd.R_drewN | apply Kd.R_drew)); exact HO214.out))) (below_size (by repeat (first | (with_reducible first | exact HB.out | apply below_alloc | apply pw_below_drewN | apply below_drew1) | exact HB.out)))); have n2_ := Aside0.mk (below_step (by repeat (first | (with_reducible first | exact HB.out | apply below_alloc | apply pw_below_drewN | apply below_drew1) | exact HB.out)) hb); clear HO214; clear HB; have HO214 := n0_; have HO218 := n1_; have HB := n2_; clear n0_ n1_ n2_; (try clear hb); (try clear hb2); (try clear hk); (try clear hi); (try clear ho0); obtain ⟨Ao10, co10, eo10⟩ := Kd.R_slice HO214.out; subst eo10; obtain ⟨Ao11, co11, eo11⟩ := Kd.R_slice HO218.out; subst eo11) | ((with_reducible refine gate_callee (f := 13) rfl ?_); refine goesL_ (some 19) rfl rfl Tryd.func13 (by kernel_rfl) rfl #[.slice Ao10 t211.length co10, .slice Ao11 t215.length co11] rfl (by (try simp only [List.map_toArray, List.map_cons, List.map_nil]); first | done | rfl | (simp only [List.length_drop, List.length_take]; rfl)) ?_; (with_reducible refine (mullionlaw05_same.calls k _ _ t211 _ _ t215 true _ ?side1 ?side2 ?side3 ?side4 A4.out).mono ?_); (case side1 => repeat (first | exact (Kd.R_reads' HO214.out).2.2 | (with_reducible refine Kd.C_alloc ?_ _) | (with_reducible refine Kd.C_drewN ?_ _) | (with_reducible refine Kd.C_drew ?_))); (case side2 => exact (Kd.R_reads' HO214.out).2.1); (case side3 => repeat (first | exact (Kd.R_reads' HO218.out).2.2 | (with_reducible refine Kd.C_alloc ?_ _) | (with_reducible refine Kd.C_drewN ?_ _) | (with_reducible refine Kd.C_drew ?_))); (case side4 => exact (Kd.R_reads' HO218.out).2.1); rintro e w' ⟨rfl, ⟨nd, rfl⟩⟩; refine ⟨_, rfl, ?_⟩) | (go_at_call 14; (with_reducible refine (mullionlaw05_sure.calls k  t220 _ (by exact Aside0.mk (Glb.below HG.out (by repeat (first | (with_reducible first | exact HB.out | apply below_alloc | apply pw_below_drewN | apply below_drew1) | exact HB.out)))) A7.out).mono ?_); rintro e w12 ⟨rfl, hb⟩; have n0_ := Aside0.mk (Kd.R_below (by (with_reducible repeat (first | apply Kd.R_alloc | apply Kd.R_drewN | apply Kd.R_drew)); exact HO214.out) hb); have n1_ := Aside0.mk (Kd.R_below (by (with_reducible repeat (first | apply Kd.R_alloc | apply Kd.R_drewN | apply Kd.R_drew)); exact HO218.out) hb); have n2_ := Aside0.mk (below_step (by repeat (first | (with_reducible first | exact HB.out | apply below_alloc | apply pw_below_drewN | apply below_drew1) | exact HB.out)) hb); clear HO214; clear HO218; clear HB; have HO214 := n0_; have HO218 := n1_; have HB := n2_; clear n0_ n1_ n2_; (try clear hb); (try clear hb2); (try clear hk); (try clear hi)))
     go_ret
     exact ⟨by first | rfl | (simp [errW_none, errW_some] <;> rfl) | (simp [*, errW_none, errW_some] <;> rfl), by repeat (first | (with_reducible first | exact HB.out | apply below_alloc | apply pw_below_drewN | apply below_drew1) | exact HB.out)⟩
   · rw [if_neg c6] at H
     have c6b0 : (t212 == t216) = false := beq_eq_false_iff_ne.mpr c6
     have c6b1 : (t212 != t216) = true := bne_iff_ne.mpr c6
     obtain rfl := Option.some.inj H
     go_enter Tryd.func4, Tryd.ntmps4
     go_wp2_with (first | ((with_reducible refine gate_callee (f := 15) rfl ?_); refine goesL_ (some 9) rfl rfl Tryd.func15 (by kernel_rfl) rfl #[.string a0] rfl (by (try simp only [List.map_toArray, List.map_cons, List.map_nil]); first | done | rfl | (simp only [List.length_drop, List.length_take]; rfl)) ?_; (with_reducible refine (plan_Parse.calls a0 t211 t212 _ (by exact Aside0.mk (Glb.below HG.out (by repeat (first | (with_reducible first | exact HB.out | apply below_alloc | apply pw_below_drewN | apply below_drew1) | exact HB.out)))) A2.out).mono ?_); rintro e w13 ⟨v213, rfl, ho0, hb⟩; refine ⟨_, rfl, ?_⟩; have n0_ := Aside0.mk (Kd.R_lower ho0 (below_size (by repeat (first | (with_reducible first | exact HB.out | apply below_alloc | apply pw_below_drewN | apply below_drew1) | exact HB.out)))); have n1_ := Aside0.mk (below_step (by repeat (first | (with_reducible first | exact HB.out | apply below_alloc | apply pw_below_drewN | apply below_drew1) | exact HB.out)) hb); clear HB; have HO214 := n0_; have HB := n1_; clear n0_ n1_; (try clear hb); (try clear hb2); (try clear hk); (try clear hi); (try clear ho0)) | ((with_reducible refine gate_callee (f := 16) rfl ?_); refine goesL_ (some 14) rfl rfl Tryd.func16 (by kernel_rfl) rfl #[.string a0] rfl (by (try simp only [List.map_toArray, List.map_cons, List.map_nil]); first | done | rfl | (simp only [List.length_drop, List.length_take]; rfl)) ?_; (with_reducible refine (mullionref05_Parse.calls k a0 t215 t216 _ A3.out).mono ?_); rintro e w14 ⟨v217, rfl, ho0, hb⟩; refine ⟨_, rfl, ?_⟩; have n0_ := Aside0.mk (Kd.R_elder' (by (with_reducible repeat (first | apply Kd.R_alloc | apply Kd.R_drewN | apply Kd.R_drew)); exact HO214.out) (Kd.R_base ho0) hb); have n1_ := Aside0.mk (Kd.R_lower (Kd.R_new' ho0 (Kd.R_lt (by (with_reducible repeat (first | apply Kd.R_alloc | apply Kd.R_drewN | apply Kd.R_drew)); exact HO214.out))) (below_size (by repeat (first | (with_reducible first | exact HB.out | apply below_alloc | apply pw_below_drewN | apply below_drew1) | exact HB.out)))); have n2_ := Aside0.mk (below_step (by repeat (first | (with_reducible first | exact HB.out | apply below_alloc | apply pw_below_drewN | apply below_drew1) | exact HB.out)) hb); clear HO214; clear HB; have HO214 := n0_; have HO218 := n1_; have HB := n2_; clear n0_ n1_ n2_; (try clear hb); (try clear hb2); (try clear hk); (try clear hi); (try clear ho0); obtain ⟨Ao15, co15, eo15⟩ := Kd.R_slice HO214.out; subst eo15; obtain ⟨Ao16, co16, eo16⟩ := Kd.R_slice HO218.out; subst eo16) | ((with_reducible refine gate_callee (f := 13) rfl ?_); refine goesL_ (some 19) rfl rfl Tryd.func13 (by kernel_rfl) rfl #[.slice Ao15 t211.length co15, .slice Ao16 t215.length co16] rfl (by (try simp only [List.map_toArray, List.map_cons, List.map_nil]); first | done | rfl | (simp only [List.length_drop, List.length_take]; rfl)) ?_; (with_reducible refine (mullionlaw05_same.calls k _ _ t211 _ _ t215 true _ ?side1 ?side2 ?side3 ?side4 A4.out).mono ?_); (case side1 => repeat (first | exact (Kd.R_reads' HO214.out).2.2 | (with_reducible refine Kd.C_alloc ?_ _) | (with_reducible refine Kd.C_drewN ?_ _) | (with_reducible refine Kd.C_drew ?_))); (case side2 => exact (Kd.R_reads' HO214.out).2.1); (case side3 => repeat (first | exact (Kd.R_reads' HO218.out).2.2 | (with_reducible refine Kd.C_alloc ?_ _) | (with_reducible refine Kd.C_drewN ?_ _) | (with_reducible refine Kd.C_drew ?_))); (case side4 => exact (Kd.R_reads' HO218.out).2.1); rintro e w' ⟨rfl, ⟨nd, rfl⟩⟩; refine ⟨_, rfl, ?_⟩))
     go_ret
     exact ⟨by first | rfl | (simp [errW_none, errW_some] <;> rfl) | (simp [*, errW_none, errW_some] <;> rfl), by repeat (first | (with_reducible first | exact HB.out | apply below_alloc | apply pw_below_drewN | apply below_drew1) | exact HB.out)⟩
 · replace c5 := Bool.eq_false_iff.mpr c5
   subst c5
   have H1 : (some false) = some r := by rw [if_neg (show ¬ (false = true) by decide)] at H; exact H
   clear H
   have H := H1
   clear H1
   obtain rfl := Option.some.inj H
   go_enter Tryd.func4, Tryd.ntmps4
   go_wp2_with (first | ((with_reducible refine gate_callee (f := 15) rfl ?_); refine goesL_ (some 9) rfl rfl Tryd.func15 (by kernel_rfl) rfl #[.string a0] rfl (by (try simp only [List.map_toArray, List.map_cons, List.map_nil]); first | done | rfl | (simp only [List.length_drop, List.length_take]; rfl)) ?_; (with_reducible refine (plan_Parse.calls a0 t211 t212 _ (by exact Aside0.mk (Glb.below HG.out (by repeat (first | (with_reducible first | exact HB.out | apply below_alloc | apply pw_below_drewN | apply below_drew1) | exact HB.out)))) A2.out).mono ?_); rintro e w17 ⟨v213, rfl, ho0, hb⟩; refine ⟨_, rfl, ?_⟩; have n0_ := Aside0.mk (Kd.R_lower ho0 (below_size (by repeat (first | (with_reducible first | exact HB.out | apply below_alloc | apply pw_below_drewN | apply below_drew1) | exact HB.out)))); have n1_ := Aside0.mk (below_step (by repeat (first | (with_reducible first | exact HB.out | apply below_alloc | apply pw_below_drewN | apply below_drew1) | exact HB.out)) hb); clear HB; have HO214 := n0_; have HB := n1_; clear n0_ n1_; (try clear hb); (try clear hb2); (try clear hk); (try clear hi); (try clear ho0)) | ((with_reducible refine gate_callee (f := 16) rfl ?_); refine goesL_ (some 14) rfl rfl Tryd.func16 (by kernel_rfl) rfl #[.string a0] rfl (by (try simp only [List.map_toArray, List.map_cons, List.map_nil]); first | done | rfl | (simp only [List.length_drop, List.length_take]; rfl)) ?_; (with_reducible refine (mullionref05_Parse.calls k a0 t215 t216 _ A3.out).mono ?_); rintro e w18 ⟨v217, rfl, ho0, hb⟩; refine ⟨_, rfl, ?_⟩; have n0_ := Aside0.mk (Kd.R_elder' (by (with_reducible repeat (first | apply Kd.R_alloc | apply Kd.R_drewN | apply Kd.R_drew)); exact HO214.out) (Kd.R_base ho0) hb); have n1_ := Aside0.mk (Kd.R_lower (Kd.R_new' ho0 (Kd.R_lt (by (with_reducible repeat (first | apply Kd.R_alloc | apply Kd.R_drewN | apply Kd.R_drew)); exact HO214.out))) (below_size (by repeat (first | (with_reducible first | exact HB.out | apply below_alloc | apply pw_below_drewN | apply below_drew1) | exact HB.out)))); have n2_ := Aside0.mk (below_step (by repeat (first | (with_reducible first | exact HB.out | apply below_alloc | apply pw_below_drewN | apply below_drew1) | exact HB.out)) hb); clear HO214; clear HB; have HO214 := n0_; have HO218 := n1_; have HB := n2_; clear n0_ n1_ n2_; (try clear hb); (try clear hb2); (try clear hk); (try clear hi); (try clear ho0); obtain ⟨Ao19, co19, eo19⟩ := Kd.R_slice HO214.out; subst eo19; obtain ⟨Ao20, co20, eo20⟩ := Kd.R_slice HO218.out; subst eo20) | ((with_reducible refine gate_callee (f := 13) rfl ?_); refine goesL_ (some 19) rfl rfl Tryd.func13 (by kernel_rfl) rfl #[.slice Ao19 t211.length co19, .slice Ao20 t215.length co20] rfl (by (try simp only [List.map_toArray, List.map_cons, List.map_nil]); first | done | rfl | (simp only [List.length_drop, List.length_take]; rfl)) ?_; (with_reducible refine (mullionlaw05_same.calls k _ _ t211 _ _ t215 false _ ?side1 ?side2 ?side3 ?side4 A4.out).mono ?_); (case side1 => repeat (first | exact (Kd.R_reads' HO214.out).2.2 | (with_reducible refine Kd.C_alloc ?_ _) | (with_reducible refine Kd.C_drewN ?_ _) | (with_reducible refine Kd.C_drew ?_))); (case side2 => exact (Kd.R_reads' HO214.out).2.1); (case side3 => repeat (first | exact (Kd.R_reads' HO218.out).2.2 | (with_reducible refine Kd.C_alloc ?_ _) | (with_reducible refine Kd.C_drewN ?_ _) | (with_reducible refine Kd.C_drew ?_))); (case side4 => exact (Kd.R_reads' HO218.out).2.1); rintro e w' ⟨rfl, ⟨nd, rfl⟩⟩; refine ⟨_, rfl, ?_⟩))
   go_ret
   exact ⟨by first | rfl | (simp [errW_none, errW_some] <;> rfl) | (simp [*, errW_none, errW_some] <;> rfl), by repeat (first | (with_reducible first | exact HB.out | apply below_alloc | apply pw_below_drewN | apply below_drew1) | exact HB.out)⟩
end Go.Proofs.YtmpnkckaohfflaaDoor.V
end
section
namespace Go.Proofs.YtmpnkckaohfflaaDoor.PGiv
open Go.RowKit Go.Proofs.YtmpnkckaohfflaaDoorW.PrintWords Go.Proofs.YtmpnkckaohfflaaDoor.K Go.Proofs.YtmpnkckaohfflaaDoor.Num Go.Proofs.YtmpnkckaohfflaaDoor.Txt Go.Proofs.YtmpnkckaohfflaaDoor.L
set_option linter.unusedVariables false
set_option linter.unusedSimpArgs false
theorem same_lL (a b : List S45) (hn : a.length = b.length) (hb : a.length ≤ 2513169434916) : ∀ (k i : Nat), i ≤ a.length → a.length < k + i → mullionlaw05_same.l0 k a b (i : Int) = some (decide (a.drop i = b.drop i)) := by
 intro k
 induction k with
 | zero => intro i h1 h2; omega
 | succ k ih =>
   intro i h1 h2
   rw [mullionlaw05_same.l0]
   by_cases hi : i < a.length
   · have hi' : i < b.length := by omega
     rw [if_pos (by omega), if_pos (by omega), if_pos (by omega), rd_at a i hi, rd_at b i hi']
     have da : a.drop i = a[i] :: a.drop (i + 1) := List.drop_eq_getElem_cons hi
     have db : b.drop i = b[i] :: b.drop (i + 1) := List.drop_eq_getElem_cons hi'
     have hw : wrap64 ((i : Int) + 1) = ((i + 1 : Nat) : Int) := (IntWalk.wrap64_in _ (by omega)).trans (by omega)
     have hiff : (a.drop i = b.drop i) ↔ (a[i] = b[i] ∧ a.drop (i + 1) = b.drop (i + 1)) := by
       rw [da, db]
       simp only [List.cons.injEq]
     split
     · rename_i h
       have hne : ¬ a.drop i = b.drop i := fun e => by
         rw [(hiff.1 e).1] at h
         simp at h
       simp only [hne, decide_false]
     · rename_i h
       have e := cell_eq (by simpa using h)
       rw [hw, ih (i + 1) (by omega) (by omega)]
       simp only [hiff, e, true_and]
   · rw [if_neg (by omega), List.drop_eq_nil_of_le (by omega), List.drop_eq_nil_of_le (by omega)]
     simp
theorem same_fL (a b : List S45) (hb : a.length ≤ 2513169434916) (k : Nat) (hk : a.length < k) : mullionlaw05_same.f k a b = some (decide (a = b)) := by
 rw [mullionlaw05_same.f]
 by_cases hn : a.length = b.length
 · rw [if_pos (by omega)]
   have := same_lL a b hn hb k 0 (by omega) (by omega)
   simpa using this
 · rw [if_neg (by omega)]
   have : ¬ a = b := fun e => hn (by rw [e])
   simp [this]
theorem sure_fL (k : Nat) (hk : 2 ≤ k) : mullionlaw05_sure.f k = some true := by
 have hT : plan_Text.f [⟨0, 1, 0, 0, 80, 24, 1⟩] = some (sureT, 0) := by
   rcases parse_cases sureT with ⟨e, _, h⟩ | ⟨L, h, ht, _⟩
   · rw [sure_parse] at h
     simp at h
   · rw [sure_parse] at h
     obtain ⟨h1, _⟩ := Prod.mk.inj (Option.some.inj h)
     rw [h1]
     exact ht
 unfold mullionlaw05_sure.f
 simp only [Option.bind_some]
 rw [hT]
 simp only [Option.bind_some]
 rw [show (⟨#[98, 50, 53, 101, 44, 56, 48, 120, 50, 52, 44, 48, 44, 48, 44, 49]⟩ : ByteArray) = sureT from rfl, sure_parse]
 simp only [Option.bind_some]
 rw [if_pos (by rw [toList_by]; rfl), if_pos trivial, same_fL _ _ (by simp) k (by simp; omega)]
 simp
end Go.Proofs.YtmpnkckaohfflaaDoor.PGiv
end
section
namespace Go.Proofs.YtmpnkckaohfflaaDoor.PGiv
open Go.RowKit Go.Proofs.YtmpnkckaohfflaaDoorW.PrintWords Go.Proofs.YtmpnkckaohfflaaDoor.K Go.Proofs.YtmpnkckaohfflaaDoor.Num Go.Proofs.YtmpnkckaohfflaaDoor.Txt Go.Proofs.YtmpnkckaohfflaaDoor.L
set_option linter.unusedVariables false
set_option linter.unusedSimpArgs false
theorem sub_list (s : ByteArray) (a : Nat) : (s.extract a s.size).data.toList = (By s).drop a := by
 obtain ⟨l, rfl⟩ : ∃ l, s = S l := ⟨s.data.toList, S_of s⟩
 rw [S_extract, S_size]
 show (l.drop a).take (l.length - a) = l.drop a
 rw [List.take_of_length_le (by simp)]
theorem sub_size (s : ByteArray) (a : Nat) : (s.extract a s.size).size = s.size - a := by
 rw [← data_len, sub_list, List.length_drop]
 rw [show (By s).length = s.size from data_len s]
theorem sub_sub (s : ByteArray) (a i : Nat) : (s.extract a s.size).extract i (s.extract a s.size).size = s.extract (a + i) s.size := by
 apply by_ext
 show ((s.extract a s.size).extract i (s.extract a s.size).size).data.toList = (s.extract (a + i) s.size).data.toList
 rw [sub_list, sub_list]
 show List.drop i (s.extract a s.size).data.toList = _
 rw [sub_list, List.drop_drop]
theorem sub_bt (s : ByteArray) (a : Nat) (h : a < s.size) : bt (s.extract a s.size) 0 = ((s[a]'h).toNat : Int) := by
 have e : s.extract a s.size = S ((By s).drop a) := by
   apply by_ext
   show (s.extract a s.size).data.toList = _
   rw [sub_list]
 have hl : a < (By s).length := by rw [show (By s).length = s.size from data_len s]; exact h
 rw [e, List.drop_eq_getElem_cons hl, bt_head]
 congr 2
theorem dig_end (s : ByteArray) : ∀ k a, a ≤ s.size → s.size - a ≤ k → digEnd k s a = a + (((By s).drop a).takeWhile isDig).length
 | 0, a, h, hk => by
   rw [digEnd, List.drop_eq_nil_of_le (by rw [show (By s).length = s.size from data_len s]; omega)]
   rfl
 | k + 1, a, h, hk => by
   rw [digEnd]
   by_cases ha : a < s.size
   · have hl : a < (By s).length := by rw [show (By s).length = s.size from data_len s]; exact ha
     have e : (By s)[a] = s[a] := rfl
     rw [dif_pos ha, List.drop_eq_getElem_cons hl, List.takeWhile_cons, e]
     by_cases hd : 48 ≤ s[a].toNat ∧ s[a].toNat ≤ 57
     · have h1 : isDig s[a] = true := by simp [isDig, hd]
       rw [if_pos hd, h1, if_pos rfl, dig_end s k (a + 1) (by omega) (by omega), List.length_cons]
       omega
     · have h1 : isDig s[a] = false := by
         cases hh : isDig s[a]
         · rfl
         · have := (isDig_iff _).1 hh
           omega
       rw [if_neg hd, h1]
       rfl
   · rw [dif_neg ha, List.drop_eq_nil_of_le (by rw [show (By s).length = s.size from data_len s]; omega)]
     rfl
theorem numV_rd (s : ByteArray) (a : Nat) (hs : s.size ≤ 2048) (ha : a ≤ s.size) :
   (∀ n E, rdNumber s a = some (n, E) → numV (s.extract a s.size) = some (n, s.extract E s.size, true) ∧ a ≤ E ∧ E ≤ s.size) ∧ (rdNumber s a = none → ∃ n t, numV (s.extract a s.size) = some (n, t, false)) := by
 have hE := dig_end s (s.size - a) a ha (Nat.le_refl _)
 have hle := digEnd_le s (s.size - a) a ha
 have hD : (s.extract a (digEnd (s.size - a) s a)).data.toList = ((By s).drop a).takeWhile isDig := by
   have : (s.extract a (digEnd (s.size - a) s a)).data.toList = ((By s).drop a).take (digEnd (s.size - a) s a - a) := by
     obtain ⟨l, hl⟩ : ∃ l, s = S l := ⟨s.data.toList, S_of s⟩
     generalize digEnd (s.size - a) s a = e
     subst hl
     rw [S_extract]
   rw [this, hE, Nat.add_sub_cancel_left]
   generalize (By s).drop a = l
   have h2 : l = l.takeWhile isDig ++ l.dropWhile isDig := (List.takeWhile_append_dropWhile).symm
   generalize hT : l.takeWhile isDig = T at *
   rw [h2]
   simp
 have hV : numV (s.extract a s.size) = some ((numOf (((By s).drop a).takeWhile isDig)).1, s.extract (digEnd (s.size - a) s a) s.size, (numOf (((By s).drop a).takeWhile isDig)).2) := by
   unfold numV
   rw [if_neg (by rw [sub_size]; omega)]
   simp only
   rw [sub_list, sub_sub, hE]
 unfold rdNumber
 rw [hD, hV]
 constructor
 · intro n E h
   split at h
   · rename_i h1
     simp only [Option.some.injEq, Prod.mk.injEq] at h
     obtain ⟨rfl, rfl⟩ := h
     rw [h1]
     exact ⟨rfl, hle⟩
   · cases h
 · intro h
   split at h
   · cases h
   · rename_i h1
     exact ⟨_, _, by rw [Bool.eq_false_iff.2 h1]⟩
theorem after_must (s : ByteArray) (E : Nat) (c : UInt8) (hE : E ≤ s.size) :
   (∀ a', rdMust s E c = some a' → mullionref05_after.f (s.extract E s.size) (c.toNat : Int) true = some (s.extract a' s.size, true) ∧ E < a' ∧ a' ≤ s.size) ∧ (rdMust s E c = none → mullionref05_after.f (s.extract E s.size) (c.toNat : Int) true = some ((⟨#[]⟩ : ByteArray), false)) := by
 unfold rdMust rdNext mullionref05_after.f
 rw [if_pos rfl, Lib.toList_data, sub_list]
 by_cases h : E < s.size
 · have hl : E < (By s).length := by rw [show (By s).length = s.size from data_len s]; exact h
   rw [dif_pos h, if_neg (by rw [List.drop_eq_getElem_cons hl]; simp), if_pos (by rw [sub_size]; omega), sub_bt s E h]
   simp only
   by_cases e : s[E] = c
   · rw [if_pos e, if_pos (by rw [e]), if_pos (by rw [sub_size]; omega), sub_sub]
     refine ⟨fun a' h' => ?_, fun h' => by cases h'⟩
     obtain rfl := Option.some.inj h'
     exact ⟨rfl, by omega, by omega⟩
   · rw [if_neg e, if_neg (byte_ne e)]
     exact ⟨fun a' h' => (by cases h'), fun _ => rfl⟩
 · rw [dif_neg h, if_pos (List.drop_eq_nil_of_le (by rw [show (By s).length = s.size from data_len s]; omega))]
   exact ⟨fun a' h' => (by cases h'), fun _ => rfl⟩
abbrev RR := Option (List S45 × Nat)
def stageW (c : Int) (s : ByteArray) (X : Int → ByteArray → Option RC) : Option RC := (numV s).bind fun t => (mullionref05_after.f t.2.1 c t.2.2).bind fun u => if u.2 = true then X t.1 u.1 else failR
def stageR (s : ByteArray) (a : Nat) (c : UInt8) (K : Int → Nat → Option RR) : Option RR :=
 match rdNumber s a with
 | none => some none
 | some (n, E) => match rdMust s E c with
   | none => some none
   | some a' => K n a'
def endR (k : Nat) (s : ByteArray) (L : List S45) (d W H X : Int) (a : Nat) : Option RR :=
 match rdNumber s a with
 | none => some none
 | some (Y, a7) => match rdNext s a7 with
   | none => some none
   | some (c, a8) => if c = 44 then (match rdNumber s a8 with
       | none => some none
       | some (id, a9) => some (some (L ++ [⟨d, 1, X, Y, W, H, id⟩], a9)))
     else if c = 123 then loopR k s a8 (L ++ [⟨d, 2, X, Y, W, H, 0⟩]) d 125
     else if c = 91 then loopR k s a8 (L ++ [⟨d, 3, X, Y, W, H, 0⟩]) d 93
     else some none
theorem cellR_eq (k : Nat) (s : ByteArray) (a : Nat) (L : List S45) (d : Int) : cellR (k + 1) s a L d = stageR s a 120 fun W a => stageR s a 44 fun H a => stageR s a 44 fun X a => endR k s L d W H X a := by
 rw [cellR]
 rfl
theorem cellW_eq (P : S45 → ByteArray → Int → Option RC) (s : ByteArray) (d : Int) : cellW P s d = stageW 120 s fun W s => stageW 44 s fun H s => stageW 44 s fun X s => (numV s).bind fun t4 => if t4.2.2 = true then tailW P t4.2.1 d X t4.1 W H else failR := rfl
def Rel (s : ByteArray) (a : Nat) (L out : List S45) (r : RR) (R : RC) : Prop :=
 match r with
 | none => R.2.2 = false
 | some (L', a') => ∃ C, L' = L ++ C ∧ R = (out ++ C, s.extract a' s.size, true) ∧ a + C.length ≤ a' ∧ a' ≤ s.size
theorem Rel.back {s : ByteArray} {a b : Nat} {L out : List S45} {r : RR} {R : RC} (h : Rel s a L out r R) (hb : b ≤ a) : Rel s b L out r R := by
 unfold Rel at *
 match r, h with
 | none, h => exact h
 | some (L', a'), ⟨C, h1, h2, h3, h4⟩ => exact ⟨C, h1, h2, by omega, h4⟩
theorem Rel.fail {s : ByteArray} {a : Nat} {L out : List S45} : ∃ R, failR = some R ∧ Rel s a L out none R := ⟨_, rfl, rfl⟩
theorem stage_rel {s : ByteArray} {a : Nat} (hs : s.size ≤ 2048) (ha : a ≤ s.size) (c : UInt8) {L out : List S45} {K : Int → Nat → Option RR} {X : Int → ByteArray → Option RC} {r : RR} (h : stageR s a c K = some r)
   (hX : ∀ n a', a < a' → a' ≤ s.size → K n a' = some r → ∃ R, X n (s.extract a' s.size) = some R ∧ Rel s a' L out r R) : ∃ R, stageW (c.toNat : Int) (s.extract a s.size) X = some R ∧ Rel s a L out r R := by
 obtain ⟨n1, n2⟩ := numV_rd s a hs ha
 unfold stageR at h
 unfold stageW
 split at h
 · rename_i hn
   obtain rfl := Option.some.inj h
   obtain ⟨n, t, hv⟩ := n2 hn
   rw [hv]
   simp only [Option.bind_some]
   rw [mullionref05_after.f, if_neg (by simp)]
   exact Rel.fail
 · rename_i n E hn
   obtain ⟨hv, hE0, hE1⟩ := n1 n E hn
   obtain ⟨m1, m2⟩ := after_must s E c hE1
   rw [hv]
   simp only [Option.bind_some]
   split at h
   · rename_i hm
     obtain rfl := Option.some.inj h
     rw [m2 hm]
     exact Rel.fail
   · rename_i a' hm
     obtain ⟨e, h1, h2⟩ := m1 a' hm
     rw [e]
     simp only [Option.bind_some, if_true]
     obtain ⟨R, hR, hrel⟩ := hX n a' (by omega) h2 h
     exact ⟨R, hR, hrel.back (by omega)⟩
theorem read_rel (s : ByteArray) (hs : s.size ≤ 2048) : ∀ k, (∀ m a L d r, a ≤ s.size → 2 * k ≤ m → cellR k s a L d = some r → ∃ R, cellW (fun c s sh => loopG m c [c] s sh) (s.extract a s.size) d = some R ∧ Rel s a L [] r R) ∧
   (∀ m a L d sh out (c : S45) r, 1 ≤ a → a ≤ s.size → 2 * k ≤ m → c.f0 = d → out.length + (s.size - a) ≤ 1000000 → loopR k s a L d sh = some r → ∃ R, loopG m c out (s.extract (a - 1) s.size) (sh.toNat : Int) = some R ∧ Rel s a L out r R) := by
 intro k
 induction k with
 | zero => exact ⟨fun m a L d r _ _ h => by simp [cellR] at h, fun m a L d sh out c r _ _ _ _ _ h => by simp [loopR] at h⟩
 | succ k ih =>
   obtain ⟨ih1, ih2⟩ := ih
   constructor
   · intro m a L d r ha hm h
     rw [cellR_eq] at h
     rw [cellW_eq]
     refine stage_rel hs ha 120 h fun W a1 h1 h1' h => ?_
     refine stage_rel hs h1' 44 h fun H a2 h2 h2' h => ?_
     refine stage_rel hs h2' 44 h fun X a3 h3 h3' h => ?_
     obtain ⟨n1, n2⟩ := numV_rd s a3 hs h3'
     unfold endR at h
     split at h
     · rename_i hn
       obtain rfl := Option.some.inj h
       obtain ⟨n, t, hv⟩ := n2 hn
       rw [hv]
       exact Rel.fail
     · rename_i Y a7 hn
       obtain ⟨hv, h7, h7'⟩ := n1 Y a7 hn
       rw [hv]
       simp only [Option.bind_some, if_true]
       unfold tailW
       unfold rdNext at h
       by_cases hz : a7 < s.size
       case neg =>
         rw [dif_neg hz] at h
         obtain rfl := Option.some.inj h
         rw [if_pos (by rw [sub_size]; omega)]
         exact Rel.fail
       rw [dif_pos hz] at h
       simp only at h
       rw [if_neg (by rw [sub_size]; omega), sub_bt s a7 hz]
       by_cases c1 : s[a7] = 44
       · rw [if_pos c1] at h
         rw [if_pos (by rw [c1]; rfl), sub_sub]
         obtain ⟨n1, n2⟩ := numV_rd s (a7 + 1) hs (by omega)
         split at h
         · rename_i hn
           obtain rfl := Option.some.inj h
           obtain ⟨n, t, hv⟩ := n2 hn
           rw [hv]
           exact ⟨_, rfl, rfl⟩
         · rename_i id a9 hn
           obtain rfl := Option.some.inj h
           obtain ⟨hv, h9, h9'⟩ := n1 id a9 hn
           rw [hv]
           exact ⟨_, rfl, _, rfl, rfl, by simp; omega, h9'⟩
       · rw [if_neg c1] at h
         rw [if_neg (fun e => c1 (Txt.ext _ _ (by have : ((44 : UInt8).toNat : Int) = 44 := rfl; omega)))]
         by_cases c2 : s[a7] = 123
         · rw [if_pos c2] at h
           rw [if_pos (by rw [c2]; rfl)]
           obtain ⟨R, hR, hrel⟩ := ih2 m (a7 + 1) _ d 125 [⟨d, 2, X, Y, W, H, 0⟩] ⟨d, 2, X, Y, W, H, 0⟩ r (by omega) (by omega) (by omega) rfl (by simp; omega) h
           refine ⟨R, hR, ?_⟩
           match r, hrel with
           | none, h => exact h
           | some (L', a'), ⟨C, e1, e2, e3, e4⟩ => exact ⟨_ :: C, by rw [e1]; simp, e2, by simp; omega, e4⟩
         · rw [if_neg c2] at h
           rw [if_neg (fun e => c2 (Txt.ext _ _ (by have : ((123 : UInt8).toNat : Int) = 123 := rfl; omega)))]
           by_cases c3 : s[a7] = 91
           · rw [if_pos c3] at h
             rw [if_pos (by rw [c3]; rfl)]
             obtain ⟨R, hR, hrel⟩ := ih2 m (a7 + 1) _ d 93 [⟨d, 3, X, Y, W, H, 0⟩] ⟨d, 3, X, Y, W, H, 0⟩ r (by omega) (by omega) (by omega) rfl (by simp; omega) h
             refine ⟨R, hR, ?_⟩
             match r, hrel with
             | none, h => exact h
             | some (L', a'), ⟨C, e1, e2, e3, e4⟩ => exact ⟨_ :: C, by rw [e1]; simp, e2, by simp; omega, e4⟩
           · rw [if_neg c3] at h
             rw [if_neg (fun e => c3 (Txt.ext _ _ (by have : ((91 : UInt8).toNat : Int) = 91 := rfl; omega)))]
             obtain rfl := Option.some.inj h
             exact Rel.fail
   · intro m a L d sh out c r ha1 ha hm hc hout h
     obtain ⟨m, rfl⟩ : ∃ j, m = j + 2 := ⟨m - 2, by omega⟩
     rw [loopR] at h
     rw [loopG, if_neg (by rw [sub_size]; omega), sub_sub, hc]
     have ea : a - 1 + 1 = a := by omega
     rw [ea]
     obtain ⟨r0, h0, h⟩ := Option.bind_eq_some_iff.1 h
     obtain ⟨R0, hR0, hrel0⟩ := ih1 m a L (wrap64 (d + 1)) r0 ha (by omega) h0
     rw [hR0]
     simp only [Option.bind_some]
     unfold stepW
     match r0, hrel0 with
     | none, hf =>
       simp only at h
       obtain rfl := Option.some.inj h
       have hf : R0.2.2 = false := hf
       rw [if_pos (.inl hf)]
       exact Rel.fail
     | some (L', a'), ⟨C, e1, e2, e3, e4⟩ =>
       subst e1 e2
       simp only at h
       unfold rdNext at h
       by_cases hz : a' < s.size
       case neg =>
         rw [dif_neg hz] at h
         obtain rfl := Option.some.inj h
         rw [if_pos (.inr (by rw [sub_size]; omega))]
         exact Rel.fail
       rw [dif_pos hz] at h
       simp only at h
       have hb := sub_bt s a' hz
       simp only [List.nil_append]
       rw [if_neg (by rw [sub_size]; simp; omega), if_neg (by omega), hb]
       by_cases c1 : s[a'] = sh
       · rw [if_pos c1] at h
         obtain rfl := Option.some.inj h
         rw [if_pos (by rw [c1]), sub_sub]
         exact ⟨_, rfl, C, rfl, rfl, by omega, by omega⟩
       · rw [if_neg c1] at h
         rw [if_neg (byte_ne c1)]
         by_cases c2 : s[a'] = 44
         · rw [if_pos c2] at h
           rw [if_pos (by rw [c2]; rfl)]
           obtain ⟨R, hR, hrel⟩ := ih2 m (a' + 1) (L ++ C) d sh (out ++ C) c r (by omega) (by omega) (by omega) hc (by rw [List.length_append]; omega) h
           refine ⟨R, hR, ?_⟩
           match r, hrel with
           | none, h => exact h
           | some (L'', a''), ⟨C2, e1, e2, e3, e4⟩ => exact ⟨C ++ C2, by rw [e1]; simp, by rw [e2]; simp, by rw [List.length_append]; omega, e4⟩
         · rw [if_neg c2] at h
           rw [if_neg (fun e => c2 (Txt.ext _ _ (by have : ((44 : UInt8).toNat : Int) = 44 := rfl; omega)))]
           obtain rfl := Option.some.inj h
           exact Rel.fail
theorem idx_hex : ∀ n : Nat, n < 256 → (decide (0 ≤ Lib.indexByte hexD.data.toList (UInt8.ofNat n)) = true ↔ ((48 ≤ (n : Int) ∧ (n : Int) ≤ 57) ∨ (97 ≤ (n : Int) ∧ (n : Int) ≤ 102))) := by decide +kernel
theorem hex_f (c : UInt8) : mullionref05_hex.f (c.toNat : Int) = some (decide (0 ≤ Lib.indexByte hexD.data.toList c)) := by
 have h := idx_hex c.toNat c.toNat_lt
 rw [UInt8.ofNat_toNat] at h
 generalize decide (0 ≤ Lib.indexByte hexD.data.toList c) = b at *
 unfold mullionref05_hex.f
 have yes : ((48 ≤ (c.toNat : Int) ∧ (c.toNat : Int) ≤ 57) ∨ (97 ≤ (c.toNat : Int) ∧ (c.toNat : Int) ≤ 102)) → some true = some b := fun g => by rw [h.2 g]
 have no : ¬ ((48 ≤ (c.toNat : Int) ∧ (c.toNat : Int) ≤ 57) ∨ (97 ≤ (c.toNat : Int) ∧ (c.toNat : Int) ≤ 102)) → some false = some b := fun g => by rw [Bool.eq_false_iff.2 fun e => g (h.1 e)]
 by_cases a1 : (c.toNat : Int) ≥ 48
 · rw [if_pos a1]
   by_cases a2 : (c.toNat : Int) ≤ 57
   · rw [if_pos a2]
     exact yes (.inl ⟨a1, a2⟩)
   · rw [if_neg a2]
     by_cases a3 : (c.toNat : Int) ≥ 97
     · rw [if_pos a3]
       by_cases a4 : (c.toNat : Int) ≤ 102
       · rw [decide_eq_true a4]
         exact yes (.inr ⟨a3, a4⟩)
       · rw [decide_eq_false a4]
         exact no (by omega)
     · rw [if_neg a3]
       exact no (by omega)
 · rw [if_neg a1, if_neg (by omega)]
   exact no (by omega)
theorem bt_i (s : ByteArray) (i : Nat) (h : i < s.size) : bt s (i : Int) = ((s[i]'h).toNat : Int) := PGiv.bt_at s i h
theorem hexAt_f (s : ByteArray) (i : Nat) (h : i < s.size) : mullionref05_hex.f (bt s (i : Int)) = some (hexAt s i) := by
 rw [bt_i s i h, hex_f, hexAt, dif_pos h]
theorem cell_ref (s : ByteArray) (hs : s.size ≤ 2048) (k : Nat) (hk : 100000 ≤ k) : ∃ r R, cellR 5000 s 0 [] 0 = some r ∧ mullionref05_cell.f k s 0 = some R ∧ Rel s 0 [] [] r R := by
 obtain ⟨r, hr⟩ := (rd_some 5000).1 s 0 [] 0 (by omega) (by omega)
 obtain ⟨R, hR, hrel⟩ := (read_rel s hs 5000).1 (k - 5001) 0 [] 0 r (by omega) (by omega) hr
 refine ⟨r, R, hr, ?_, hrel⟩
 rw [mullionref05_cell.f, if_neg (by omega)]
 have e : s.extract 0 s.size = s := by
   apply by_ext
   show (s.extract 0 s.size).data.toList = _
   rw [sub_list, List.drop_zero]
 rw [e] at hR
 exact hR
theorem check_both (L : List S45) (k : Nat) (hk : 10000 ≤ k) : ∃ e, layout_Check.f L = some e ∧ mullionref04_Check.f k L = some e ∧ (e = 0 ∨ e = 40) := by
 rcases check_f L k hk with ⟨t, hr, hc⟩ | ⟨hr, hc⟩
 · exact ⟨0, by unfold layout_Check.f; rw [hr]; rfl, hc, .inl rfl⟩
 · exact ⟨40, by unfold layout_Check.f; rw [hr]; rfl, hc, .inr rfl⟩
theorem j0_t (k : Nat) (s : ByteArray) : V.mullionref05_Parse.j0 (k + 1) s true = some (([] : List S45), 50) := by rw [V.mullionref05_Parse.j0, if_pos rfl]
theorem j1_t (k : Nat) (L : List S45) : V.mullionref05_Parse.j1 (k + 1) L true = some (([] : List S45), 50) := by rw [V.mullionref05_Parse.j1, if_pos rfl]
theorem tail_ref (s : ByteArray) (hs : s.size ≤ 2048) (h5 : 5 ≤ s.size) (k : Nat) (hk : 200000 ≤ k) : ∃ p, tailF s = some p ∧ ((mullionref05_cell.f (k + 1) (s.extract 5 s.size) 0).bind fun bt205 => (if bt205.2.2 = true then (V.mullionref05_Parse.j1 (k + 1) bt205.1 (bt205.2.1.toList != ([] : List UInt8))) else (V.mullionref05_Parse.j1 (k + 1) bt205.1 true))) = some p := by
 obtain ⟨r, R, hr, hR, hrel⟩ := cell_ref (s.extract 5 s.size) (by rw [sub_size]; omega) (k + 1) (by omega)
 unfold tailF bodyF
 rw [hr, hR]
 simp only [Option.bind_some]
 match r, hrel with
 | none, hf =>
   have hf : R.2.2 = false := hf
   rw [hf, if_neg (by simp), j1_t]
   exact ⟨_, rfl, rfl⟩
 | some (L, a), ⟨C, e1, e2, e3, e4⟩ =>
   rw [List.nil_append] at e1
   subst e1 e2
   simp only [List.nil_append, if_true]
   rw [Lib.toList_data, sub_list]
   have hlen : (By (s.extract 5 s.size)).length = (s.extract 5 s.size).size := data_len _
   by_cases ha : a = (s.extract 5 s.size).size
   · have e : ((By (s.extract 5 s.size)).drop a != ([] : List UInt8)) = false := by
       rw [List.drop_eq_nil_of_le (by rw [hlen, ha]; exact Nat.le_refl _)]
       rfl
     rw [if_pos ha, e, V.mullionref05_Parse.j1, if_neg (by simp)]
     obtain ⟨e, h1, h2, h3⟩ := check_both L k (by omega)
     simp only [Option.bind_some]
     rw [h1, h2]
     simp only [Option.bind_some]
     rcases h3 with rfl | rfl
     · exact ⟨_, rfl, rfl⟩
     · exact ⟨_, rfl, rfl⟩
   · have e : ((By (s.extract 5 s.size)).drop a != ([] : List UInt8)) = true := by
       rw [bne_iff_ne]
       intro h
       have := congrArg List.length h
       rw [List.length_drop, hlen, List.length_nil] at this
       omega
     rw [if_neg ha, e, j1_t]
     exact ⟨_, rfl, rfl⟩
theorem parse_ref (s : ByteArray) (k : Nat) (hk : 300000 ≤ k) : ∃ p, plan_Parse.f s = some p ∧ V.mullionref05_Parse.f k s = some p := by
 obtain ⟨k, rfl⟩ : ∃ m, k = m + 1 + 1 := ⟨k - 2, by omega⟩
 unfold plan_Parse.f V.mullionref05_Parse.f
 by_cases h1 : 2048 < s.size
 · rw [if_pos h1, if_pos (by omega)]
   exact ⟨_, rfl, rfl⟩
 rw [if_neg h1, if_neg (show ¬ ((s.size : Int) > 2048) by omega)]
 by_cases h2 : s.size < 5
 · rw [dif_pos h2, if_pos (by omega), j0_t]
   exact ⟨_, rfl, rfl⟩
 rw [dif_neg h2, if_neg (show ¬ ((s.size : Int) < 5) by omega), if_pos (show 0 < (s.size : Int) by omega), if_pos (show 1 < (s.size : Int) by omega), if_pos (show 2 < (s.size : Int) by omega), if_pos (show 3 < (s.size : Int) by omega), if_pos (show 4 < (s.size : Int) by omega)]
 have x0 : mullionref05_hex.f (bt s 0) = some (hexAt s 0) := hexAt_f s 0 (by omega)
 have x1 : mullionref05_hex.f (bt s 1) = some (hexAt s 1) := hexAt_f s 1 (by omega)
 have x2 : mullionref05_hex.f (bt s 2) = some (hexAt s 2) := hexAt_f s 2 (by omega)
 have x3 : mullionref05_hex.f (bt s 3) = some (hexAt s 3) := hexAt_f s 3 (by omega)
 have x4 : bt s 4 = ((s[4]'(by omega)).toNat : Int) := bt_i s 4 (by omega)
 rw [x0, x1, x2, x3]
 simp only [Option.bind_some]
 have hx : hexTo s 4 0 = (hexAt s 0 && (hexAt s 1 && (hexAt s 2 && (hexAt s 3 && true)))) := rfl
 rw [hx]
 have bad : ∀ b : Bool, V.mullionref05_Parse.j0 (k + 1 + 1) s true = some (([] : List S45), 50) := fun _ => j0_t _ _
 have fin : (s[4]'(by omega) = 44) → ∃ p, ((E.plan_Sum.f 200000 (s.extract 5 s.size)).bind fun n => (E.plan_four.f n).bind fun q => if (s.extract 0 4).toList = q.toList then tailF s else some ([], 51)) = some p ∧ V.mullionref05_Parse.j0 (k + 1 + 1) s (bt s 4 != 44) = some p := fun h4 => by
   have hb : (bt s 4 != 44) = false := by rw [x4, h4]; rfl
   have hsz : (By (s.extract 5 s.size)).length ≤ 100000 := by
     rw [show (By (s.extract 5 s.size)).length = (s.extract 5 s.size).size from data_len _, sub_size]
     omega
   obtain ⟨s0, s1⟩ := Sm.sum_range (By (s.extract 5 s.size))
   rw [hb, V.mullionref05_Parse.j0, if_neg (by simp), if_pos (show 5 ≤ (s.size : Int) by omega), sum_E _ (by rw [sub_size]; omega)]
   have eS : s.extract 5 s.size = S (By (s.extract 5 s.size)) := S_of _
   have hrs : mullionref05_Sum.f (k + 1) (s.extract 5 s.size) = some (Sm.sum (By (s.extract 5 s.size))) := by
     have := ref_sum_f (By (s.extract 5 s.size)) (k + 1) (by omega) (by omega)
     rwa [← eS] at this
   rw [hrs]
   simp only [Option.bind_some]
   rw [four_eq, ref_four _ s0 s1]
   simp only [Option.bind_some]
   have d04 : (0 ≤ 4) = True := by simp
   simp only [d04, if_true]
   rw [if_pos (show 4 ≤ (s.size : Int) by omega)]
   by_cases hq : (s.extract 0 4).toList = (fourT (Sm.sum (By (s.extract 5 s.size)))).toList
   · rw [if_pos hq, if_pos hq.symm]
     exact tail_ref s (by omega) (by omega) k (by omega)
   · rw [if_neg hq, if_neg (fun h => hq h.symm)]
     exact ⟨_, rfl, rfl⟩
 by_cases h4 : s[4]'(by omega) = 44
 · rw [if_neg (not_not_intro h4)]
   obtain ⟨p, hp1, hp2⟩ := fin h4
   rw [hp2, j0_t]
   cases hexAt s 0 <;> cases hexAt s 1 <;> cases hexAt s 2 <;> cases hexAt s 3 <;> first | exact ⟨_, rfl, rfl⟩ | exact ⟨p, hp1, rfl⟩
 · rw [if_pos h4]
   have hb : (bt s 4 != 44) = true := by
     rw [x4, bne_iff_ne]
     exact byte_ne (b := 44) h4
   rw [hb, j0_t]
   cases hexAt s 0 <;> cases hexAt s 1 <;> cases hexAt s 2 <;> cases hexAt s 3 <;> exact ⟨_, rfl, rfl⟩
theorem parse_len (s : ByteArray) (L : List S45) (e : Int) (h : plan_Parse.f s = some (L, e)) : L.length ≤ 64 := by
 rcases parse_cases s with ⟨e', _, h'⟩ | ⟨L', h', _, hck⟩
 · rw [h] at h'
   obtain ⟨rfl, _⟩ := Prod.mk.inj (Option.some.inj h')
   simp
 · rw [h] at h'
   obtain ⟨rfl, _⟩ := Prod.mk.inj (Option.some.inj h')
   obtain ⟨r, hr⟩ := read_some L
   unfold layout_Check.f at hck
   rw [hr] at hck
   cases r with
   | none => simp at hck
   | some t => exact (read_good hr).2.2.2.1
theorem parses_f (k : Nat) (s : ByteArray) (hk : 300000 ≤ k) : V.mullionlaw05_PlanParses.f k s = some true := by
 obtain ⟨⟨L, e⟩, h1, h2⟩ := parse_ref s k hk
 have hl := parse_len s L e h1
 unfold V.mullionlaw05_PlanParses.f
 rw [h1, h2]
 simp only [Option.bind_some]
 rw [same_fL L L (by omega) k (by omega)]
 simp only [Option.bind_some, decide_true, if_true]
 rw [sure_fL k (by omega)]
 rfl
theorem pureParses (s : ByteArray) (h : s.size ≤ 140737488351232) : ∃ k, V.mullionlaw05_PlanParses.f k s = some true := ⟨300000, parses_f _ s (Nat.le_refl _)⟩
end Go.Proofs.YtmpnkckaohfflaaDoor.PGiv
end
section
namespace Go.Proofs.YtmpnkckaohfflaaDoor.planParses
open Go.ChangeShapes Go.WideShapes Go.ChangeAt Go.RowKit
open Go.ChangeMaps (open_string shut_string)
set_option linter.unusedVariables false
set_option linter.unusedSimpArgs false
theorem own : ownKnob Tryd.prog.godebug = none := by kernel_rfl
theorem gTenType : (Tryd.prog.globals[1]?).map (·.type) = some 140 := by kernel_rfl
theorem cellsT : Tryd.prog.cellsOf 140 = 20 := by kernel_rfl
theorem cellsE : Tryd.prog.cellsOf 133 = 1 := by kernel_rfl
theorem gRngType : (Tryd.prog.globals[3]?).map (·.type) = some 76 := by kernel_rfl
theorem gSynType : (Tryd.prog.globals[2]?).map (·.type) = some 76 := by kernel_rfl
theorem cellsErr : Tryd.prog.cellsOf 162 = 1 := by kernel_rfl
theorem cellsStr : Tryd.prog.cellsOf 9 = 1 := by kernel_rfl
theorem star : "*" ++ "errors.errorString" = "*errors.errorString" := by decide
theorem rowErr (u : TypeId) (h : Tryd.prog.typeName? 3 u = some "*errors.errorString") : u = 160 :=
 typeName_ptr_named (nm := "errors.errorString") (by rw [star]; kernel_rfl) (by kernel_rfl) (by decide) u (by rw [star]; exact h)
theorem tenData {H : Type} : (Rows.laid_internal_strconv_uint64pow10 : DataW H) = Lib.tabData .u64 Lib.pow10Tab := rfl
theorem glb {W : World} (h : laidMetH Tryd.prog Rows.planParsesRow.laid W) : NGiv.Glb W := by
 have ht : laidMet Tryd.prog (("internal/strconv.uint64pow10", Lib.tabData .u64 Lib.pow10Tab) :: [("strconv.ErrRange", Rows.laid_strconv_ErrRange), ("strconv.ErrSyntax", Rows.laid_strconv_ErrSyntax)]) W := by
   rw [← tenData]
   exact h.tail.tail
 have hx3 : laidMet Tryd.prog (("strconv.ErrRange", .iface "*errors.errorString" (.ptr (.agg [.lit (.string [118, 97, 108, 117, 101, 32, 111, 117, 116, 32, 111, 102, 32, 114, 97, 110, 103, 101])]))) :: [("strconv.ErrSyntax", Rows.laid_strconv_ErrSyntax)]) W := h.tail.tail.tail
 obtain ⟨a3, s3, hv3, -, -, -⟩ := laid_sentinel hx3 NGiv.gRng gRngType Tryd.underlying76 rowErr Tryd.underlying160 Tryd.underlying162 rfl rfl Tryd.underlying9 cellsErr cellsStr
 have hx4 : laidMet Tryd.prog (("strconv.ErrSyntax", .iface "*errors.errorString" (.ptr (.agg [.lit (.string [105, 110, 118, 97, 108, 105, 100, 32, 115, 121, 110, 116, 97, 120])]))) :: []) W := h.tail.tail.tail.tail
 obtain ⟨a4, s4, hv4, -, -, -⟩ := laid_sentinel hx4 NGiv.gSyn gSynType Tryd.underlying76 rowErr Tryd.underlying160 Tryd.underlying162 rfl rfl Tryd.underlying9 cellsErr cellsStr
 exact ⟨Lib.tabIs_of_head NGiv.gTen gTenType Tryd.underlying140 Tryd.underlying133 cellsE cellsT ht, ⟨_, _, hv3⟩, ⟨_, _, hv4⟩⟩
set_option maxRecDepth 100000 in
theorem contract (H : Type) (enc : TypeId × Value → H) (W : World) (base : Nat) (args : Array Value) (ds gs : List (DataW H)) (before : List MemPlace)
   (hval : ∀ (j : Nat) t v, Tryd.f4.params[j]? = some t → args[j]? = some v → Value.okWide Tryd.prog W .any base t v)
   (hW : DataW.Whole enc Tryd.prog Tryd.f4.params.toList Rows.planParsesSpec.vars false W args.toList ds gs before) (hL : laidMetH Tryd.prog Rows.planParsesRow.laid W) (hsz : (DataW.weightsEach Tryd.prog (Tryd.f4.params.toList ++ Rows.planParsesSpec.plain.varTypes Tryd.prog) (ds ++ gs)).all (· ≤ reachBytes) = true)
   : Calls Tryd.prog 4 args W fun e W' => ∃ v, e = .returned v ∧ Rows.planParsesSpec.post enc Tryd.prog Tryd.f4 false true false false W args v W' := by
 have hW' := hW
 obtain ⟨p, q, hA0, hV, rfl, hfz, hnd⟩ := hW
 have hA : DataW.TrodAll enc Tryd.prog W 0 (fun _ => true) true Tryd.f4.params.toList args.toList ds p := hA0
 rw [Tryd.params4] at hA hval hsz
 obtain ⟨v0, vs0, d0, ds0, p0, q0, hargs, rfl, rfl, h0, r0⟩ := trodAll_cons hA
 obtain ⟨rfl, rfl, rfl⟩ := trodAll_nil r0
 obtain rfl : args = #[v0] := by cases args; simp_all
 obtain ⟨rfl, rfl⟩ := trodVars_none hV
 obtain ⟨a0, rfl, rfl, rfl, y0⟩ := open_string Tryd.underlying9 (hval 0 9 v0 rfl rfl) h0
 have w0 : a0.size ≤ 140737488351232 := by
   have z := sized_string hsz (j := 0) (t := 9) rfl rfl
   rw [Array.length_toList] at z
   exact z
 clear hA0
 have HG := glb hL
 obtain ⟨k, h⟩ := PGiv.pureParses a0 w0
 refine (V.mullionlaw05_PlanParses.calls k a0 true W ⟨HG⟩ h).mono fun e W' ⟨he, bel0⟩ => ?_
 have bel : Below W.heap.size W W' := bel0
 subst he
 exact ⟨_, rfl, _, _, _, [], _, [], hW', trodAll_mk1 (shut_bool Tryd.underlying4 _), (trodAll_cons_mk (shut_string Tryd.underlying9 y0) trodAll_mk0), rfl, bel.frame _, fun h => by cases h⟩
noncomputable def low : Nat := (World.holding Tryd.prog default ⟨#[], #[], []⟩).heap.size
noncomputable def laidWorld (os : Os) : World :=
 let w0 := World.holding Tryd.prog os ⟨#[.cells #[.string { data := #[118, 97, 108, 117, 101, 32, 111, 117, 116, 32, 111, 102, 32, 114, 97, 110, 103, 101] }] 162, .cells #[.string { data := #[105, 110, 118, 97, 108, 105, 100, 32, 115, 121, 110, 116, 97, 120] }] 162], #[], []⟩
 { w0 with heap := (((((w0.heap.modify 4 fun
     | .cells _ t frozen => .cells #[.int .u8 0, .int .u8 1, .int .u8 28, .int .u8 2, .int .u8 29, .int .u8 14, .int .u8 24, .int .u8 3, .int .u8 30, .int .u8 22, .int .u8 20, .int .u8 15, .int .u8 25, .int .u8 17, .int .u8 4, .int .u8 8, .int .u8 31, .int .u8 27, .int .u8 13, .int .u8 23, .int .u8 21, .int .u8 19, .int .u8 16, .int .u8 7, .int .u8 26, .int .u8 12, .int .u8 18, .int .u8 6, .int .u8 11, .int .u8 5, .int .u8 10, .int .u8 9] t frozen
     | o => o).modify 5 fun
     | .cells _ t frozen => .cells #[.int .u8 0, .int .u8 1, .int .u8 56, .int .u8 2, .int .u8 57, .int .u8 49, .int .u8 28, .int .u8 3, .int .u8 61, .int .u8 58, .int .u8 42, .int .u8 50, .int .u8 38, .int .u8 29, .int .u8 17, .int .u8 4, .int .u8 62, .int .u8 47, .int .u8 59, .int .u8 36, .int .u8 45, .int .u8 43, .int .u8 51, .int .u8 22, .int .u8 53, .int .u8 39, .int .u8 33, .int .u8 30, .int .u8 24, .int .u8 18, .int .u8 12, .int .u8 5, .int .u8 63, .int .u8 55, .int .u8 48, .int .u8 27, .int .u8 60, .int .u8 41, .int .u8 37, .int .u8 16, .int .u8 46, .int .u8 35, .int .u8 44, .int .u8 21, .int .u8 52, .int .u8 32, .int .u8 23, .int .u8 11, .int .u8 54, .int .u8 26, .int .u8 40, .int .u8 15, .int .u8 34, .int .u8 20, .int .u8 31, .int .u8 10, .int .u8 25, .int .u8 14, .int .u8 19, .int .u8 9, .int .u8 13, .int .u8 8, .int .u8 7, .int .u8 6] t frozen
     | o => o).modify 1 fun
     | .cells _ t frozen => .cells #[.int .u64 1, .int .u64 10, .int .u64 100, .int .u64 1000, .int .u64 10000, .int .u64 100000, .int .u64 1000000, .int .u64 10000000, .int .u64 100000000, .int .u64 1000000000, .int .u64 10000000000, .int .u64 100000000000, .int .u64 1000000000000, .int .u64 10000000000000, .int .u64 100000000000000, .int .u64 1000000000000000, .int .u64 10000000000000000, .int .u64 100000000000000000, .int .u64 1000000000000000000, .int .u64 10000000000000000000] t frozen
     | o => o).modify 3 fun
     | .cells _ t frozen => .cells #[.iface 160 (.pointer (some ⟨low + 0, 0, none⟩))] t frozen
     | o => o).modify 2 fun
     | .cells _ t frozen => .cells #[.iface 160 (.pointer (some ⟨low + 1, 0, none⟩))] t frozen
     | o => o) }
theorem laid_met (os : Os) : laidMet Tryd.prog Rows.planParsesRow.laid ((laidWorld os).forCall (fun _ _ => 0) ⟨#[], #[.string ByteArray.empty], []⟩).memory :=
 laidMet_of_run' 8 (by kernel_rfl) (by kernel_rfl)
theorem reads (os : Os) {H : Type} (enc : TypeId × Value → H) : ∃ places, DataW.whole enc Tryd.prog ((laidWorld os).forCall (fun _ _ => 0) ⟨#[], #[.string ByteArray.empty], []⟩).memory Tryd.f4.params.toList Rows.planParsesSpec.vars false (#[Value.string ByteArray.empty] : Array Value).toList 8 = some ([.lit (.string [])], [], places) :=
 ⟨[], by kernel_rfl⟩
set_option maxRecDepth 100000 in
theorem lifted (os : Os) (started : os.Started) (H : Type) (enc : TypeId × Value → H) (F : Stop.Interp) :
   ReturnsInHanded {} Tryd.checked os 4 .any ((OpenSpec.ofChange Rows.planParsesSpec).preRow enc Tryd.prog Tryd.f4 Rows.planParsesRow.domain false Rows.planParsesRow.laid) (((OpenSpec.ofChange Rows.planParsesSpec).at F).post enc Tryd.prog Tryd.f4 false true false false) := by
 obtain ⟨places, hx⟩ := reads os enc
 refine returnsInHanded_of_row (C := Tryd.checked) (s := (OpenSpec.ofChange Rows.planParsesSpec)) own started (by kernel_rfl) Tryd.func4
   (witness_row_at (enc := enc) (C := Tryd.checked) false (laidWorld os) #[.string ByteArray.empty] rfl (by kernel_rfl) (by kernel_rfl) (by kernel_rfl)
     (OpenSpec.preRow_of_cond 8 hx (by kernel_rfl) (fun k hk => by cases hk) (by kernel_rfl) (laid_met os))) ?_
 intro W base args ds gs before hval hW _ hcond hsz hL _ _
 exact contract H enc W base args ds gs before hval hW hL hsz
theorem said : Rows.PlanParsesSaid :=
 OpenClaim.holds_of_cond 4 Tryd.f4 rfl rfl rfl rfl rfl rfl rfl ⟨rfl, rfl, rfl, rfl, rfl⟩ rfl rfl rfl rfl rfl (by kernel_rfl) Tryd.func4 (by kernel_rfl)
   (of_decide_eq_true (by kernel_rfl)) (by unfold Func.isWrapper; first | (rw [if_pos (by decide +kernel)]; kernel_rfl) | (rw [if_neg (by decide +kernel)]; exact ⟨rfl, rfl⟩))
   (fun os started H enc _ F => by rw [OpenClaim.pre_eq_preRow]; exact lifted os started H enc F)
theorem plain (f : FuncId) (fn : Func) (hf : Tryd.pinned.checked.prog.funcNamed "mullion/mullionlaw05.PlanParses" = some f) (hfn : Tryd.pinned.checked.prog.funcs[f]? = some fn) :
   true = Tryd.pinned.checked.prog.looks [] ∧ ∀ (j : Nat) t, fn.params[j]? = some t → Tryd.pinned.checked.prog.wantsStandIn t = false := by
 obtain rfl : f = 4 := Option.some.inj ((show Tryd.prog.funcNamed "mullion/mullionlaw05.PlanParses" = some 4 by kernel_rfl).symm.trans hf) |>.symm
 obtain rfl : fn = Tryd.f4 := (Option.some.inj (Tryd.func4.symm.trans hfn)).symm
 refine ⟨by kernel_rfl, fun j t ht => ?_⟩
 rw [Tryd.params4] at ht
 obtain rfl : t = 9 := by simpa using Array.mem_of_getElem? ht
 exact (show Tryd.prog.wantsStandIn 9 = false by kernel_rfl)
theorem proved : Rows.PlanParsesCardSaid :=
 Claim7.holds_tied_plain_at .later [] _ _ _ _ said (fun _ h => by cases h) (by kernel_rfl) (fun _ h => by cases h) planParses_row_tie rfl ⟨rfl, rfl⟩ (by kernel_rfl) rfl plain (by kernel_rfl)
end Go.Proofs.YtmpnkckaohfflaaDoor.planParses
namespace Go.Proofs.YtmpnkckaohfflaaDoor
theorem planParses_holds : Rows.PlanParsesCardSaid := planParses.proved
end Go.Proofs.YtmpnkckaohfflaaDoor
end
