/- Of the texts of this claim, what it needs, put together by a program of this claim's author. Conditions: as each theorem says. -/
import Derived.Lib.ItoaMem
import Derived.Lib.Strings
import Derived.Lib.Bytealg
import Derived.Laws.BitsAllLaws
import Derived.Laws.BitsLemmas
import Derived.Test.YtmpnkckaohfflaaDoorPtP4
section
namespace Go.Proofs.YtmpnkckaohfflaaDoor.L
open Go.Proofs.YtmpnkckaohfflaaDoor.K Go.RowKit Go.Proofs.YtmpnkckaohfflaaDoorW.PrintWords Go.Proofs.YtmpnkckaohfflaaDoorW.PrintLast Go.Proofs.YtmpnkckaohfflaaDoorW.PrintMore
attribute [local go_sem] max2_int min2_int max_two min_two max_three min_three max_four min_four
set_option linter.unusedVariables false
set_option linter.unusedSimpArgs false
attribute [local go_sem high] eqA45
mutual
def mullionref04_Tree.j0 : Nat → List (S45) → Bool → Option (Int × Int × Int × Int × (List (S72)) × Bool)
 | 0, _, _ => none
 | k + 1, x0, x38 => if x38 = true then (some (0, 0, 0, 0, ([] : List (S72)), false)) else (mullionref04_Tree.l0 k x0 1)
def mullionref04_Tree.l0 : Nat → List (S45) → Int → Option (Int × Int × Int × Int × (List (S72)) × Bool)
 | 0, _, _ => none
 | k + 1, x0, x4 => if x4 < (x0.length : Int) then (if 0 ≤ x4 then (if ((rd_T45 x0 x4).f0) < 1 then (some (0, 0, 0, 0, ([] : List (S72)), false)) else (if 0 ≤ (wrap64 (x4 - 1)) then (if (wrap64 (x4 - 1)) < (x0.length : Int) then (if ((rd_T45 x0 x4).f0) > (wrap64 (((rd_T45 x0 (wrap64 (x4 - 1))).f0) + 1)) then (some (0, 0, 0, 0, ([] : List (S72)), false)) else (mullionref04_Tree.l0 k x0 (wrap64 (x4 + 1)))) else (none)) else (none))) else (none)) else ((mullionref04_grown.f k x0 0).bind fun bt164 => ((mullionref04_Ids.f k bt164.1 bt164.2.1 bt164.2.2.1 bt164.2.2.2.1 bt164.2.2.2.2.1).bind fun t173 => ((mullionref04_sizes.f k bt164.1 bt164.2.1 bt164.2.2.1 bt164.2.2.2.1 bt164.2.2.2.2.1).bind fun t176 => (if t176 = true then ((mullionref04_twice.f k t173).bind fun t177 => (if t177 = true then (mullionref04_Tree.j2 k x0 true bt164.1 bt164.2.1 bt164.2.2.1 bt164.2.2.2.1 bt164.2.2.2.2.1) else (mullionref04_Tree.j2 k x0 (decide ((t173.length : Int) > 32)) bt164.1 bt164.2.1 bt164.2.2.1 bt164.2.2.2.1 bt164.2.2.2.2.1))) else (mullionref04_Tree.j2 k x0 true bt164.1 bt164.2.1 bt164.2.2.1 bt164.2.2.2.1 bt164.2.2.2.2.1)))))
def mullionref04_Tree.j2 : Nat → List (S45) → Bool → Int → Int → Int → Int → List (S72) → Option (Int × Int × Int × Int × (List (S72)) × Bool)
 | 0, _, _, _, _, _, _, _ => none
 | k + 1, x0, x86, x173000, x173001, x173002, x173003, x173004 => if x86 = true then (some (0, 0, 0, 0, ([] : List (S72)), false)) else ((mullionref04_List.f k x173000 x173001 x173002 x173003 x173004).bind fun t178 => (mullionref04_Tree.l1 k x0 t178 0 x173000 x173001 x173002 x173003 x173004))
def mullionref04_Tree.l1 : Nat → List (S45) → List (S45) → Int → Int → Int → Int → Int → List (S72) → Option (Int × Int × Int × Int × (List (S72)) × Bool)
 | 0, _, _, _, _, _, _, _, _ => none
 | k + 1, x0, x8, x9, x173000, x173001, x173002, x173003, x173004 => if x9 < (x0.length : Int) then (if 0 ≤ x9 then (if x9 < (x8.length : Int) then (if (!(((rd_T45 x8 x9).f0) == ((rd_T45 x0 x9).f0)) || (!(((rd_T45 x8 x9).f1) == ((rd_T45 x0 x9).f1)) || (!(((rd_T45 x8 x9).f2) == ((rd_T45 x0 x9).f2)) || (!(((rd_T45 x8 x9).f3) == ((rd_T45 x0 x9).f3)) || (!(((rd_T45 x8 x9).f4) == ((rd_T45 x0 x9).f4)) || (!(((rd_T45 x8 x9).f5) == ((rd_T45 x0 x9).f5)) || (!(((rd_T45 x8 x9).f6) == ((rd_T45 x0 x9).f6))))))))) = true then (some (0, 0, 0, 0, ([] : List (S72)), false)) else (mullionref04_Tree.l1 k x0 x8 (wrap64 (x9 + 1)) x173000 x173001 x173002 x173003 x173004)) else (none)) else (none)) else (some (x173000, x173001, x173002, x173003, x173004, true))
end
def mullionref04_Tree.f (k : Nat) (l0 : List (S45)) : Option (Int × Int × Int × Int × (List (S72)) × Bool) := if (l0.length : Int) = 0 then (mullionref04_Tree.j0 k l0 true) else (if (l0.length : Int) > 64 then (mullionref04_Tree.j0 k l0 true) else (if 0 < (l0.length : Int) then (if ((rd_T45 l0 0).f0) = 0 then (if ((rd_T45 l0 0).f4) > 1000 then (mullionref04_Tree.j0 k l0 true) else (mullionref04_Tree.j0 k l0 (decide (((rd_T45 l0 0).f5) > 1000)))) else (mullionref04_Tree.j0 k l0 true)) else (none)))
theorem mullionref04_Tree.mono_l : ∀ k, (∀ y0 y1, LeO (mullionref04_Tree.j0 k y0 y1) (mullionref04_Tree.j0 (k + 1) y0 y1)) ∧ (∀ y0 y1, LeO (mullionref04_Tree.l0 k y0 y1) (mullionref04_Tree.l0 (k + 1) y0 y1)) ∧ (∀ y0 y1 y2 y3 y4 y5 y6, LeO (mullionref04_Tree.j2 k y0 y1 y2 y3 y4 y5 y6) (mullionref04_Tree.j2 (k + 1) y0 y1 y2 y3 y4 y5 y6)) ∧ (∀ y0 y1 y2 y3 y4 y5 y6 y7, LeO (mullionref04_Tree.l1 k y0 y1 y2 y3 y4 y5 y6 y7) (mullionref04_Tree.l1 (k + 1) y0 y1 y2 y3 y4 y5 y6 y7))
 | 0 => ⟨fun _ _ r h => by simp [mullionref04_Tree.j0] at h, fun _ _ r h => by simp [mullionref04_Tree.l0] at h, fun _ _ _ _ _ _ _ r h => by simp [mullionref04_Tree.j2] at h, fun _ _ _ _ _ _ _ _ r h => by simp [mullionref04_Tree.l1] at h⟩
 | k + 1 => by
   obtain ⟨ih0, ih1, ih2, ih3⟩ := mullionref04_Tree.mono_l k
   refine ⟨?_, ?_, ?_, ?_⟩
   · intro y0 y1
     unfold mullionref04_Tree.j0
     repeat' first
     | (with_reducible exact ih0 _ _)
     | (with_reducible exact ih1 _ _)
     | (with_reducible exact ih2 _ _ _ _ _ _ _)
     | (with_reducible exact ih3 _ _ _ _ _ _ _ _)
     | (with_reducible exact mullionref04_Ids.mono _ _ _ _ _ _)
     | (with_reducible exact mullionref04_List.mono _ _ _ _ _ _)
     | (with_reducible exact mullionref04_grown.mono _ _ _)
     | (with_reducible exact mullionref04_sizes.mono _ _ _ _ _ _)
     | (with_reducible exact mullionref04_twice.mono _ _)
     | (with_reducible exact LeO.refl _)
     | (with_reducible exact LeO.none _)
     | (with_reducible refine LeO.ite ?_ ?_)
     | (with_reducible refine LeO.bind ?_ (fun _ => ?_))
     | exact ih0 _ _
     | exact ih1 _ _
     | exact ih2 _ _ _ _ _ _ _
     | exact ih3 _ _ _ _ _ _ _ _
     | exact mullionref04_Ids.mono _ _ _ _ _ _
     | exact mullionref04_List.mono _ _ _ _ _ _
     | exact mullionref04_grown.mono _ _ _
     | exact mullionref04_sizes.mono _ _ _ _ _ _
     | exact mullionref04_twice.mono _ _
     | exact LeO.none _
     | refine LeO.ite ?_ ?_
     | refine LeO.bind ?_ (fun _ => ?_)
   · intro y0 y1
     unfold mullionref04_Tree.l0
     repeat' first
     | (with_reducible exact ih0 _ _)
     | (with_reducible exact ih1 _ _)
     | (with_reducible exact ih2 _ _ _ _ _ _ _)
     | (with_reducible exact ih3 _ _ _ _ _ _ _ _)
     | (with_reducible exact mullionref04_Ids.mono _ _ _ _ _ _)
     | (with_reducible exact mullionref04_List.mono _ _ _ _ _ _)
     | (with_reducible exact mullionref04_grown.mono _ _ _)
     | (with_reducible exact mullionref04_sizes.mono _ _ _ _ _ _)
     | (with_reducible exact mullionref04_twice.mono _ _)
     | (with_reducible exact LeO.refl _)
     | (with_reducible exact LeO.none _)
     | (with_reducible refine LeO.ite ?_ ?_)
     | (with_reducible refine LeO.bind ?_ (fun _ => ?_))
     | exact ih0 _ _
     | exact ih1 _ _
     | exact ih2 _ _ _ _ _ _ _
     | exact ih3 _ _ _ _ _ _ _ _
     | exact mullionref04_Ids.mono _ _ _ _ _ _
     | exact mullionref04_List.mono _ _ _ _ _ _
     | exact mullionref04_grown.mono _ _ _
     | exact mullionref04_sizes.mono _ _ _ _ _ _
     | exact mullionref04_twice.mono _ _
     | exact LeO.none _
     | refine LeO.ite ?_ ?_
     | refine LeO.bind ?_ (fun _ => ?_)
   · intro y0 y1 y2 y3 y4 y5 y6
     unfold mullionref04_Tree.j2
     repeat' first
     | (with_reducible exact ih0 _ _)
     | (with_reducible exact ih1 _ _)
     | (with_reducible exact ih2 _ _ _ _ _ _ _)
     | (with_reducible exact ih3 _ _ _ _ _ _ _ _)
     | (with_reducible exact mullionref04_Ids.mono _ _ _ _ _ _)
     | (with_reducible exact mullionref04_List.mono _ _ _ _ _ _)
     | (with_reducible exact mullionref04_grown.mono _ _ _)
     | (with_reducible exact mullionref04_sizes.mono _ _ _ _ _ _)
     | (with_reducible exact mullionref04_twice.mono _ _)
     | (with_reducible exact LeO.refl _)
     | (with_reducible exact LeO.none _)
     | (with_reducible refine LeO.ite ?_ ?_)
     | (with_reducible refine LeO.bind ?_ (fun _ => ?_))
     | exact ih0 _ _
     | exact ih1 _ _
     | exact ih2 _ _ _ _ _ _ _
     | exact ih3 _ _ _ _ _ _ _ _
     | exact mullionref04_Ids.mono _ _ _ _ _ _
     | exact mullionref04_List.mono _ _ _ _ _ _
     | exact mullionref04_grown.mono _ _ _
     | exact mullionref04_sizes.mono _ _ _ _ _ _
     | exact mullionref04_twice.mono _ _
     | exact LeO.none _
     | refine LeO.ite ?_ ?_
     | refine LeO.bind ?_ (fun _ => ?_)
   · intro y0 y1 y2 y3 y4 y5 y6 y7
     unfold mullionref04_Tree.l1
     repeat' first
     | (with_reducible exact ih0 _ _)
     | (with_reducible exact ih1 _ _)
     | (with_reducible exact ih2 _ _ _ _ _ _ _)
     | (with_reducible exact ih3 _ _ _ _ _ _ _ _)
     | (with_reducible exact mullionref04_Ids.mono _ _ _ _ _ _)
     | (with_reducible exact mullionref04_List.mono _ _ _ _ _ _)
     | (with_reducible exact mullionref04_grown.mono _ _ _)
     | (with_reducible exact mullionref04_sizes.mono _ _ _ _ _ _)
     | (with_reducible exact mullionref04_twice.mono _ _)
     | (with_reducible exact LeO.refl _)
     | (with_reducible exact LeO.none _)
     | (with_reducible refine LeO.ite ?_ ?_)
     | (with_reducible refine LeO.bind ?_ (fun _ => ?_))
     | exact ih0 _ _
     | exact ih1 _ _
     | exact ih2 _ _ _ _ _ _ _
     | exact ih3 _ _ _ _ _ _ _ _
     | exact mullionref04_Ids.mono _ _ _ _ _ _
     | exact mullionref04_List.mono _ _ _ _ _ _
     | exact mullionref04_grown.mono _ _ _
     | exact mullionref04_sizes.mono _ _ _ _ _ _
     | exact mullionref04_twice.mono _ _
     | exact LeO.none _
     | refine LeO.ite ?_ ?_
     | refine LeO.bind ?_ (fun _ => ?_)
theorem mullionref04_Tree.mono : ∀ a0 k, LeO (mullionref04_Tree.f k a0) (mullionref04_Tree.f (k + 1) a0) := by
 intro a0 k
 obtain ⟨ih0, ih1, ih2, ih3⟩ := mullionref04_Tree.mono_l k
 unfold mullionref04_Tree.f
 repeat' first
     | (with_reducible exact ih0 _ _)
     | (with_reducible exact ih1 _ _)
     | (with_reducible exact ih2 _ _ _ _ _ _ _)
     | (with_reducible exact ih3 _ _ _ _ _ _ _ _)
     | (with_reducible exact mullionref04_Ids.mono _ _ _ _ _ _)
     | (with_reducible exact mullionref04_List.mono _ _ _ _ _ _)
     | (with_reducible exact mullionref04_grown.mono _ _ _)
     | (with_reducible exact mullionref04_sizes.mono _ _ _ _ _ _)
     | (with_reducible exact mullionref04_twice.mono _ _)
     | (with_reducible exact LeO.refl _)
     | (with_reducible exact LeO.none _)
     | (with_reducible refine LeO.ite ?_ ?_)
     | (with_reducible refine LeO.bind ?_ (fun _ => ?_))
     | exact ih0 _ _
     | exact ih1 _ _
     | exact ih2 _ _ _ _ _ _ _
     | exact ih3 _ _ _ _ _ _ _ _
     | exact mullionref04_Ids.mono _ _ _ _ _ _
     | exact mullionref04_List.mono _ _ _ _ _ _
     | exact mullionref04_grown.mono _ _ _
     | exact mullionref04_sizes.mono _ _ _ _ _ _
     | exact mullionref04_twice.mono _ _
     | exact LeO.none _
     | refine LeO.ite ?_ ?_
     | refine LeO.bind ?_ (fun _ => ?_)
set_option maxHeartbeats 8000000 in
set_option maxRecDepth 100000 in
theorem mullionref04_Tree.calls (k : Nat) (A0 : Option Addr) (c0 : Nat) (l0 : List (S45)) (r1 : Int) (r2 : Int) (r3 : Int) (r4 : Int) (r5 : List (S72)) (r6 : Bool) (w : World) (hr0 : Kd.C k45 w A0 l0.length l0) (hc0 : l0.length ≤ c0) (h : mullionref04_Tree.f k l0 = some (r1, r2, r3, r4, r5, r6)) :
   Calls Tryd.prog 36 #[.slice A0 l0.length c0] w fun e w' => ∃ v4_ : Value, e = .returned (.tuple #[.agg #[.int .i64 r1, .int .i64 r2, .int .i64 r3, .int .i64 r4, v4_], .bool r6]) ∧ Kd.R k72 72 w' w.heap.size (fun _ => True) v4_ r5 ∧ Below w.heap.size w w' := by
 have hu72 := Tryd.underlying72
 have hu45 := Tryd.underlying45
 have HR0 := Aside0.mk hr0
 have HC0 := Aside0.mk hc0
 clear hr0 hc0
 have HB := Aside0.mk (Below.refl w.heap.size w)
 have H : (if (l0.length : Int) = 0 then (mullionref04_Tree.j0 k l0 true) else (if (l0.length : Int) > 64 then (mullionref04_Tree.j0 k l0 true) else (if 0 < (l0.length : Int) then (if ((rd_T45 l0 0).f0) = 0 then (if ((rd_T45 l0 0).f4) > 1000 then (mullionref04_Tree.j0 k l0 true) else (mullionref04_Tree.j0 k l0 (decide (((rd_T45 l0 0).f5) > 1000)))) else (mullionref04_Tree.j0 k l0 true)) else (none)))) = some (r1, r2, r3, r4, r5, r6) := h
 clear h
 have HC2 := Aside0.mk H
 clear H
 go_enter Tryd.func36, Tryd.ntmps36
 go_upto_region 1 with (first | ((with_reducible refine gate_dst (N := 2) rfl ?_); (try (refine gate_guard (by rfl) ?_; dsimp only)); refine box_event ?hg (N := 2) ?hd (cs := #[.int .i64 0, .int .i64 0, .int .i64 0, .int .i64 0, .slice none 0 0]) (t := 72) ?hr ?_; (case hd => rfl); (case hg => rfl); (case hr => first | (go_simp; done) | (go_simp; rfl)); intro gb157 hg w3 hbox hb; have n0_ := Aside0.mk (below_step (by repeat (first | (with_reducible first | exact HB.out | apply below_alloc | apply pw_below_drewN | apply below_drew1) | exact HB.out)) hb); have n1_ := Aside0.mk (hbox); have n2_ := Aside0.mk ((by rw [hg]; exact (below_size (by repeat (first | (with_reducible first | exact HB.out | apply below_alloc | apply pw_below_drewN | apply below_drew1) | exact HB.out))) : w.heap.size ≤ gb157)); have n3_ := Aside0.mk ((by rw [hg]; exact (below_size (by repeat (first | (with_reducible first | exact HB.out | apply below_alloc | apply pw_below_drewN | apply below_drew1) | exact HB.out))) : w.heap.size ≤ gb157)); clear HB; have HB := n0_; have BK157 := n1_; have GW157 := n2_; have GE157 := n3_; clear n0_ n1_ n2_ n3_; clear hb hbox hg))
 repeat (go_quiet (fail); try go_wp2)
 (try simp only [Act.put, List.setIfInBounds_toArray, List.set_cons_zero, List.set_cons_succ])
 go_cut [38] (fun v38 wc => ∃ (kq : Nat) (x38_1 : Bool), v38 = .bool x38_1 ∧ Aside0 (mullionref04_Tree.j0 kq l0 x38_1 = some (r1, r2, r3, r4, r5, r6)) ∧ Aside0 (kq ≤ k) ∧ Aside0 (wc.heap[gb157]? = some (.cells #[.int .i64 0, .int .i64 0, .int .i64 0, .int .i64 0, (.slice none 0 0)] 72 (0, 0))) ∧ Aside0 (Below w.heap.size w wc))
 case first =>
   have H := HC2.out
   clear HC2
   by_cases c4 : (l0.length : Int) = 0
   · rw [if_pos c4] at H
     have c4b0 : ((l0.length : Int) == 0) = true := beq_iff_eq.mpr c4
     have c4b1 : ((l0.length : Int) != 0) = false := bne_eq_false_iff_eq.mpr c4
     clear c4
     (first | rw [c4b0] | (simp only [i64_w, i32_w]; rw [c4b0]) | skip)
     have H' := Aside0.mk H
     clear H
     go_wp2
     repeat (go_quiet (fail); try go_wp2)
     go_meet
     case rel => exact ⟨_, (true), (by first | rfl | (simp; done) | (simp [*]; done)), H', ⟨by first | omega | exact Nat.le_refl _⟩, ⟨by (with_reducible repeat (first | refine blk_drewN ?_ _ | refine blk_drew ?_ | refine blk_alloc ?_ _)); exact BK157.out⟩, ⟨by repeat (first | (with_reducible first | exact HB.out | apply below_alloc | apply pw_below_drewN | apply below_drew1 | refine below_set ?_ GE157.out) | exact HB.out)⟩⟩
   · rw [if_neg c4] at H
     have c4b0 : ((l0.length : Int) == 0) = false := beq_eq_false_iff_ne.mpr c4
     have c4b1 : ((l0.length : Int) != 0) = true := bne_iff_ne.mpr c4
     have c4b2 : ¬ (l0 = []) := fun h_ => c4 (by rw [h_]; rfl)
     (first | rw [c4b0] | (simp only [i64_w, i32_w]; rw [c4b0]) | skip)
     by_cases c5 : (l0.length : Int) > 64
     · rw [if_pos c5] at H
       have c5b0 : decide (64 < (l0.length : Int)) = true := decide_eq_true c5
       have c5b1 : decide (64 < l0.length) = true := decide_eq_true (by omega)
       clear c5
       have H' := Aside0.mk H
       clear H
       go_wp2
       repeat (go_quiet (fail); try go_wp2)
       go_meet
       case rel => exact ⟨_, (true), (by first | rfl | (simp; done) | (simp [*]; done)), H', ⟨by first | omega | exact Nat.le_refl _⟩, ⟨by (with_reducible repeat (first | refine blk_drewN ?_ _ | refine blk_drew ?_ | refine blk_alloc ?_ _)); exact BK157.out⟩, ⟨by repeat (first | (with_reducible first | exact HB.out | apply below_alloc | apply pw_below_drewN | apply below_drew1 | refine below_set ?_ GE157.out) | exact HB.out)⟩⟩
     · rw [if_neg c5] at H
       have c5b0 : decide (64 < (l0.length : Int)) = false := decide_eq_false c5
       have c5b1 : decide (64 < l0.length) = false := decide_eq_false (by omega)
       clear c5
       by_cases c6 : 0 < (l0.length : Int)
       · rw [if_pos c6] at H
         have c6b0 : decide (0 < (l0.length : Int)) = true := decide_eq_true c6
         have c6b1 : decide (0 < l0.length) = true := decide_eq_true (by omega)
         clear c6
         by_cases c7 : ((rd_T45 l0 0).f0) = 0
         · rw [if_pos c7] at H
           have c7b0 : (((rd_T45 l0 0).f0) == 0) = true := beq_iff_eq.mpr c7
           have c7b1 : (((rd_T45 l0 0).f0) != 0) = false := bne_eq_false_iff_eq.mpr c7
           clear c7
           by_cases c8 : ((rd_T45 l0 0).f4) > 1000
           · rw [if_pos c8] at H
             have c8b0 : decide (1000 < ((rd_T45 l0 0).f4)) = true := decide_eq_true c8
             clear c8
             have H' := Aside0.mk H
             clear H
             have p158 : 0 ≤ (0 : Int) := (by omega)
             have q158 : 0 < (l0.length : Int) := of_decide_eq_true (by first | (with_reducible assumption) | assumption)
             obtain ⟨ad158, e158, hx158_0, hx158_1, hx158_2, hx158_3, hx158_4, hx158_5, hx158_6⟩ := at_T45 HR0.out 0 p158 q158
             cases e158
             have qi158 : (0 < l0.length) = True := eq_true (by omega)
             (try rw [show ((0 : Int)).toNat = 0 from rfl] at hx158_0)
             (try rw [show 0 * 7 = 0 from rfl] at hx158_0)
             (try rw [Addr.add_zero'] at hx158_0)
             (try rw [show ((0 : Int)).toNat = 0 from rfl] at hx158_1)
             (try rw [show 0 * 7 = 0 from rfl] at hx158_1)
             (try rw [Addr.add_zero'] at hx158_1)
             (try rw [show ((0 : Int)).toNat = 0 from rfl] at hx158_2)
             (try rw [show 0 * 7 = 0 from rfl] at hx158_2)
             (try rw [Addr.add_zero'] at hx158_2)
             (try rw [show ((0 : Int)).toNat = 0 from rfl] at hx158_3)
             (try rw [show 0 * 7 = 0 from rfl] at hx158_3)
             (try rw [Addr.add_zero'] at hx158_3)
             (try rw [show ((0 : Int)).toNat = 0 from rfl] at hx158_4)
             (try rw [show 0 * 7 = 0 from rfl] at hx158_4)
             (try rw [Addr.add_zero'] at hx158_4)
             (try rw [show ((0 : Int)).toNat = 0 from rfl] at hx158_5)
             (try rw [show 0 * 7 = 0 from rfl] at hx158_5)
             (try rw [Addr.add_zero'] at hx158_5)
             (try rw [show ((0 : Int)).toNat = 0 from rfl] at hx158_6)
             (try rw [show 0 * 7 = 0 from rfl] at hx158_6)
             (try rw [Addr.add_zero'] at hx158_6)
             replace hx158_0 := (HB.out.cell (World.block_lt_of_cell? w _ hx158_0)).trans hx158_0
             replace hx158_1 := (HB.out.cell (World.block_lt_of_cell? w _ hx158_1)).trans hx158_1
             replace hx158_2 := (HB.out.cell (World.block_lt_of_cell? w _ hx158_2)).trans hx158_2
             replace hx158_3 := (HB.out.cell (World.block_lt_of_cell? w _ hx158_3)).trans hx158_3
             replace hx158_4 := (HB.out.cell (World.block_lt_of_cell? w _ hx158_4)).trans hx158_4
             replace hx158_5 := (HB.out.cell (World.block_lt_of_cell? w _ hx158_5)).trans hx158_5
             replace hx158_6 := (HB.out.cell (World.block_lt_of_cell? w _ hx158_6)).trans hx158_6
             replace p158 := eq_true p158
             replace q158 := eq_true q158
             have p159 : 0 ≤ (0 : Int) := (by omega)
             have q159 : 0 < (l0.length : Int) := of_decide_eq_true (by first | (with_reducible assumption) | assumption)
             obtain ⟨ad159, e159, hx159_0, hx159_1, hx159_2, hx159_3, hx159_4, hx159_5, hx159_6⟩ := at_T45 HR0.out 0 p159 q159
             obtain rfl : ad158 = ad159 := (by injection e159)
             have qi159 : (0 < l0.length) = True := eq_true (by omega)
             (try rw [show ((0 : Int)).toNat = 0 from rfl] at hx159_0)
             (try rw [show 0 * 7 = 0 from rfl] at hx159_0)
             (try rw [Addr.add_zero'] at hx159_0)
             (try rw [show ((0 : Int)).toNat = 0 from rfl] at hx159_1)
             (try rw [show 0 * 7 = 0 from rfl] at hx159_1)
             (try rw [Addr.add_zero'] at hx159_1)
             (try rw [show ((0 : Int)).toNat = 0 from rfl] at hx159_2)
             (try rw [show 0 * 7 = 0 from rfl] at hx159_2)
             (try rw [Addr.add_zero'] at hx159_2)
             (try rw [show ((0 : Int)).toNat = 0 from rfl] at hx159_3)
             (try rw [show 0 * 7 = 0 from rfl] at hx159_3)
             (try rw [Addr.add_zero'] at hx159_3)
             (try rw [show ((0 : Int)).toNat = 0 from rfl] at hx159_4)
             (try rw [show 0 * 7 = 0 from rfl] at hx159_4)
             (try rw [Addr.add_zero'] at hx159_4)
             (try rw [show ((0 : Int)).toNat = 0 from rfl] at hx159_5)
             (try rw [show 0 * 7 = 0 from rfl] at hx159_5)
             (try rw [Addr.add_zero'] at hx159_5)
             (try rw [show ((0 : Int)).toNat = 0 from rfl] at hx159_6)
             (try rw [show 0 * 7 = 0 from rfl] at hx159_6)
             (try rw [Addr.add_zero'] at hx159_6)
             replace hx159_0 := (HB.out.cell (World.block_lt_of_cell? w _ hx159_0)).trans hx159_0
             replace hx159_1 := (HB.out.cell (World.block_lt_of_cell? w _ hx159_1)).trans hx159_1
             replace hx159_2 := (HB.out.cell (World.block_lt_of_cell? w _ hx159_2)).trans hx159_2
             replace hx159_3 := (HB.out.cell (World.block_lt_of_cell? w _ hx159_3)).trans hx159_3
             replace hx159_4 := (HB.out.cell (World.block_lt_of_cell? w _ hx159_4)).trans hx159_4
             replace hx159_5 := (HB.out.cell (World.block_lt_of_cell? w _ hx159_5)).trans hx159_5
             replace hx159_6 := (HB.out.cell (World.block_lt_of_cell? w _ hx159_6)).trans hx159_6
             replace p159 := eq_true p159
             replace q159 := eq_true q159
             go_wp2
             repeat (go_quiet (fail); try go_wp2)
             go_meet
             case rel => exact ⟨_, (true), (by first | rfl | (simp; done) | (simp [*]; done)), H', ⟨by first | omega | exact Nat.le_refl _⟩, ⟨by (with_reducible repeat (first | refine blk_drewN ?_ _ | refine blk_drew ?_ | refine blk_alloc ?_ _)); exact BK157.out⟩, ⟨by repeat (first | (with_reducible first | exact HB.out | apply below_alloc | apply pw_below_drewN | apply below_drew1 | refine below_set ?_ GE157.out) | exact HB.out)⟩⟩
           · rw [if_neg c8] at H
             have c8b0 : decide (1000 < ((rd_T45 l0 0).f4)) = false := decide_eq_false c8
             clear c8
             have H' := Aside0.mk H
             clear H
             have p158 : 0 ≤ (0 : Int) := (by omega)
             have q158 : 0 < (l0.length : Int) := of_decide_eq_true (by first | (with_reducible assumption) | assumption)
             obtain ⟨ad158, e158, hx158_0, hx158_1, hx158_2, hx158_3, hx158_4, hx158_5, hx158_6⟩ := at_T45 HR0.out 0 p158 q158
             cases e158
             have qi158 : (0 < l0.length) = True := eq_true (by omega)
             (try rw [show ((0 : Int)).toNat = 0 from rfl] at hx158_0)
             (try rw [show 0 * 7 = 0 from rfl] at hx158_0)
             (try rw [Addr.add_zero'] at hx158_0)
             (try rw [show ((0 : Int)).toNat = 0 from rfl] at hx158_1)
             (try rw [show 0 * 7 = 0 from rfl] at hx158_1)
             (try rw [Addr.add_zero'] at hx158_1)
             (try rw [show ((0 : Int)).toNat = 0 from rfl] at hx158_2)
             (try rw [show 0 * 7 = 0 from rfl] at hx158_2)
             (try rw [Addr.add_zero'] at hx158_2)
             (try rw [show ((0 : Int)).toNat = 0 from rfl] at hx158_3)
             (try rw [show 0 * 7 = 0 from rfl] at hx158_3)
             (try rw [Addr.add_zero'] at hx158_3)
             (try rw [show ((0 : Int)).toNat = 0 from rfl] at hx158_4)
             (try rw [show 0 * 7 = 0 from rfl] at hx158_4)
             (try rw [Addr.add_zero'] at hx158_4)
             (try rw [show ((0 : Int)).toNat = 0 from rfl] at hx158_5)
             (try rw [show 0 * 7 = 0 from rfl] at hx158_5)
             (try rw [Addr.add_zero'] at hx158_5)
             (try rw [show ((0 : Int)).toNat = 0 from rfl] at hx158_6)
             (try rw [show 0 * 7 = 0 from rfl] at hx158_6)
             (try rw [Addr.add_zero'] at hx158_6)
             replace hx158_0 := (HB.out.cell (World.block_lt_of_cell? w _ hx158_0)).trans hx158_0
             replace hx158_1 := (HB.out.cell (World.block_lt_of_cell? w _ hx158_1)).trans hx158_1
             replace hx158_2 := (HB.out.cell (World.block_lt_of_cell? w _ hx158_2)).trans hx158_2
             replace hx158_3 := (HB.out.cell (World.block_lt_of_cell? w _ hx158_3)).trans hx158_3
             replace hx158_4 := (HB.out.cell (World.block_lt_of_cell? w _ hx158_4)).trans hx158_4
             replace hx158_5 := (HB.out.cell (World.block_lt_of_cell? w _ hx158_5)).trans hx158_5
             replace hx158_6 := (HB.out.cell (World.block_lt_of_cell? w _ hx158_6)).trans hx158_6
             replace p158 := eq_true p158
             replace q158 := eq_true q158
             have p159 : 0 ≤ (0 : Int) := (by omega)
             have q159 : 0 < (l0.length : Int) := of_decide_eq_true (by first | (with_reducible assumption) | assumption)
             obtain ⟨ad159, e159, hx159_0, hx159_1, hx159_2, hx159_3, hx159_4, hx159_5, hx159_6⟩ := at_T45 HR0.out 0 p159 q159
             obtain rfl : ad158 = ad159 := (by injection e159)
             have qi159 : (0 < l0.length) = True := eq_true (by omega)
             (try rw [show ((0 : Int)).toNat = 0 from rfl] at hx159_0)
             (try rw [show 0 * 7 = 0 from rfl] at hx159_0)
             (try rw [Addr.add_zero'] at hx159_0)
             (try rw [show ((0 : Int)).toNat = 0 from rfl] at hx159_1)
             (try rw [show 0 * 7 = 0 from rfl] at hx159_1)
             (try rw [Addr.add_zero'] at hx159_1)
             (try rw [show ((0 : Int)).toNat = 0 from rfl] at hx159_2)
             (try rw [show 0 * 7 = 0 from rfl] at hx159_2)
             (try rw [Addr.add_zero'] at hx159_2)
             (try rw [show ((0 : Int)).toNat = 0 from rfl] at hx159_3)
             (try rw [show 0 * 7 = 0 from rfl] at hx159_3)
             (try rw [Addr.add_zero'] at hx159_3)
             (try rw [show ((0 : Int)).toNat = 0 from rfl] at hx159_4)
             (try rw [show 0 * 7 = 0 from rfl] at hx159_4)
             (try rw [Addr.add_zero'] at hx159_4)
             (try rw [show ((0 : Int)).toNat = 0 from rfl] at hx159_5)
             (try rw [show 0 * 7 = 0 from rfl] at hx159_5)
             (try rw [Addr.add_zero'] at hx159_5)
             (try rw [show ((0 : Int)).toNat = 0 from rfl] at hx159_6)
             (try rw [show 0 * 7 = 0 from rfl] at hx159_6)
             (try rw [Addr.add_zero'] at hx159_6)
             replace hx159_0 := (HB.out.cell (World.block_lt_of_cell? w _ hx159_0)).trans hx159_0
             replace hx159_1 := (HB.out.cell (World.block_lt_of_cell? w _ hx159_1)).trans hx159_1
             replace hx159_2 := (HB.out.cell (World.block_lt_of_cell? w _ hx159_2)).trans hx159_2
             replace hx159_3 := (HB.out.cell (World.block_lt_of_cell? w _ hx159_3)).trans hx159_3
             replace hx159_4 := (HB.out.cell (World.block_lt_of_cell? w _ hx159_4)).trans hx159_4
             replace hx159_5 := (HB.out.cell (World.block_lt_of_cell? w _ hx159_5)).trans hx159_5
             replace hx159_6 := (HB.out.cell (World.block_lt_of_cell? w _ hx159_6)).trans hx159_6
             replace p159 := eq_true p159
             replace q159 := eq_true q159
             have p160 : 0 ≤ (0 : Int) := (by omega)
             have q160 : 0 < (l0.length : Int) := of_decide_eq_true (by first | (with_reducible assumption) | assumption)
             obtain ⟨ad160, e160, hx160_0, hx160_1, hx160_2, hx160_3, hx160_4, hx160_5, hx160_6⟩ := at_T45 HR0.out 0 p160 q160
             obtain rfl : ad158 = ad160 := (by injection e160)
             have qi160 : (0 < l0.length) = True := eq_true (by omega)
             (try rw [show ((0 : Int)).toNat = 0 from rfl] at hx160_0)
             (try rw [show 0 * 7 = 0 from rfl] at hx160_0)
             (try rw [Addr.add_zero'] at hx160_0)
             (try rw [show ((0 : Int)).toNat = 0 from rfl] at hx160_1)
             (try rw [show 0 * 7 = 0 from rfl] at hx160_1)
             (try rw [Addr.add_zero'] at hx160_1)
             (try rw [show ((0 : Int)).toNat = 0 from rfl] at hx160_2)
             (try rw [show 0 * 7 = 0 from rfl] at hx160_2)
             (try rw [Addr.add_zero'] at hx160_2)
             (try rw [show ((0 : Int)).toNat = 0 from rfl] at hx160_3)
             (try rw [show 0 * 7 = 0 from rfl] at hx160_3)
             (try rw [Addr.add_zero'] at hx160_3)
             (try rw [show ((0 : Int)).toNat = 0 from rfl] at hx160_4)
             (try rw [show 0 * 7 = 0 from rfl] at hx160_4)
             (try rw [Addr.add_zero'] at hx160_4)
             (try rw [show ((0 : Int)).toNat = 0 from rfl] at hx160_5)
             (try rw [show 0 * 7 = 0 from rfl] at hx160_5)
             (try rw [Addr.add_zero'] at hx160_5)
             (try rw [show ((0 : Int)).toNat = 0 from rfl] at hx160_6)
             (try rw [show 0 * 7 = 0 from rfl] at hx160_6)
             (try rw [Addr.add_zero'] at hx160_6)
             replace hx160_0 := (HB.out.cell (World.block_lt_of_cell? w _ hx160_0)).trans hx160_0
             replace hx160_1 := (HB.out.cell (World.block_lt_of_cell? w _ hx160_1)).trans hx160_1
             replace hx160_2 := (HB.out.cell (World.block_lt_of_cell? w _ hx160_2)).trans hx160_2
             replace hx160_3 := (HB.out.cell (World.block_lt_of_cell? w _ hx160_3)).trans hx160_3
             replace hx160_4 := (HB.out.cell (World.block_lt_of_cell? w _ hx160_4)).trans hx160_4
             replace hx160_5 := (HB.out.cell (World.block_lt_of_cell? w _ hx160_5)).trans hx160_5
             replace hx160_6 := (HB.out.cell (World.block_lt_of_cell? w _ hx160_6)).trans hx160_6
             replace p160 := eq_true p160
             replace q160 := eq_true q160
             go_wp2
             repeat (go_quiet (fail); try go_wp2)
             go_meet
             case rel => exact ⟨_, (decide (((rd_T45 l0 0).f5) > 1000)), (by first | rfl | (simp; done) | (simp [*]; done)), H', ⟨by first | omega | exact Nat.le_refl _⟩, ⟨by (with_reducible repeat (first | refine blk_drewN ?_ _ | refine blk_drew ?_ | refine blk_alloc ?_ _)); exact BK157.out⟩, ⟨by repeat (first | (with_reducible first | exact HB.out | apply below_alloc | apply pw_below_drewN | apply below_drew1 | refine below_set ?_ GE157.out) | exact HB.out)⟩⟩
         · rw [if_neg c7] at H
           have c7b0 : (((rd_T45 l0 0).f0) == 0) = false := beq_eq_false_iff_ne.mpr c7
           have c7b1 : (((rd_T45 l0 0).f0) != 0) = true := bne_iff_ne.mpr c7
           have H' := Aside0.mk H
           clear H
           have p158 : 0 ≤ (0 : Int) := (by omega)
           have q158 : 0 < (l0.length : Int) := of_decide_eq_true (by first | (with_reducible assumption) | assumption)
           obtain ⟨ad158, e158, hx158_0, hx158_1, hx158_2, hx158_3, hx158_4, hx158_5, hx158_6⟩ := at_T45 HR0.out 0 p158 q158
           cases e158
           have qi158 : (0 < l0.length) = True := eq_true (by omega)
           (try rw [show ((0 : Int)).toNat = 0 from rfl] at hx158_0)
           (try rw [show 0 * 7 = 0 from rfl] at hx158_0)
           (try rw [Addr.add_zero'] at hx158_0)
           (try rw [show ((0 : Int)).toNat = 0 from rfl] at hx158_1)
           (try rw [show 0 * 7 = 0 from rfl] at hx158_1)
           (try rw [Addr.add_zero'] at hx158_1)
           (try rw [show ((0 : Int)).toNat = 0 from rfl] at hx158_2)
           (try rw [show 0 * 7 = 0 from rfl] at hx158_2)
           (try rw [Addr.add_zero'] at hx158_2)
           (try rw [show ((0 : Int)).toNat = 0 from rfl] at hx158_3)
           (try rw [show 0 * 7 = 0 from rfl] at hx158_3)
           (try rw [Addr.add_zero'] at hx158_3)
           (try rw [show ((0 : Int)).toNat = 0 from rfl] at hx158_4)
           (try rw [show 0 * 7 = 0 from rfl] at hx158_4)
           (try rw [Addr.add_zero'] at hx158_4)
           (try rw [show ((0 : Int)).toNat = 0 from rfl] at hx158_5)
           (try rw [show 0 * 7 = 0 from rfl] at hx158_5)
           (try rw [Addr.add_zero'] at hx158_5)
           (try rw [show ((0 : Int)).toNat = 0 from rfl] at hx158_6)
           (try rw [show 0 * 7 = 0 from rfl] at hx158_6)
           (try rw [Addr.add_zero'] at hx158_6)
           replace hx158_0 := (HB.out.cell (World.block_lt_of_cell? w _ hx158_0)).trans hx158_0
           replace hx158_1 := (HB.out.cell (World.block_lt_of_cell? w _ hx158_1)).trans hx158_1
           replace hx158_2 := (HB.out.cell (World.block_lt_of_cell? w _ hx158_2)).trans hx158_2
           replace hx158_3 := (HB.out.cell (World.block_lt_of_cell? w _ hx158_3)).trans hx158_3
           replace hx158_4 := (HB.out.cell (World.block_lt_of_cell? w _ hx158_4)).trans hx158_4
           replace hx158_5 := (HB.out.cell (World.block_lt_of_cell? w _ hx158_5)).trans hx158_5
           replace hx158_6 := (HB.out.cell (World.block_lt_of_cell? w _ hx158_6)).trans hx158_6
           replace p158 := eq_true p158
           replace q158 := eq_true q158
           go_wp2
           repeat (go_quiet (fail); try go_wp2)
           go_meet
           case rel => exact ⟨_, (true), (by first | rfl | (simp; done) | (simp [*]; done)), H', ⟨by first | omega | exact Nat.le_refl _⟩, ⟨by (with_reducible repeat (first | refine blk_drewN ?_ _ | refine blk_drew ?_ | refine blk_alloc ?_ _)); exact BK157.out⟩, ⟨by repeat (first | (with_reducible first | exact HB.out | apply below_alloc | apply pw_below_drewN | apply below_drew1 | refine below_set ?_ GE157.out) | exact HB.out)⟩⟩
       · rw [if_neg c6] at H
         exact absurd H (by simp)
 case rest =>
   clear HC2
   try clear p1
   try clear q1
   try clear hx1
   try clear qi1
   try clear p2
   try clear c3
   try clear c4
   try clear c4b0
   try clear c4b1
   try clear c4b2
   try clear c5
   try clear c5b0
   try clear c5b1
   try clear c6
   try clear c6b0
   try clear c6b1
   try clear c7
   try clear c7b0
   try clear c7b1
   try clear c8
   try clear c8b0
   try clear hx158_0
   try clear hx158_1
   try clear hx158_2
   try clear hx158_3
   try clear hx158_4
   try clear hx158_5
   try clear hx158_6
   try clear hx159_0
   try clear hx159_1
   try clear hx159_2
   try clear hx159_3
   try clear hx159_4
   try clear hx159_5
   try clear hx159_6
   try clear hx160_0
   try clear hx160_1
   try clear hx160_2
   try clear hx160_3
   try clear hx160_4
   try clear hx160_5
   try clear hx160_6
   try clear p158
   try clear p159
   try clear p160
   try clear q158
   try clear q159
   try clear q160
   obtain ⟨kq, x38_1, rfl, HA, HJ1, BK157, HB⟩ := hcut
   cases kq with
   | zero => exact absurd HA.out (by simp [mullionref04_Tree.j0])
   | succ kj1 =>
     have H := HA.out
     clear HA
     simp only [mullionref04_Tree.j0] at H
     by_cases c9 : x38_1 = true
     · subst c9
       have H1 : (some (0, 0, 0, 0, ([] : List (S72)), false)) = some (r1, r2, r3, r4, r5, r6) := by rw [if_pos rfl] at H; exact H
       clear H
       have H := H1
       clear H1
       simp only [Option.some.injEq, Prod.mk.injEq] at H
       obtain ⟨rfl, rfl, rfl, rfl, rfl, rfl⟩ := H
       have hcz10_0 : wc.cell? ⟨gb157, 0, none⟩ = some (.int .i64 0) := (blk_cell BK157.out 0).trans rfl
       have hcz10_1 : wc.cell? ⟨gb157, 1, none⟩ = some (.int .i64 0) := (blk_cell BK157.out 1).trans rfl
       have hcz10_2 : wc.cell? ⟨gb157, 2, none⟩ = some (.int .i64 0) := (blk_cell BK157.out 2).trans rfl
       have hcz10_3 : wc.cell? ⟨gb157, 3, none⟩ = some (.int .i64 0) := (blk_cell BK157.out 3).trans rfl
       have hcz10_4 : wc.cell? ⟨gb157, 4, none⟩ = some (.slice none 0 0) := (blk_cell BK157.out 4).trans rfl
       have hfz10_0 := blk_frozen BK157.out 0
       have hfz10_1 := blk_frozen BK157.out 1
       have hfz10_2 := blk_frozen BK157.out 2
       have hfz10_3 := blk_frozen BK157.out 3
       have hfz10_4 := blk_frozen BK157.out 4
       go_wp2
       repeat (go_quiet (fail); try go_wp2)
       refine bodyPost_ret (results_ct rfl _ _ gb157 72 #[.int .i64 0, .int .i64 0, .int .i64 0, .int .i64 0, .slice none 0 0] (0, 0) _ rfl (by (with_reducible repeat (first | refine blk_drewN ?_ _ | refine blk_drew ?_ | refine blk_alloc ?_ _)); refine blk_put (cs := #[.int .i64 0, .int .i64 0, .int .i64 0, .int .i64 0, .slice none 0 0]) ?_ 4 _ rfl; (with_reducible repeat (first | refine blk_drewN ?_ _ | refine blk_drew ?_ | refine blk_alloc ?_ _)); refine blk_put (cs := #[.int .i64 0, .int .i64 0, .int .i64 0, .int .i64 0, .slice none 0 0]) ?_ 3 _ rfl; (with_reducible repeat (first | refine blk_drewN ?_ _ | refine blk_drew ?_ | refine blk_alloc ?_ _)); refine blk_put (cs := #[.int .i64 0, .int .i64 0, .int .i64 0, .int .i64 0, .slice none 0 0]) ?_ 2 _ rfl; (with_reducible repeat (first | refine blk_drewN ?_ _ | refine blk_drew ?_ | refine blk_alloc ?_ _)); refine blk_put (cs := #[.int .i64 0, .int .i64 0, .int .i64 0, .int .i64 0, .slice none 0 0]) ?_ 1 _ rfl; (with_reducible repeat (first | refine blk_drewN ?_ _ | refine blk_drew ?_ | refine blk_alloc ?_ _)); refine blk_put (cs := #[.int .i64 0, .int .i64 0, .int .i64 0, .int .i64 0, .slice none 0 0]) ?_ 0 _ rfl; (with_reducible repeat (first | refine blk_drewN ?_ _ | refine blk_drew ?_ | refine blk_alloc ?_ _)); exact BK157.out) Tryd.underlying72 rfl (by kernel_rfl)) rfl ?_
       exact ⟨_, by first | rfl | (simp [errW_none, errW_some] <;> rfl) | (simp [*, errW_none, errW_some] <;> rfl), by first | exact Kd.R_nil _ _ _ _ _ | exact Kd.N_nil _ _ _ _ _ | exact Kd.V_nil _ _ _ _ _ | exact Kd.Q_nil _ _ _ _ _ | exact Kd.S_nil _ _ _ _ _, by repeat (first | (with_reducible first | exact HB.out | apply below_alloc | apply pw_below_drewN | apply below_drew1 | refine below_set ?_ GE157.out) | exact HB.out)⟩
     · replace c9 := Bool.eq_false_iff.mpr c9
       subst c9
       have H1 : (mullionref04_Tree.l0 kj1 l0 1) = some (r1, r2, r3, r4, r5, r6) := by rw [if_neg (show ¬ (false = true) by decide)] at H; exact H
       clear H
       have H := H1
       clear H1
       have H' := Aside0.mk H
       clear H
       go_wp2
       repeat (go_quiet (fail); try go_wp2)
       go_loopg [4] kj1 (fun kq v4 w' => ∃ (x4_2 : Int) (x158000_2 : Int) (x158001_2 : Int) (x158002_2 : Int) (x158003_2 : Int), v4 = .int .i64 x4_2 ∧ Aside0 (mullionref04_Tree.l0 kq l0 x4_2 = some (r1, r2, r3, r4, r5, r6)) ∧ Aside0 (kq ≤ kj1) ∧ Aside0 (w'.heap[gb157]? = some (.cells #[.int .i64 x158000_2, .int .i64 x158001_2, .int .i64 x158002_2, .int .i64 x158003_2, (.slice none 0 0)] 72 (0, 0))) ∧ Aside0 (Below w.heap.size w w'))
       case atStart => exact ⟨(1), (0), (0), (0), (0), (by first | rfl | (simp; done) | (simp [*]; done)), H', ⟨Nat.le_refl _⟩, ⟨by (with_reducible repeat (first | refine blk_drewN ?_ _ | refine blk_drew ?_ | refine blk_alloc ?_ _)); exact BK157.out⟩, ⟨by repeat (first | (with_reducible first | exact HB.out | apply below_alloc | apply pw_below_drewN | apply below_drew1 | refine below_set ?_ GE157.out) | exact HB.out)⟩⟩
       case round =>
         clear H'
         try clear p1
         try clear q1
         try clear hx1
         try clear qi1
         try clear p2
         try clear c3
         try clear c4
         try clear c4b0
         try clear c4b1
         try clear c4b2
         try clear c5
         try clear c5b0
         try clear c5b1
         try clear c6
         try clear c6b0
         try clear c6b1
         try clear c7
         try clear c7b0
         try clear c7b1
         try clear c8
         try clear c8b0
         try clear c9
         try clear hcz10_0
         try clear hcz10_1
         try clear hcz10_2
         try clear hcz10_3
         try clear hcz10_4
         try clear hfz10_0
         try clear hfz10_1
         try clear hfz10_2
         try clear hfz10_3
         try clear hfz10_4
         try clear hx158_0
         try clear hx158_1
         try clear hx158_2
         try clear hx158_3
         try clear hx158_4
         try clear hx158_5
         try clear hx158_6
         try clear hx159_0
         try clear hx159_1
         try clear hx159_2
         try clear hx159_3
         try clear hx159_4
         try clear hx159_5
         try clear hx159_6
         try clear hx160_0
         try clear hx160_1
         try clear hx160_2
         try clear hx160_3
         try clear hx160_4
         try clear hx160_5
         try clear hx160_6
         try clear p1
         try clear p158
         try clear p159
         try clear p160
         try clear p2
         try clear q1
         try clear q158
         try clear q159
         try clear q160
         obtain ⟨x4_2, x158000_2, x158001_2, x158002_2, x158003_2, rfl, HA, HK2, BK157, HB⟩ := hrel
         cases gk with
         | zero => exact absurd HA.out (by simp [mullionref04_Tree.l0])
         | succ k2 =>
           have H := HA.out
           clear HA
           simp only [mullionref04_Tree.l0] at H
           by_cases c11 : x4_2 < (l0.length : Int)
           · rw [if_pos c11] at H
             have c11b0 : decide (x4_2 < (l0.length : Int)) = true := decide_eq_true c11
             clear c11
             by_cases c12 : 0 ≤ x4_2
             · rw [if_pos c12] at H
               have c12b0 : decide (0 ≤ x4_2) = true := decide_eq_true c12
               clear c12
               by_cases c13 : ((rd_T45 l0 x4_2).f0) < 1
               · rw [if_pos c13] at H
                 have c13b0 : decide (((rd_T45 l0 x4_2).f0) < 1) = true := decide_eq_true c13
                 clear c13
                 simp only [Option.some.injEq, Prod.mk.injEq] at H
                 obtain ⟨rfl, rfl, rfl, rfl, rfl, rfl⟩ := H
                 have p161 : 0 ≤ (x4_2 : Int) := of_decide_eq_true (by first | (with_reducible assumption) | assumption)
                 have q161 : x4_2 < (l0.length : Int) := of_decide_eq_true (by first | (with_reducible assumption) | assumption)
                 obtain ⟨ad161, e161, hx161_0, hx161_1, hx161_2, hx161_3, hx161_4, hx161_5, hx161_6⟩ := at_T45 HR0.out x4_2 p161 q161
                 cases e161
                 replace hx161_0 := (HB.out.cell (World.block_lt_of_cell? w _ hx161_0)).trans hx161_0
                 replace hx161_1 := (HB.out.cell (World.block_lt_of_cell? w _ hx161_1)).trans hx161_1
                 replace hx161_2 := (HB.out.cell (World.block_lt_of_cell? w _ hx161_2)).trans hx161_2
                 replace hx161_3 := (HB.out.cell (World.block_lt_of_cell? w _ hx161_3)).trans hx161_3
                 replace hx161_4 := (HB.out.cell (World.block_lt_of_cell? w _ hx161_4)).trans hx161_4
                 replace hx161_5 := (HB.out.cell (World.block_lt_of_cell? w _ hx161_5)).trans hx161_5
                 replace hx161_6 := (HB.out.cell (World.block_lt_of_cell? w _ hx161_6)).trans hx161_6
                 replace p161 := eq_true p161
                 replace q161 := eq_true q161
                 have hcz14_0 : wr.cell? ⟨gb157, 0, none⟩ = some (.int .i64 x158000_2) := (blk_cell BK157.out 0).trans rfl
                 have hcz14_1 : wr.cell? ⟨gb157, 1, none⟩ = some (.int .i64 x158001_2) := (blk_cell BK157.out 1).trans rfl
                 have hcz14_2 : wr.cell? ⟨gb157, 2, none⟩ = some (.int .i64 x158002_2) := (blk_cell BK157.out 2).trans rfl
                 have hcz14_3 : wr.cell? ⟨gb157, 3, none⟩ = some (.int .i64 x158003_2) := (blk_cell BK157.out 3).trans rfl
                 have hcz14_4 : wr.cell? ⟨gb157, 4, none⟩ = some (.slice none 0 0) := (blk_cell BK157.out 4).trans rfl
                 have hfz14_0 := blk_frozen BK157.out 0
                 have hfz14_1 := blk_frozen BK157.out 1
                 have hfz14_2 := blk_frozen BK157.out 2
                 have hfz14_3 := blk_frozen BK157.out 3
                 have hfz14_4 := blk_frozen BK157.out 4
                 go_wp2
                 repeat (go_quiet (fail); try go_wp2)
                 refine bodyPost_ret (results_ct rfl _ _ gb157 72 #[.int .i64 0, .int .i64 0, .int .i64 0, .int .i64 0, .slice none 0 0] (0, 0) _ rfl (by (with_reducible repeat (first | refine blk_drewN ?_ _ | refine blk_drew ?_ | refine blk_alloc ?_ _)); refine blk_put (cs := #[.int .i64 0, .int .i64 0, .int .i64 0, .int .i64 0, .slice none 0 0]) ?_ 4 _ rfl; (with_reducible repeat (first | refine blk_drewN ?_ _ | refine blk_drew ?_ | refine blk_alloc ?_ _)); refine blk_put (cs := #[.int .i64 0, .int .i64 0, .int .i64 0, .int .i64 x158003_2, .slice none 0 0]) ?_ 3 _ rfl; (with_reducible repeat (first | refine blk_drewN ?_ _ | refine blk_drew ?_ | refine blk_alloc ?_ _)); refine blk_put (cs := #[.int .i64 0, .int .i64 0, .int .i64 x158002_2, .int .i64 x158003_2, .slice none 0 0]) ?_ 2 _ rfl; (with_reducible repeat (first | refine blk_drewN ?_ _ | refine blk_drew ?_ | refine blk_alloc ?_ _)); refine blk_put (cs := #[.int .i64 0, .int .i64 x158001_2, .int .i64 x158002_2, .int .i64 x158003_2, .slice none 0 0]) ?_ 1 _ rfl; (with_reducible repeat (first | refine blk_drewN ?_ _ | refine blk_drew ?_ | refine blk_alloc ?_ _)); refine blk_put (cs := #[.int .i64 x158000_2, .int .i64 x158001_2, .int .i64 x158002_2, .int .i64 x158003_2, .slice none 0 0]) ?_ 0 _ rfl; (with_reducible repeat (first | refine blk_drewN ?_ _ | refine blk_drew ?_ | refine blk_alloc ?_ _)); exact BK157.out) Tryd.underlying72 rfl (by kernel_rfl)) rfl ?_
                 exact ⟨_, by first | rfl | (simp [errW_none, errW_some] <;> rfl) | (simp [*, errW_none, errW_some] <;> rfl), by first | exact Kd.R_nil _ _ _ _ _ | exact Kd.N_nil _ _ _ _ _ | exact Kd.V_nil _ _ _ _ _ | exact Kd.Q_nil _ _ _ _ _ | exact Kd.S_nil _ _ _ _ _, by repeat (first | (with_reducible first | exact HB.out | apply below_alloc | apply pw_below_drewN | apply below_drew1 | refine below_set ?_ GE157.out) | exact HB.out)⟩
               · rw [if_neg c13] at H
                 have c13b0 : decide (((rd_T45 l0 x4_2).f0) < 1) = false := decide_eq_false c13
                 clear c13
                 obtain ⟨ji15, hji15⟩ : ∃ j_ : Int, (wrap64 (x4_2 - 1)) = j_ := ⟨_, rfl⟩
                 replace H : (if 0 ≤ (ji15) then (if (ji15) < (l0.length : Int) then (if ((rd_T45 l0 x4_2).f0) > (wrap64 (((rd_T45 l0 (ji15)).f0) + 1)) then (some (0, 0, 0, 0, ([] : List (S72)), false)) else (mullionref04_Tree.l0 k2 l0 (wrap64 (x4_2 + 1)))) else (none)) else (none)) = some (r1, r2, r3, r4, r5, r6) := by first | (rw [hji15] at H; exact H) | (simp only [hji15] at H ⊢; exact H)
                 have hji15w : (IntKind.i64.wrap (x4_2 - 1)) = ji15 := (i64_w _).trans hji15
                 by_cases c16 : 0 ≤ (ji15)
                 · rw [if_pos c16] at H
                   have c16b0 : decide (0 ≤ (ji15)) = true := decide_eq_true c16
                   clear c16
                   by_cases c17 : (ji15) < (l0.length : Int)
                   · rw [if_pos c17] at H
                     have c17b0 : decide ((ji15) < (l0.length : Int)) = true := decide_eq_true c17
                     clear c17
                     by_cases c18 : ((rd_T45 l0 x4_2).f0) > (wrap64 (((rd_T45 l0 (ji15)).f0) + 1))
                     · rw [if_pos c18] at H
                       have c18b0 : decide ((wrap64 (((rd_T45 l0 (ji15)).f0) + 1)) < ((rd_T45 l0 x4_2).f0)) = true := decide_eq_true c18
                       clear c18
                       simp only [Option.some.injEq, Prod.mk.injEq] at H
                       obtain ⟨rfl, rfl, rfl, rfl, rfl, rfl⟩ := H
                       have p161 : 0 ≤ (x4_2 : Int) := of_decide_eq_true (by first | (with_reducible assumption) | assumption)
                       have q161 : x4_2 < (l0.length : Int) := of_decide_eq_true (by first | (with_reducible assumption) | assumption)
                       obtain ⟨ad161, e161, hx161_0, hx161_1, hx161_2, hx161_3, hx161_4, hx161_5, hx161_6⟩ := at_T45 HR0.out x4_2 p161 q161
                       cases e161
                       replace hx161_0 := (HB.out.cell (World.block_lt_of_cell? w _ hx161_0)).trans hx161_0
                       replace hx161_1 := (HB.out.cell (World.block_lt_of_cell? w _ hx161_1)).trans hx161_1
                       replace hx161_2 := (HB.out.cell (World.block_lt_of_cell? w _ hx161_2)).trans hx161_2
                       replace hx161_3 := (HB.out.cell (World.block_lt_of_cell? w _ hx161_3)).trans hx161_3
                       replace hx161_4 := (HB.out.cell (World.block_lt_of_cell? w _ hx161_4)).trans hx161_4
                       replace hx161_5 := (HB.out.cell (World.block_lt_of_cell? w _ hx161_5)).trans hx161_5
                       replace hx161_6 := (HB.out.cell (World.block_lt_of_cell? w _ hx161_6)).trans hx161_6
                       replace p161 := eq_true p161
                       replace q161 := eq_true q161
                       have p162 : 0 ≤ (x4_2 : Int) := of_decide_eq_true (by first | (with_reducible assumption) | assumption)
                       have q162 : x4_2 < (l0.length : Int) := of_decide_eq_true (by first | (with_reducible assumption) | assumption)
                       obtain ⟨ad162, e162, hx162_0, hx162_1, hx162_2, hx162_3, hx162_4, hx162_5, hx162_6⟩ := at_T45 HR0.out x4_2 p162 q162
                       obtain rfl : ad161 = ad162 := (by injection e162)
                       replace hx162_0 := (HB.out.cell (World.block_lt_of_cell? w _ hx162_0)).trans hx162_0
                       replace hx162_1 := (HB.out.cell (World.block_lt_of_cell? w _ hx162_1)).trans hx162_1
                       replace hx162_2 := (HB.out.cell (World.block_lt_of_cell? w _ hx162_2)).trans hx162_2
                       replace hx162_3 := (HB.out.cell (World.block_lt_of_cell? w _ hx162_3)).trans hx162_3
                       replace hx162_4 := (HB.out.cell (World.block_lt_of_cell? w _ hx162_4)).trans hx162_4
                       replace hx162_5 := (HB.out.cell (World.block_lt_of_cell? w _ hx162_5)).trans hx162_5
                       replace hx162_6 := (HB.out.cell (World.block_lt_of_cell? w _ hx162_6)).trans hx162_6
                       replace p162 := eq_true p162
                       replace q162 := eq_true q162
                       have p163 : 0 ≤ ((ji15) : Int) := of_decide_eq_true (by first | (with_reducible assumption) | assumption)
                       have q163 : (ji15) < (l0.length : Int) := of_decide_eq_true (by first | (with_reducible assumption) | assumption)
                       obtain ⟨ad163, e163, hx163_0, hx163_1, hx163_2, hx163_3, hx163_4, hx163_5, hx163_6⟩ := at_T45 HR0.out (ji15) p163 q163
                       obtain rfl : ad161 = ad163 := (by injection e163)
                       replace hx163_0 := (HB.out.cell (World.block_lt_of_cell? w _ hx163_0)).trans hx163_0
                       replace hx163_1 := (HB.out.cell (World.block_lt_of_cell? w _ hx163_1)).trans hx163_1
                       replace hx163_2 := (HB.out.cell (World.block_lt_of_cell? w _ hx163_2)).trans hx163_2
                       replace hx163_3 := (HB.out.cell (World.block_lt_of_cell? w _ hx163_3)).trans hx163_3
                       replace hx163_4 := (HB.out.cell (World.block_lt_of_cell? w _ hx163_4)).trans hx163_4
                       replace hx163_5 := (HB.out.cell (World.block_lt_of_cell? w _ hx163_5)).trans hx163_5
                       replace hx163_6 := (HB.out.cell (World.block_lt_of_cell? w _ hx163_6)).trans hx163_6
                       replace p163 := eq_true p163
                       replace q163 := eq_true q163
                       have hcz19_0 : wr.cell? ⟨gb157, 0, none⟩ = some (.int .i64 x158000_2) := (blk_cell BK157.out 0).trans rfl
                       have hcz19_1 : wr.cell? ⟨gb157, 1, none⟩ = some (.int .i64 x158001_2) := (blk_cell BK157.out 1).trans rfl
                       have hcz19_2 : wr.cell? ⟨gb157, 2, none⟩ = some (.int .i64 x158002_2) := (blk_cell BK157.out 2).trans rfl
                       have hcz19_3 : wr.cell? ⟨gb157, 3, none⟩ = some (.int .i64 x158003_2) := (blk_cell BK157.out 3).trans rfl
                       have hcz19_4 : wr.cell? ⟨gb157, 4, none⟩ = some (.slice none 0 0) := (blk_cell BK157.out 4).trans rfl
                       have hfz19_0 := blk_frozen BK157.out 0
                       have hfz19_1 := blk_frozen BK157.out 1
                       have hfz19_2 := blk_frozen BK157.out 2
                       have hfz19_3 := blk_frozen BK157.out 3
                       have hfz19_4 := blk_frozen BK157.out 4
                       go_wp2
                       repeat (go_quiet (fail); try go_wp2)
                       refine bodyPost_ret (results_ct rfl _ _ gb157 72 #[.int .i64 0, .int .i64 0, .int .i64 0, .int .i64 0, .slice none 0 0] (0, 0) _ rfl (by (with_reducible repeat (first | refine blk_drewN ?_ _ | refine blk_drew ?_ | refine blk_alloc ?_ _)); refine blk_put (cs := #[.int .i64 0, .int .i64 0, .int .i64 0, .int .i64 0, .slice none 0 0]) ?_ 4 _ rfl; (with_reducible repeat (first | refine blk_drewN ?_ _ | refine blk_drew ?_ | refine blk_alloc ?_ _)); refine blk_put (cs := #[.int .i64 0, .int .i64 0, .int .i64 0, .int .i64 x158003_2, .slice none 0 0]) ?_ 3 _ rfl; (with_reducible repeat (first | refine blk_drewN ?_ _ | refine blk_drew ?_ | refine blk_alloc ?_ _)); refine blk_put (cs := #[.int .i64 0, .int .i64 0, .int .i64 x158002_2, .int .i64 x158003_2, .slice none 0 0]) ?_ 2 _ rfl; (with_reducible repeat (first | refine blk_drewN ?_ _ | refine blk_drew ?_ | refine blk_alloc ?_ _)); refine blk_put (cs := #[.int .i64 0, .int .i64 x158001_2, .int .i64 x158002_2, .int .i64 x158003_2, .slice none 0 0]) ?_ 1 _ rfl; (with_reducible repeat (first | refine blk_drewN ?_ _ | refine blk_drew ?_ | refine blk_alloc ?_ _)); refine blk_put (cs := #[.int .i64 x158000_2, .int .i64 x158001_2, .int .i64 x158002_2, .int .i64 x158003_2, .slice none 0 0]) ?_ 0 _ rfl; (with_reducible repeat (first | refine blk_drewN ?_ _ | refine blk_drew ?_ | refine blk_alloc ?_ _)); exact BK157.out) Tryd.underlying72 rfl (by kernel_rfl)) rfl ?_
                       exact ⟨_, by first | rfl | (simp [errW_none, errW_some] <;> rfl) | (simp only [← hji15]; first | rfl | (simp [errW_none, errW_some] <;> rfl)) | (simp [*, errW_none, errW_some] <;> rfl), by first | exact Kd.R_nil _ _ _ _ _ | exact Kd.N_nil _ _ _ _ _ | exact Kd.V_nil _ _ _ _ _ | exact Kd.Q_nil _ _ _ _ _ | exact Kd.S_nil _ _ _ _ _, by repeat (first | (with_reducible first | exact HB.out | apply below_alloc | apply pw_below_drewN | apply below_drew1 | refine below_set ?_ GE157.out) | exact HB.out)⟩
                     · rw [if_neg c18] at H
                       have c18b0 : decide ((wrap64 (((rd_T45 l0 (ji15)).f0) + 1)) < ((rd_T45 l0 x4_2).f0)) = false := decide_eq_false c18
                       clear c18
                       have H' := Aside0.mk H
                       clear H
                       have p161 : 0 ≤ (x4_2 : Int) := of_decide_eq_true (by first | (with_reducible assumption) | assumption)
                       have q161 : x4_2 < (l0.length : Int) := of_decide_eq_true (by first | (with_reducible assumption) | assumption)
                       obtain ⟨ad161, e161, hx161_0, hx161_1, hx161_2, hx161_3, hx161_4, hx161_5, hx161_6⟩ := at_T45 HR0.out x4_2 p161 q161
                       cases e161
                       replace hx161_0 := (HB.out.cell (World.block_lt_of_cell? w _ hx161_0)).trans hx161_0
                       replace hx161_1 := (HB.out.cell (World.block_lt_of_cell? w _ hx161_1)).trans hx161_1
                       replace hx161_2 := (HB.out.cell (World.block_lt_of_cell? w _ hx161_2)).trans hx161_2
                       replace hx161_3 := (HB.out.cell (World.block_lt_of_cell? w _ hx161_3)).trans hx161_3
                       replace hx161_4 := (HB.out.cell (World.block_lt_of_cell? w _ hx161_4)).trans hx161_4
                       replace hx161_5 := (HB.out.cell (World.block_lt_of_cell? w _ hx161_5)).trans hx161_5
                       replace hx161_6 := (HB.out.cell (World.block_lt_of_cell? w _ hx161_6)).trans hx161_6
                       replace p161 := eq_true p161
                       replace q161 := eq_true q161
                       have p162 : 0 ≤ (x4_2 : Int) := of_decide_eq_true (by first | (with_reducible assumption) | assumption)
                       have q162 : x4_2 < (l0.length : Int) := of_decide_eq_true (by first | (with_reducible assumption) | assumption)
                       obtain ⟨ad162, e162, hx162_0, hx162_1, hx162_2, hx162_3, hx162_4, hx162_5, hx162_6⟩ := at_T45 HR0.out x4_2 p162 q162
                       obtain rfl : ad161 = ad162 := (by injection e162)
                       replace hx162_0 := (HB.out.cell (World.block_lt_of_cell? w _ hx162_0)).trans hx162_0
                       replace hx162_1 := (HB.out.cell (World.block_lt_of_cell? w _ hx162_1)).trans hx162_1
                       replace hx162_2 := (HB.out.cell (World.block_lt_of_cell? w _ hx162_2)).trans hx162_2
                       replace hx162_3 := (HB.out.cell (World.block_lt_of_cell? w _ hx162_3)).trans hx162_3
                       replace hx162_4 := (HB.out.cell (World.block_lt_of_cell? w _ hx162_4)).trans hx162_4
                       replace hx162_5 := (HB.out.cell (World.block_lt_of_cell? w _ hx162_5)).trans hx162_5
                       replace hx162_6 := (HB.out.cell (World.block_lt_of_cell? w _ hx162_6)).trans hx162_6
                       replace p162 := eq_true p162
                       replace q162 := eq_true q162
                       have p163 : 0 ≤ ((ji15) : Int) := of_decide_eq_true (by first | (with_reducible assumption) | assumption)
                       have q163 : (ji15) < (l0.length : Int) := of_decide_eq_true (by first | (with_reducible assumption) | assumption)
                       obtain ⟨ad163, e163, hx163_0, hx163_1, hx163_2, hx163_3, hx163_4, hx163_5, hx163_6⟩ := at_T45 HR0.out (ji15) p163 q163
                       obtain rfl : ad161 = ad163 := (by injection e163)
                       replace hx163_0 := (HB.out.cell (World.block_lt_of_cell? w _ hx163_0)).trans hx163_0
                       replace hx163_1 := (HB.out.cell (World.block_lt_of_cell? w _ hx163_1)).trans hx163_1
                       replace hx163_2 := (HB.out.cell (World.block_lt_of_cell? w _ hx163_2)).trans hx163_2
                       replace hx163_3 := (HB.out.cell (World.block_lt_of_cell? w _ hx163_3)).trans hx163_3
                       replace hx163_4 := (HB.out.cell (World.block_lt_of_cell? w _ hx163_4)).trans hx163_4
                       replace hx163_5 := (HB.out.cell (World.block_lt_of_cell? w _ hx163_5)).trans hx163_5
                       replace hx163_6 := (HB.out.cell (World.block_lt_of_cell? w _ hx163_6)).trans hx163_6
                       replace p163 := eq_true p163
                       replace q163 := eq_true q163
                       go_wp2
                       repeat (go_quiet (fail); try go_wp2)
                       go_roundg k2
                       case measure => have := HJ1.out; have := HK2.out; omega
                       case rel => exact ⟨(wrap64 (x4_2 + 1)), (x158000_2), (x158001_2), (x158002_2), (x158003_2), (by first | rfl | (simp; done) | (simp [*]; done)), H', ⟨by have := HJ1.out; have := HK2.out; omega⟩, ⟨by (with_reducible repeat (first | refine blk_drewN ?_ _ | refine blk_drew ?_ | refine blk_alloc ?_ _)); exact BK157.out⟩, ⟨by repeat (first | (with_reducible first | exact HB.out | apply below_alloc | apply pw_below_drewN | apply below_drew1 | refine below_set ?_ GE157.out) | exact HB.out)⟩⟩
                   · rw [if_neg c17] at H
                     exact absurd H (by simp)
                 · rw [if_neg c16] at H
                   exact absurd H (by simp)
             · rw [if_neg c12] at H
               exact absurd H (by simp)
           · rw [if_neg c11] at H
             have c11b0 : decide (x4_2 < (l0.length : Int)) = false := decide_eq_false c11
             clear c11
             replace H := Option.bind_eq_some_iff.mp H
             obtain ⟨⟨t164, t165, t166, t167, t168, t171⟩, A200, H⟩ := H
             replace H : ((mullionref04_Ids.f k2 t164 t165 t166 t167 t168).bind fun t173 => ((mullionref04_sizes.f k2 t164 t165 t166 t167 t168).bind fun t176 => (if t176 = true then ((mullionref04_twice.f k2 t173).bind fun t177 => (if t177 = true then (mullionref04_Tree.j2 k2 l0 true t164 t165 t166 t167 t168) else (mullionref04_Tree.j2 k2 l0 (decide ((t173.length : Int) > 32)) t164 t165 t166 t167 t168))) else (mullionref04_Tree.j2 k2 l0 true t164 t165 t166 t167 t168)))) = some (r1, r2, r3, r4, r5, r6) := H
             have A20 := Aside0.mk A200
             clear A200
             replace H := Option.bind_eq_some_iff.mp H
             obtain ⟨t173, A210, H⟩ := H
             replace H : ((mullionref04_sizes.f k2 t164 t165 t166 t167 t168).bind fun t176 => (if t176 = true then ((mullionref04_twice.f k2 t173).bind fun t177 => (if t177 = true then (mullionref04_Tree.j2 k2 l0 true t164 t165 t166 t167 t168) else (mullionref04_Tree.j2 k2 l0 (decide ((t173.length : Int) > 32)) t164 t165 t166 t167 t168))) else (mullionref04_Tree.j2 k2 l0 true t164 t165 t166 t167 t168))) = some (r1, r2, r3, r4, r5, r6) := H
             have A21 := Aside0.mk A210
             clear A210
             have HC22 := Aside0.mk H
             clear H
             go_upto_region 10 with (first | (go_at_call 57; (with_reducible refine (mullionref04_grown.calls k2 _ _ l0 0 t164 t165 t166 t167 t168 t171 _ ?side1 ?side2 A20.out).mono ?_); (case side1 => repeat (first | exact (Kd.C_below HR0.out HB.out) | (with_reducible refine Kd.C_alloc ?_ _) | (with_reducible refine Kd.C_drewN ?_ _) | (with_reducible refine Kd.C_drew ?_))); (case side2 => exact HC0.out); rintro e w23 ⟨v169, rfl, ho0, hb⟩; have n0_ := Aside0.mk (Kd.R_lower (Kd.R_newB ho0 (g := gb157) (o := .cells #[.int .i64 x158000_2, .int .i64 x158001_2, .int .i64 x158002_2, .int .i64 x158003_2, .slice none 0 0] 72 (0, 0)) (by (with_reducible repeat (first | refine blk_drewN ?_ _ | refine blk_drew ?_ | refine blk_alloc ?_ _)); exact BK157.out)) (below_size (by repeat (first | (with_reducible first | exact HB.out | apply below_alloc | apply pw_below_drewN | apply below_drew1 | refine below_set ?_ GE157.out) | exact HB.out)))); have n1_ := Aside0.mk (blk_below (g := gb157) (o := .cells #[.int .i64 x158000_2, .int .i64 x158001_2, .int .i64 x158002_2, .int .i64 x158003_2, .slice none 0 0] 72 (0, 0)) (by (with_reducible repeat (first | refine blk_drewN ?_ _ | refine blk_drew ?_ | refine blk_alloc ?_ _)); exact BK157.out) hb); have n2_ := Aside0.mk (below_step (by repeat (first | (with_reducible first | exact HB.out | apply below_alloc | apply pw_below_drewN | apply below_drew1 | refine below_set ?_ GE157.out) | exact HB.out)) hb); clear BK157; clear HB; have HO170 := n0_; have BK157 := n1_; have HB := n2_; clear n0_ n1_ n2_; (try clear hb); (try clear hb2); (try clear hk); (try clear hi); (try clear ho0)) | ((with_reducible refine gate_dst (N := 5) rfl ?_); (try (refine gate_guard (by rfl) ?_; dsimp only)); refine box_event ?hg (N := 5) ?hd (cs := #[.int .i64 0, .int .i64 0, .int .i64 0, .int .i64 0, .slice none 0 0]) (t := 72) ?hr ?_; (case hd => rfl); (case hg => rfl); (case hr => first | (go_simp; done) | (go_simp; rfl)); intro gb172 hg w24 hbox hb; have n0_ := Aside0.mk (Kd.R_below (Kd.R_elderB (by (with_reducible repeat (first | apply Kd.R_alloc | apply Kd.R_drewN | apply Kd.R_drew)); exact HO170.out) gb172 (Nat.le_of_eq hg.symm)) hb); have n1_ := Aside0.mk (blk_below (g := gb157) (o := .cells #[.int .i64 x158000_2, .int .i64 x158001_2, .int .i64 x158002_2, .int .i64 x158003_2, .slice none 0 0] 72 (0, 0)) (by (with_reducible repeat (first | refine blk_drewN ?_ _ | refine blk_drew ?_ | refine blk_alloc ?_ _)); exact BK157.out) hb); have n2_ := Aside0.mk (below_step (by repeat (first | (with_reducible first | exact HB.out | apply below_alloc | apply pw_below_drewN | apply below_drew1 | refine below_set ?_ GE157.out) | exact HB.out)) hb); have n3_ := Aside0.mk (hbox); have n4_ := Aside0.mk ((by rw [hg]; exact (below_size (by repeat (first | (with_reducible first | exact HB.out | apply below_alloc | apply pw_below_drewN | apply below_drew1 | refine below_set ?_ GE157.out) | exact HB.out))) : w.heap.size ≤ gb172)); have n5_ := Aside0.mk ((by rw [hg]; exact (below_size (by repeat (first | (with_reducible first | exact HB.out | apply below_alloc | apply pw_below_drewN | apply below_drew1 | refine below_set ?_ GE157.out) | exact HB.out))) : w.heap.size ≤ gb172)); have n6_ := Aside0.mk ((by rw [hg]; exact Nat.ne_of_lt (blk_lt (g := gb157) (o := .cells #[.int .i64 x158000_2, .int .i64 x158001_2, .int .i64 x158002_2, .int .i64 x158003_2, .slice none 0 0] 72 (0, 0)) (by (with_reducible repeat (first | refine blk_drewN ?_ _ | refine blk_drew ?_ | refine blk_alloc ?_ _)); exact BK157.out)) : gb157 ≠ gb172)); have n7_ := Aside0.mk ((by rw [hg]; exact Nat.ne_of_gt (blk_lt (g := gb157) (o := .cells #[.int .i64 x158000_2, .int .i64 x158001_2, .int .i64 x158002_2, .int .i64 x158003_2, .slice none 0 0] 72 (0, 0)) (by (with_reducible repeat (first | refine blk_drewN ?_ _ | refine blk_drew ?_ | refine blk_alloc ?_ _)); exact BK157.out)) : gb172 ≠ gb157)); clear HO170; clear BK157; clear HB; have HO170 := n0_; have BK157 := n1_; have HB := n2_; have BK172 := n3_; have GW172 := n4_; have GE172 := n5_; have NB157_172 := n6_; have NB172_157 := n7_; clear n0_ n1_ n2_ n3_ n4_ n5_ n6_ n7_; clear hb hbox hg; have hnb25 := NB172_157.out; have hnc25 := NB157_172.out; have hcz26_0 : w24.cell? ⟨gb172, 0, none⟩ = some (.int .i64 0) := (blk_cell BK172.out 0).trans rfl; have hcz26_1 : w24.cell? ⟨gb172, 1, none⟩ = some (.int .i64 0) := (blk_cell BK172.out 1).trans rfl; have hcz26_2 : w24.cell? ⟨gb172, 2, none⟩ = some (.int .i64 0) := (blk_cell BK172.out 2).trans rfl; have hcz26_3 : w24.cell? ⟨gb172, 3, none⟩ = some (.int .i64 0) := (blk_cell BK172.out 3).trans rfl; have hcz26_4 : w24.cell? ⟨gb172, 4, none⟩ = some (.slice none 0 0) := (blk_cell BK172.out 4).trans rfl; have hfz26_0 := blk_frozen BK172.out 0; have hfz26_1 := blk_frozen BK172.out 1; have hfz26_2 := blk_frozen BK172.out 2; have hfz26_3 := blk_frozen BK172.out 3; have hfz26_4 := blk_frozen BK172.out 4; obtain ⟨Ao27, co27, eo27⟩ := Kd.R_slice HO170.out; subst eo27) | (go_at_call 55; (with_reducible refine (mullionref04_Ids.calls k2 t164 t165 t166 t167 _ _ t168 t173 _ ?side1 ?side2 A21.out).mono ?_); (case side1 => refine (Kd.R_reads' (e := 72) (base := w.heap.size) (ok := fun k_ => ((True ∧ k_ ≠ gb157) ∧ k_ ≠ gb172)) (n := t168.length) (c := co27) ?_).2.2; exact (by (with_reducible repeat (first | apply Kd.R_alloc | apply Kd.R_drewN | apply Kd.R_drew)); exact (Kd.R_mono (Kd.R_far (p := ⟨gb172, 4, none⟩) (Kd.R_far (p := ⟨gb172, 3, none⟩) (Kd.R_far (p := ⟨gb172, 2, none⟩) (Kd.R_far (p := ⟨gb172, 1, none⟩) (Kd.R_far (p := ⟨gb172, 0, none⟩) (Kd.R_mono HO170.out (fun k_ hk => (⟨hk, hk.2⟩ : _ ∧ k_ ≠ gb172))) (fun _ hk => hk.2) (.int .i64 t164)) (fun _ hk => hk.2) (.int .i64 t165)) (fun _ hk => hk.2) (.int .i64 t166)) (fun _ hk => hk.2) (.int .i64 t167)) (fun _ hk => hk.2) (.slice Ao27 t168.length co27)) (fun _ h_ => h_.1)))); (case side2 => exact (Kd.R_reads' HO170.out).2.1); rintro e w28 ⟨v174, rfl, ho0, hb⟩; have n0_ := Aside0.mk (Kd.R_below (by (with_reducible repeat (first | apply Kd.R_alloc | apply Kd.R_drewN | apply Kd.R_drew)); exact (Kd.R_mono (Kd.R_far (p := ⟨gb172, 4, none⟩) (Kd.R_far (p := ⟨gb172, 3, none⟩) (Kd.R_far (p := ⟨gb172, 2, none⟩) (Kd.R_far (p := ⟨gb172, 1, none⟩) (Kd.R_far (p := ⟨gb172, 0, none⟩) (Kd.R_mono HO170.out (fun k_ hk => (⟨hk, hk.2⟩ : _ ∧ k_ ≠ gb172))) (fun _ hk => hk.2) (.int .i64 t164)) (fun _ hk => hk.2) (.int .i64 t165)) (fun _ hk => hk.2) (.int .i64 t166)) (fun _ hk => hk.2) (.int .i64 t167)) (fun _ hk => hk.2) (.slice Ao27 t168.length co27)) (fun _ h_ => h_.1))) hb); have n1_ := Aside0.mk (Kd.R_lower ho0 (below_size (by repeat (first | (with_reducible first | exact HB.out | apply below_alloc | apply pw_below_drewN | apply below_drew1 | refine below_set ?_ GE157.out | refine below_set ?_ GE172.out) | exact HB.out)))); have n2_ := Aside0.mk (blk_below (g := gb157) (o := .cells #[.int .i64 x158000_2, .int .i64 x158001_2, .int .i64 x158002_2, .int .i64 x158003_2, .slice none 0 0] 72 (0, 0)) (by (with_reducible repeat (first | refine blk_drewN ?_ _ | refine blk_drew ?_ | refine blk_alloc ?_ _)); refine blk_far ?_ NB157_172.out _; (with_reducible repeat (first | refine blk_drewN ?_ _ | refine blk_drew ?_ | refine blk_alloc ?_ _)); refine blk_far ?_ NB157_172.out _; (with_reducible repeat (first | refine blk_drewN ?_ _ | refine blk_drew ?_ | refine blk_alloc ?_ _)); refine blk_far ?_ NB157_172.out _; (with_reducible repeat (first | refine blk_drewN ?_ _ | refine blk_drew ?_ | refine blk_alloc ?_ _)); refine blk_far ?_ NB157_172.out _; (with_reducible repeat (first | refine blk_drewN ?_ _ | refine blk_drew ?_ | refine blk_alloc ?_ _)); refine blk_far ?_ NB157_172.out _; (with_reducible repeat (first | refine blk_drewN ?_ _ | refine blk_drew ?_ | refine blk_alloc ?_ _)); exact BK157.out) hb); have n3_ := Aside0.mk (blk_below (g := gb172) (o := .cells #[.int .i64 t164, .int .i64 t165, .int .i64 t166, .int .i64 t167, .slice Ao27 t168.length co27] 72 (0, 0)) (by (with_reducible repeat (first | refine blk_drewN ?_ _ | refine blk_drew ?_ | refine blk_alloc ?_ _)); refine blk_put (cs := #[.int .i64 t164, .int .i64 t165, .int .i64 t166, .int .i64 t167, .slice none 0 0]) ?_ 4 _ rfl; (with_reducible repeat (first | refine blk_drewN ?_ _ | refine blk_drew ?_ | refine blk_alloc ?_ _)); refine blk_put (cs := #[.int .i64 t164, .int .i64 t165, .int .i64 t166, .int .i64 0, .slice none 0 0]) ?_ 3 _ rfl; (with_reducible repeat (first | refine blk_drewN ?_ _ | refine blk_drew ?_ | refine blk_alloc ?_ _)); refine blk_put (cs := #[.int .i64 t164, .int .i64 t165, .int .i64 0, .int .i64 0, .slice none 0 0]) ?_ 2 _ rfl; (with_reducible repeat (first | refine blk_drewN ?_ _ | refine blk_drew ?_ | refine blk_alloc ?_ _)); refine blk_put (cs := #[.int .i64 t164, .int .i64 0, .int .i64 0, .int .i64 0, .slice none 0 0]) ?_ 1 _ rfl; (with_reducible repeat (first | refine blk_drewN ?_ _ | refine blk_drew ?_ | refine blk_alloc ?_ _)); refine blk_put (cs := #[.int .i64 0, .int .i64 0, .int .i64 0, .int .i64 0, .slice none 0 0]) ?_ 0 _ rfl; (with_reducible repeat (first | refine blk_drewN ?_ _ | refine blk_drew ?_ | refine blk_alloc ?_ _)); exact BK172.out) hb); have n4_ := Aside0.mk (below_step (by repeat (first | (with_reducible first | exact HB.out | apply below_alloc | apply pw_below_drewN | apply below_drew1 | refine below_set ?_ GE157.out | refine below_set ?_ GE172.out) | exact HB.out)) hb); clear HO170; clear BK157; clear BK172; clear HB; have HO170 := n0_; have HO175 := n1_; have BK157 := n2_; have BK172 := n3_; have HB := n4_; clear n0_ n1_ n2_ n3_ n4_; (try clear hb); (try clear hb2); (try clear hk); (try clear hi); (try clear ho0)))
             repeat (go_quiet (fail); try go_wp2)
             (try simp only [Act.put, List.setIfInBounds_toArray, List.set_cons_zero, List.set_cons_succ])
             go_cut [86] (fun v86 wc => ∃ (kq : Nat) (x86_21 : Bool), v86 = .bool x86_21 ∧ Aside0 (mullionref04_Tree.j2 kq l0 x86_21 t164 t165 t166 t167 t168 = some (r1, r2, r3, r4, r5, r6)) ∧ Aside0 (kq ≤ k2) ∧ Aside0 (Kd.R k72 72 wc w.heap.size (fun k_ => k_ ≠ gb157 ∧ k_ ≠ gb172) (.slice Ao27 t168.length co27) t168) ∧ Aside0 (wc.heap[gb157]? = some (.cells #[.int .i64 x158000_2, .int .i64 x158001_2, .int .i64 x158002_2, .int .i64 x158003_2, (.slice none 0 0)] 72 (0, 0))) ∧ Aside0 (wc.heap[gb172]? = some (.cells #[.int .i64 t164, .int .i64 t165, .int .i64 t166, .int .i64 t167, (.slice Ao27 t168.length co27)] 72 (0, 0))) ∧ Aside0 (Below w.heap.size w wc))
             case first =>
               have H := HC22.out
               clear HC22
               replace H := Option.bind_eq_some_iff.mp H
               obtain ⟨t176, A290, H⟩ := H
               replace H : (if t176 = true then ((mullionref04_twice.f k2 t173).bind fun t177 => (if t177 = true then (mullionref04_Tree.j2 k2 l0 true t164 t165 t166 t167 t168) else (mullionref04_Tree.j2 k2 l0 (decide ((t173.length : Int) > 32)) t164 t165 t166 t167 t168))) else (mullionref04_Tree.j2 k2 l0 true t164 t165 t166 t167 t168)) = some (r1, r2, r3, r4, r5, r6) := H
               have A29 := Aside0.mk A290
               clear A290
               by_cases c30 : t176 = true
               · subst c30
                 have H1 : ((mullionref04_twice.f k2 t173).bind fun t177 => (if t177 = true then (mullionref04_Tree.j2 k2 l0 true t164 t165 t166 t167 t168) else (mullionref04_Tree.j2 k2 l0 (decide ((t173.length : Int) > 32)) t164 t165 t166 t167 t168))) = some (r1, r2, r3, r4, r5, r6) := by rw [if_pos rfl] at H; exact H
                 clear H
                 have H := H1
                 clear H1
                 replace H := Option.bind_eq_some_iff.mp H
                 obtain ⟨t177, A310, H⟩ := H
                 replace H : (if t177 = true then (mullionref04_Tree.j2 k2 l0 true t164 t165 t166 t167 t168) else (mullionref04_Tree.j2 k2 l0 (decide ((t173.length : Int) > 32)) t164 t165 t166 t167 t168)) = some (r1, r2, r3, r4, r5, r6) := H
                 have A31 := Aside0.mk A310
                 clear A310
                 by_cases c32 : t177 = true
                 · subst c32
                   have H1 : (mullionref04_Tree.j2 k2 l0 true t164 t165 t166 t167 t168) = some (r1, r2, r3, r4, r5, r6) := by rw [if_pos rfl] at H; exact H
                   clear H
                   have H := H1
                   clear H1
                   have H' := Aside0.mk H
                   clear H
                   have hnb33 := NB172_157.out
                   have hnc33 := NB157_172.out
                   have hcz34_0 : w28.cell? ⟨gb172, 0, none⟩ = some (.int .i64 t164) := (blk_cell BK172.out 0).trans rfl
                   have hcz34_1 : w28.cell? ⟨gb172, 1, none⟩ = some (.int .i64 t165) := (blk_cell BK172.out 1).trans rfl
                   have hcz34_2 : w28.cell? ⟨gb172, 2, none⟩ = some (.int .i64 t166) := (blk_cell BK172.out 2).trans rfl
                   have hcz34_3 : w28.cell? ⟨gb172, 3, none⟩ = some (.int .i64 t167) := (blk_cell BK172.out 3).trans rfl
                   have hcz34_4 : w28.cell? ⟨gb172, 4, none⟩ = some (.slice Ao27 t168.length co27) := (blk_cell BK172.out 4).trans rfl
                   have hfz34_0 := blk_frozen BK172.out 0
                   have hfz34_1 := blk_frozen BK172.out 1
                   have hfz34_2 := blk_frozen BK172.out 2
                   have hfz34_3 := blk_frozen BK172.out 3
                   have hfz34_4 := blk_frozen BK172.out 4
                   go_wp2_with (first | (go_at_call 58; (with_reducible refine (mullionref04_sizes.calls k2 t164 t165 t166 t167 _ _ t168 true _ ?side1 ?side2 A29.out).mono ?_); (case side1 => repeat (first | exact (Kd.R_reads' HO170.out).2.2 | (with_reducible refine Kd.C_alloc ?_ _) | (with_reducible refine Kd.C_drewN ?_ _) | (with_reducible refine Kd.C_drew ?_))); (case side2 => exact (Kd.R_reads' HO170.out).2.1); rintro e w35 ⟨rfl, hb⟩; have n0_ := Aside0.mk (Kd.R_below (by (with_reducible repeat (first | apply Kd.R_alloc | apply Kd.R_drewN | apply Kd.R_drew)); exact HO170.out) hb); have n1_ := Aside0.mk (Kd.R_below (by (with_reducible repeat (first | apply Kd.R_alloc | apply Kd.R_drewN | apply Kd.R_drew)); exact HO175.out) hb); have n2_ := Aside0.mk (blk_below (g := gb157) (o := .cells #[.int .i64 x158000_2, .int .i64 x158001_2, .int .i64 x158002_2, .int .i64 x158003_2, .slice none 0 0] 72 (0, 0)) (by (with_reducible repeat (first | refine blk_drewN ?_ _ | refine blk_drew ?_ | refine blk_alloc ?_ _)); exact BK157.out) hb); have n3_ := Aside0.mk (blk_below (g := gb172) (o := .cells #[.int .i64 t164, .int .i64 t165, .int .i64 t166, .int .i64 t167, .slice Ao27 t168.length co27] 72 (0, 0)) (by (with_reducible repeat (first | refine blk_drewN ?_ _ | refine blk_drew ?_ | refine blk_alloc ?_ _)); exact BK172.out) hb); have n4_ := Aside0.mk (below_step (by repeat (first | (with_reducible first | exact HB.out | apply below_alloc | apply pw_below_drewN | apply below_drew1 | refine below_set ?_ GE157.out | refine below_set ?_ GE172.out) | exact HB.out)) hb); clear HO170; clear HO175; clear BK157; clear BK172; clear HB; have HO170 := n0_; have HO175 := n1_; have BK157 := n2_; have BK172 := n3_; have HB := n4_; clear n0_ n1_ n2_ n3_ n4_; (try clear hb); (try clear hb2); (try clear hk); (try clear hi); obtain ⟨Ao36, co36, eo36⟩ := Kd.R_slice HO175.out; subst eo36) | (go_at_call 59; (with_reducible refine (mullionref04_twice.calls k2 _ _ t173 true _ ?side1 ?side2 A31.out).mono ?_); (case side1 => repeat (first | exact (Kd.R_reads' HO175.out).2.2 | (with_reducible refine Kd.C_alloc ?_ _) | (with_reducible refine Kd.C_drewN ?_ _) | (with_reducible refine Kd.C_drew ?_))); (case side2 => exact (Kd.R_reads' HO175.out).2.1); rintro e w' ⟨rfl, ⟨nd, rfl⟩⟩; (try first | exact ⟨rfl, _, World.drewN_drewN _ _ _⟩ | exact ⟨rfl, _, Eq.trans (World.drewN_drewN _ _ _) (congrArg (World.drewN _) (Nat.add_assoc _ _ _))⟩)))
                   repeat (go_quiet (fail); try go_wp2)
                   go_meet
                   case rel => exact ⟨_, (true), (by first | rfl | (simp; done) | (simp [*]; done)), H', ⟨by have := HJ1.out; have := HK2.out; first | omega | exact Nat.le_refl _⟩, ⟨by (with_reducible repeat (first | apply Kd.R_alloc | apply Kd.R_drewN | apply Kd.R_drew)); exact Kd.R_mono HO170.out (fun _ hk => ⟨hk.1.2, hk.2⟩)⟩, ⟨by (with_reducible repeat (first | refine blk_drewN ?_ _ | refine blk_drew ?_ | refine blk_alloc ?_ _)); exact BK157.out⟩, ⟨by (with_reducible repeat (first | refine blk_drewN ?_ _ | refine blk_drew ?_ | refine blk_alloc ?_ _)); exact BK172.out⟩, ⟨by repeat (first | (with_reducible first | exact HB.out | apply below_alloc | apply pw_below_drewN | apply below_drew1 | refine below_set ?_ GE157.out | refine below_set ?_ GE172.out) | exact HB.out)⟩⟩
                 · replace c32 := Bool.eq_false_iff.mpr c32
                   subst c32
                   have H1 : (mullionref04_Tree.j2 k2 l0 (decide ((t173.length : Int) > 32)) t164 t165 t166 t167 t168) = some (r1, r2, r3, r4, r5, r6) := by rw [if_neg (show ¬ (false = true) by decide)] at H; exact H
                   clear H
                   have H := H1
                   clear H1
                   have H' := Aside0.mk H
                   clear H
                   have hnb37 := NB172_157.out
                   have hnc37 := NB157_172.out
                   have hcz38_0 : w28.cell? ⟨gb172, 0, none⟩ = some (.int .i64 t164) := (blk_cell BK172.out 0).trans rfl
                   have hcz38_1 : w28.cell? ⟨gb172, 1, none⟩ = some (.int .i64 t165) := (blk_cell BK172.out 1).trans rfl
                   have hcz38_2 : w28.cell? ⟨gb172, 2, none⟩ = some (.int .i64 t166) := (blk_cell BK172.out 2).trans rfl
                   have hcz38_3 : w28.cell? ⟨gb172, 3, none⟩ = some (.int .i64 t167) := (blk_cell BK172.out 3).trans rfl
                   have hcz38_4 : w28.cell? ⟨gb172, 4, none⟩ = some (.slice Ao27 t168.length co27) := (blk_cell BK172.out 4).trans rfl
                   have hfz38_0 := blk_frozen BK172.out 0
                   have hfz38_1 := blk_frozen BK172.out 1
                   have hfz38_2 := blk_frozen BK172.out 2
                   have hfz38_3 := blk_frozen BK172.out 3
                   have hfz38_4 := blk_frozen BK172.out 4
                   go_wp2_with (first | (go_at_call 58; (with_reducible refine (mullionref04_sizes.calls k2 t164 t165 t166 t167 _ _ t168 true _ ?side1 ?side2 A29.out).mono ?_); (case side1 => repeat (first | exact (Kd.R_reads' HO170.out).2.2 | (with_reducible refine Kd.C_alloc ?_ _) | (with_reducible refine Kd.C_drewN ?_ _) | (with_reducible refine Kd.C_drew ?_))); (case side2 => exact (Kd.R_reads' HO170.out).2.1); rintro e w39 ⟨rfl, hb⟩; have n0_ := Aside0.mk (Kd.R_below (by (with_reducible repeat (first | apply Kd.R_alloc | apply Kd.R_drewN | apply Kd.R_drew)); exact HO170.out) hb); have n1_ := Aside0.mk (Kd.R_below (by (with_reducible repeat (first | apply Kd.R_alloc | apply Kd.R_drewN | apply Kd.R_drew)); exact HO175.out) hb); have n2_ := Aside0.mk (blk_below (g := gb157) (o := .cells #[.int .i64 x158000_2, .int .i64 x158001_2, .int .i64 x158002_2, .int .i64 x158003_2, .slice none 0 0] 72 (0, 0)) (by (with_reducible repeat (first | refine blk_drewN ?_ _ | refine blk_drew ?_ | refine blk_alloc ?_ _)); exact BK157.out) hb); have n3_ := Aside0.mk (blk_below (g := gb172) (o := .cells #[.int .i64 t164, .int .i64 t165, .int .i64 t166, .int .i64 t167, .slice Ao27 t168.length co27] 72 (0, 0)) (by (with_reducible repeat (first | refine blk_drewN ?_ _ | refine blk_drew ?_ | refine blk_alloc ?_ _)); exact BK172.out) hb); have n4_ := Aside0.mk (below_step (by repeat (first | (with_reducible first | exact HB.out | apply below_alloc | apply pw_below_drewN | apply below_drew1 | refine below_set ?_ GE157.out | refine below_set ?_ GE172.out) | exact HB.out)) hb); clear HO170; clear HO175; clear BK157; clear BK172; clear HB; have HO170 := n0_; have HO175 := n1_; have BK157 := n2_; have BK172 := n3_; have HB := n4_; clear n0_ n1_ n2_ n3_ n4_; (try clear hb); (try clear hb2); (try clear hk); (try clear hi); obtain ⟨Ao40, co40, eo40⟩ := Kd.R_slice HO175.out; subst eo40) | (go_at_call 59; (with_reducible refine (mullionref04_twice.calls k2 _ _ t173 false _ ?side1 ?side2 A31.out).mono ?_); (case side1 => repeat (first | exact (Kd.R_reads' HO175.out).2.2 | (with_reducible refine Kd.C_alloc ?_ _) | (with_reducible refine Kd.C_drewN ?_ _) | (with_reducible refine Kd.C_drew ?_))); (case side2 => exact (Kd.R_reads' HO175.out).2.1); rintro e w' ⟨rfl, ⟨nd, rfl⟩⟩; (try first | exact ⟨rfl, _, World.drewN_drewN _ _ _⟩ | exact ⟨rfl, _, Eq.trans (World.drewN_drewN _ _ _) (congrArg (World.drewN _) (Nat.add_assoc _ _ _))⟩)))
                   repeat (go_quiet (fail); try go_wp2)
                   go_meet
                   case rel => exact ⟨_, (decide ((t173.length : Int) > 32)), (by first | rfl | (simp; done) | (simp [*]; done)), H', ⟨by have := HJ1.out; have := HK2.out; first | omega | exact Nat.le_refl _⟩, ⟨by (with_reducible repeat (first | apply Kd.R_alloc | apply Kd.R_drewN | apply Kd.R_drew)); exact Kd.R_mono HO170.out (fun _ hk => ⟨hk.1.2, hk.2⟩)⟩, ⟨by (with_reducible repeat (first | refine blk_drewN ?_ _ | refine blk_drew ?_ | refine blk_alloc ?_ _)); exact BK157.out⟩, ⟨by (with_reducible repeat (first | refine blk_drewN ?_ _ | refine blk_drew ?_ | refine blk_alloc ?_ _)); exact BK172.out⟩, ⟨by repeat (first | (with_reducible first | exact HB.out | apply below_alloc | apply pw_below_drewN | apply below_drew1 | refine below_set ?_ GE157.out | refine below_set ?_ GE172.out) | exact HB.out)⟩⟩
               · replace c30 := Bool.eq_false_iff.mpr c30
                 subst c30
                 have H1 : (mullionref04_Tree.j2 k2 l0 true t164 t165 t166 t167 t168) = some (r1, r2, r3, r4, r5, r6) := by rw [if_neg (show ¬ (false = true) by decide)] at H; exact H
                 clear H
                 have H := H1
                 clear H1
                 have H' := Aside0.mk H
                 clear H
                 have hnb41 := NB172_157.out
                 have hnc41 := NB157_172.out
                 have hcz42_0 : w28.cell? ⟨gb172, 0, none⟩ = some (.int .i64 t164) := (blk_cell BK172.out 0).trans rfl
                 have hcz42_1 : w28.cell? ⟨gb172, 1, none⟩ = some (.int .i64 t165) := (blk_cell BK172.out 1).trans rfl
                 have hcz42_2 : w28.cell? ⟨gb172, 2, none⟩ = some (.int .i64 t166) := (blk_cell BK172.out 2).trans rfl
                 have hcz42_3 : w28.cell? ⟨gb172, 3, none⟩ = some (.int .i64 t167) := (blk_cell BK172.out 3).trans rfl
                 have hcz42_4 : w28.cell? ⟨gb172, 4, none⟩ = some (.slice Ao27 t168.length co27) := (blk_cell BK172.out 4).trans rfl
                 have hfz42_0 := blk_frozen BK172.out 0
                 have hfz42_1 := blk_frozen BK172.out 1
                 have hfz42_2 := blk_frozen BK172.out 2
                 have hfz42_3 := blk_frozen BK172.out 3
                 have hfz42_4 := blk_frozen BK172.out 4
                 go_wp2_with (first | (go_at_call 58; (with_reducible refine (mullionref04_sizes.calls k2 t164 t165 t166 t167 _ _ t168 false _ ?side1 ?side2 A29.out).mono ?_); (case side1 => repeat (first | exact (Kd.R_reads' HO170.out).2.2 | (with_reducible refine Kd.C_alloc ?_ _) | (with_reducible refine Kd.C_drewN ?_ _) | (with_reducible refine Kd.C_drew ?_))); (case side2 => exact (Kd.R_reads' HO170.out).2.1); rintro e w43 ⟨rfl, hb⟩; have n0_ := Aside0.mk (Kd.R_below (by (with_reducible repeat (first | apply Kd.R_alloc | apply Kd.R_drewN | apply Kd.R_drew)); exact HO170.out) hb); have n1_ := Aside0.mk (Kd.R_below (by (with_reducible repeat (first | apply Kd.R_alloc | apply Kd.R_drewN | apply Kd.R_drew)); exact HO175.out) hb); have n2_ := Aside0.mk (blk_below (g := gb157) (o := .cells #[.int .i64 x158000_2, .int .i64 x158001_2, .int .i64 x158002_2, .int .i64 x158003_2, .slice none 0 0] 72 (0, 0)) (by (with_reducible repeat (first | refine blk_drewN ?_ _ | refine blk_drew ?_ | refine blk_alloc ?_ _)); exact BK157.out) hb); have n3_ := Aside0.mk (blk_below (g := gb172) (o := .cells #[.int .i64 t164, .int .i64 t165, .int .i64 t166, .int .i64 t167, .slice Ao27 t168.length co27] 72 (0, 0)) (by (with_reducible repeat (first | refine blk_drewN ?_ _ | refine blk_drew ?_ | refine blk_alloc ?_ _)); exact BK172.out) hb); have n4_ := Aside0.mk (below_step (by repeat (first | (with_reducible first | exact HB.out | apply below_alloc | apply pw_below_drewN | apply below_drew1 | refine below_set ?_ GE157.out | refine below_set ?_ GE172.out) | exact HB.out)) hb); clear HO170; clear HO175; clear BK157; clear BK172; clear HB; have HO170 := n0_; have HO175 := n1_; have BK157 := n2_; have BK172 := n3_; have HB := n4_; clear n0_ n1_ n2_ n3_ n4_; (try clear hb); (try clear hb2); (try clear hk); (try clear hi)))
                 repeat (go_quiet (fail); try go_wp2)
                 go_meet
                 case rel => exact ⟨_, (true), (by first | rfl | (simp; done) | (simp [*]; done)), H', ⟨by have := HJ1.out; have := HK2.out; first | omega | exact Nat.le_refl _⟩, ⟨by (with_reducible repeat (first | apply Kd.R_alloc | apply Kd.R_drewN | apply Kd.R_drew)); exact Kd.R_mono HO170.out (fun _ hk => ⟨hk.1.2, hk.2⟩)⟩, ⟨by (with_reducible repeat (first | refine blk_drewN ?_ _ | refine blk_drew ?_ | refine blk_alloc ?_ _)); exact BK157.out⟩, ⟨by (with_reducible repeat (first | refine blk_drewN ?_ _ | refine blk_drew ?_ | refine blk_alloc ?_ _)); exact BK172.out⟩, ⟨by repeat (first | (with_reducible first | exact HB.out | apply below_alloc | apply pw_below_drewN | apply below_drew1 | refine below_set ?_ GE157.out | refine below_set ?_ GE172.out) | exact HB.out)⟩⟩
             case rest =>
               clear HC22
               try clear c1
               try clear p1
               try clear q1
               try clear hx1
               try clear qi1
               try clear c2
               try clear p2
               try clear c3
               try clear c4
               try clear c4b0
               try clear c4b1
               try clear c4b2
               try clear c5
               try clear c5b0
               try clear c5b1
               try clear c6
               try clear c6b0
               try clear c6b1
               try clear p6
               try clear c7
               try clear c7b0
               try clear c7b1
               try clear c8
               try clear c8b0
               try clear c9
               try clear c11
               try clear c11b0
               try clear c12
               try clear c12b0
               try clear c13
               try clear c13b0
               try clear p15
               try clear q15
               try clear hx15
               try clear qi15
               try clear c16
               try clear c16b0
               try clear p16
               try clear q16
               try clear hx16
               try clear qi16
               try clear c17
               try clear c17b0
               try clear c18
               try clear c18b0
               try clear c25
               try clear c30
               try clear c32
               try clear c33
               try clear c37
               try clear c41
               try clear hcz10_0
               try clear hcz10_1
               try clear hcz10_2
               try clear hcz10_3
               try clear hcz10_4
               try clear hcz14_0
               try clear hcz14_1
               try clear hcz14_2
               try clear hcz14_3
               try clear hcz14_4
               try clear hcz19_0
               try clear hcz19_1
               try clear hcz19_2
               try clear hcz19_3
               try clear hcz19_4
               try clear hcz26_0
               try clear hcz26_1
               try clear hcz26_2
               try clear hcz26_3
               try clear hcz26_4
               try clear hcz34_0
               try clear hcz34_1
               try clear hcz34_2
               try clear hcz34_3
               try clear hcz34_4
               try clear hcz38_0
               try clear hcz38_1
               try clear hcz38_2
               try clear hcz38_3
               try clear hcz38_4
               try clear hcz42_0
               try clear hcz42_1
               try clear hcz42_2
               try clear hcz42_3
               try clear hcz42_4
               try clear hfz10_0
               try clear hfz10_1
               try clear hfz10_2
               try clear hfz10_3
               try clear hfz10_4
               try clear hfz14_0
               try clear hfz14_1
               try clear hfz14_2
               try clear hfz14_3
               try clear hfz14_4
               try clear hfz19_0
               try clear hfz19_1
               try clear hfz19_2
               try clear hfz19_3
               try clear hfz19_4
               try clear hfz26_0
               try clear hfz26_1
               try clear hfz26_2
               try clear hfz26_3
               try clear hfz26_4
               try clear hfz34_0
               try clear hfz34_1
               try clear hfz34_2
               try clear hfz34_3
               try clear hfz34_4
               try clear hfz38_0
               try clear hfz38_1
               try clear hfz38_2
               try clear hfz38_3
               try clear hfz38_4
               try clear hfz42_0
               try clear hfz42_1
               try clear hfz42_2
               try clear hfz42_3
               try clear hfz42_4
               try clear hx158_0
               try clear hx158_1
               try clear hx158_2
               try clear hx158_3
               try clear hx158_4
               try clear hx158_5
               try clear hx158_6
               try clear hx159_0
               try clear hx159_1
               try clear hx159_2
               try clear hx159_3
               try clear hx159_4
               try clear hx159_5
               try clear hx159_6
               try clear hx160_0
               try clear hx160_1
               try clear hx160_2
               try clear hx160_3
               try clear hx160_4
               try clear hx160_5
               try clear hx160_6
               try clear hx161_0
               try clear hx161_1
               try clear hx161_2
               try clear hx161_3
               try clear hx161_4
               try clear hx161_5
               try clear hx161_6
               try clear hx162_0
               try clear hx162_1
               try clear hx162_2
               try clear hx162_3
               try clear hx162_4
               try clear hx162_5
               try clear hx162_6
               try clear hx163_0
               try clear hx163_1
               try clear hx163_2
               try clear hx163_3
               try clear hx163_4
               try clear hx163_5
               try clear hx163_6
               try clear p1
               try clear p158
               try clear p159
               try clear p160
               try clear p161
               try clear p162
               try clear p163
               try clear p2
               try clear q1
               try clear q158
               try clear q159
               try clear q160
               try clear q161
               try clear q162
               try clear q163
               obtain ⟨kq, x86_21, rfl, HA, HJ21, HO_173004, BK157, BK172, HB⟩ := hcut
               cases kq with
               | zero => exact absurd HA.out (by simp [mullionref04_Tree.j2])
               | succ kj21 =>
                 have H := HA.out
                 clear HA
                 simp only [mullionref04_Tree.j2] at H
                 by_cases c44 : x86_21 = true
                 · subst c44
                   have H1 : (some (0, 0, 0, 0, ([] : List (S72)), false)) = some (r1, r2, r3, r4, r5, r6) := by rw [if_pos rfl] at H; exact H
                   clear H
                   have H := H1
                   clear H1
                   simp only [Option.some.injEq, Prod.mk.injEq] at H
                   obtain ⟨rfl, rfl, rfl, rfl, rfl, rfl⟩ := H
                   have hnb45 := NB157_172.out
                   have hnc45 := NB172_157.out
                   have hcz46_0 : wc.cell? ⟨gb157, 0, none⟩ = some (.int .i64 x158000_2) := (blk_cell BK157.out 0).trans rfl
                   have hcz46_1 : wc.cell? ⟨gb157, 1, none⟩ = some (.int .i64 x158001_2) := (blk_cell BK157.out 1).trans rfl
                   have hcz46_2 : wc.cell? ⟨gb157, 2, none⟩ = some (.int .i64 x158002_2) := (blk_cell BK157.out 2).trans rfl
                   have hcz46_3 : wc.cell? ⟨gb157, 3, none⟩ = some (.int .i64 x158003_2) := (blk_cell BK157.out 3).trans rfl
                   have hcz46_4 : wc.cell? ⟨gb157, 4, none⟩ = some (.slice none 0 0) := (blk_cell BK157.out 4).trans rfl
                   have hfz46_0 := blk_frozen BK157.out 0
                   have hfz46_1 := blk_frozen BK157.out 1
                   have hfz46_2 := blk_frozen BK157.out 2
                   have hfz46_3 := blk_frozen BK157.out 3
                   have hfz46_4 := blk_frozen BK157.out 4
                   go_wp2
                   repeat (go_quiet (fail); try go_wp2)
                   refine bodyPost_ret (results_ct rfl _ _ gb157 72 #[.int .i64 0, .int .i64 0, .int .i64 0, .int .i64 0, .slice none 0 0] (0, 0) _ rfl (by (with_reducible repeat (first | refine blk_drewN ?_ _ | refine blk_drew ?_ | refine blk_alloc ?_ _)); refine blk_put (cs := #[.int .i64 0, .int .i64 0, .int .i64 0, .int .i64 0, .slice none 0 0]) ?_ 4 _ rfl; (with_reducible repeat (first | refine blk_drewN ?_ _ | refine blk_drew ?_ | refine blk_alloc ?_ _)); refine blk_put (cs := #[.int .i64 0, .int .i64 0, .int .i64 0, .int .i64 x158003_2, .slice none 0 0]) ?_ 3 _ rfl; (with_reducible repeat (first | refine blk_drewN ?_ _ | refine blk_drew ?_ | refine blk_alloc ?_ _)); refine blk_put (cs := #[.int .i64 0, .int .i64 0, .int .i64 x158002_2, .int .i64 x158003_2, .slice none 0 0]) ?_ 2 _ rfl; (with_reducible repeat (first | refine blk_drewN ?_ _ | refine blk_drew ?_ | refine blk_alloc ?_ _)); refine blk_put (cs := #[.int .i64 0, .int .i64 x158001_2, .int .i64 x158002_2, .int .i64 x158003_2, .slice none 0 0]) ?_ 1 _ rfl; (with_reducible repeat (first | refine blk_drewN ?_ _ | refine blk_drew ?_ | refine blk_alloc ?_ _)); refine blk_put (cs := #[.int .i64 x158000_2, .int .i64 x158001_2, .int .i64 x158002_2, .int .i64 x158003_2, .slice none 0 0]) ?_ 0 _ rfl; (with_reducible repeat (first | refine blk_drewN ?_ _ | refine blk_drew ?_ | refine blk_alloc ?_ _)); exact BK157.out) Tryd.underlying72 rfl (by kernel_rfl)) rfl ?_
                   exact ⟨_, by first | rfl | (simp [errW_none, errW_some] <;> rfl) | (simp [*, errW_none, errW_some] <;> rfl), by first | exact Kd.R_nil _ _ _ _ _ | exact Kd.N_nil _ _ _ _ _ | exact Kd.V_nil _ _ _ _ _ | exact Kd.Q_nil _ _ _ _ _ | exact Kd.S_nil _ _ _ _ _, by repeat (first | (with_reducible first | exact HB.out | apply below_alloc | apply pw_below_drewN | apply below_drew1 | refine below_set ?_ GE157.out | refine below_set ?_ GE172.out) | exact HB.out)⟩
                 · replace c44 := Bool.eq_false_iff.mpr c44
                   subst c44
                   have H1 : ((mullionref04_List.f kj21 t164 t165 t166 t167 t168).bind fun t178 => (mullionref04_Tree.l1 kj21 l0 t178 0 t164 t165 t166 t167 t168)) = some (r1, r2, r3, r4, r5, r6) := by rw [if_neg (show ¬ (false = true) by decide)] at H; exact H
                   clear H
                   have H := H1
                   clear H1
                   replace H := Option.bind_eq_some_iff.mp H
                   obtain ⟨t178, A470, H⟩ := H
                   replace H : (mullionref04_Tree.l1 kj21 l0 t178 0 t164 t165 t166 t167 t168) = some (r1, r2, r3, r4, r5, r6) := H
                   have A47 := Aside0.mk A470
                   clear A470
                   have H' := Aside0.mk H
                   clear H
                   have hnb48 := NB172_157.out
                   have hnc48 := NB157_172.out
                   have hcz49_0 : wc.cell? ⟨gb172, 0, none⟩ = some (.int .i64 t164) := (blk_cell BK172.out 0).trans rfl
                   have hcz49_1 : wc.cell? ⟨gb172, 1, none⟩ = some (.int .i64 t165) := (blk_cell BK172.out 1).trans rfl
                   have hcz49_2 : wc.cell? ⟨gb172, 2, none⟩ = some (.int .i64 t166) := (blk_cell BK172.out 2).trans rfl
                   have hcz49_3 : wc.cell? ⟨gb172, 3, none⟩ = some (.int .i64 t167) := (blk_cell BK172.out 3).trans rfl
                   have hcz49_4 : wc.cell? ⟨gb172, 4, none⟩ = some (.slice Ao27 t168.length co27) := (blk_cell BK172.out 4).trans rfl
                   have hfz49_0 := blk_frozen BK172.out 0
                   have hfz49_1 := blk_frozen BK172.out 1
                   have hfz49_2 := blk_frozen BK172.out 2
                   have hfz49_3 := blk_frozen BK172.out 3
                   have hfz49_4 := blk_frozen BK172.out 4
                   go_wp2_with (first | (go_at_call 60; (with_reducible refine (mullionref04_List.calls kj21 t164 t165 t166 t167 _ _ t168 t178 _ ?side1 ?side2 A47.out).mono ?_); (case side1 => repeat (first | exact (Kd.R_reads' HO_173004.out).2.2 | (with_reducible refine Kd.C_alloc ?_ _) | (with_reducible refine Kd.C_drewN ?_ _) | (with_reducible refine Kd.C_drew ?_))); (case side2 => exact (Kd.R_reads' HO_173004.out).2.1); rintro e w50 ⟨v179, rfl, ho0, hb⟩; have n0_ := Aside0.mk (Kd.R_below (by (with_reducible repeat (first | apply Kd.R_alloc | apply Kd.R_drewN | apply Kd.R_drew)); exact HO_173004.out) hb); have n1_ := Aside0.mk (Kd.R_lower ho0 (below_size (by repeat (first | (with_reducible first | exact HB.out | apply below_alloc | apply pw_below_drewN | apply below_drew1 | refine below_set ?_ GE157.out | refine below_set ?_ GE172.out) | exact HB.out)))); have n2_ := Aside0.mk (blk_below (g := gb157) (o := .cells #[.int .i64 x158000_2, .int .i64 x158001_2, .int .i64 x158002_2, .int .i64 x158003_2, .slice none 0 0] 72 (0, 0)) (by (with_reducible repeat (first | refine blk_drewN ?_ _ | refine blk_drew ?_ | refine blk_alloc ?_ _)); exact BK157.out) hb); have n3_ := Aside0.mk (blk_below (g := gb172) (o := .cells #[.int .i64 t164, .int .i64 t165, .int .i64 t166, .int .i64 t167, .slice Ao27 t168.length co27] 72 (0, 0)) (by (with_reducible repeat (first | refine blk_drewN ?_ _ | refine blk_drew ?_ | refine blk_alloc ?_ _)); exact BK172.out) hb); have n4_ := Aside0.mk (below_step (by repeat (first | (with_reducible first | exact HB.out | apply below_alloc | apply pw_below_drewN | apply below_drew1 | refine below_set ?_ GE157.out | refine below_set ?_ GE172.out) | exact HB.out)) hb); clear HO_173004; clear BK157; clear BK172; clear HB; have HO_173004 := n0_; have HO180 := n1_; have BK157 := n2_; have BK172 := n3_; have HB := n4_; clear n0_ n1_ n2_ n3_ n4_; (try clear hb); (try clear hb2); (try clear hk); (try clear hi); (try clear ho0)))
                   repeat (go_quiet (fail); try go_wp2)
                   go_loopg [9] kj21 (fun kq v9 w' => ∃ (x9_4 : Int) (x158000_4 : Int) (x158001_4 : Int) (x158002_4 : Int) (x158003_4 : Int), v9 = .int .i64 x9_4 ∧ Aside0 (mullionref04_Tree.l1 kq l0 t178 x9_4 t164 t165 t166 t167 t168 = some (r1, r2, r3, r4, r5, r6)) ∧ Aside0 (kq ≤ kj21) ∧ Aside0 (Kd.R k45 45 w' w.heap.size (fun _ => True) v179 t178) ∧ Aside0 (Kd.R k72 72 w' w.heap.size (fun k_ => k_ ≠ gb157 ∧ k_ ≠ gb172) (.slice Ao27 t168.length co27) t168) ∧ Aside0 (w'.heap[gb157]? = some (.cells #[.int .i64 x158000_4, .int .i64 x158001_4, .int .i64 x158002_4, .int .i64 x158003_4, (.slice none 0 0)] 72 (0, 0))) ∧ Aside0 (w'.heap[gb172]? = some (.cells #[.int .i64 t164, .int .i64 t165, .int .i64 t166, .int .i64 t167, (.slice Ao27 t168.length co27)] 72 (0, 0))) ∧ Aside0 (Below w.heap.size w w'))
                   case atStart => exact ⟨(0), (x158000_2), (x158001_2), (x158002_2), (x158003_2), (by first | rfl | (simp; done) | (simp [*]; done)), H', ⟨Nat.le_refl _⟩, ⟨by (with_reducible repeat (first | apply Kd.R_alloc | apply Kd.R_drewN | apply Kd.R_drew)); exact HO180.out⟩, ⟨by (with_reducible repeat (first | apply Kd.R_alloc | apply Kd.R_drewN | apply Kd.R_drew)); exact HO_173004.out⟩, ⟨by (with_reducible repeat (first | refine blk_drewN ?_ _ | refine blk_drew ?_ | refine blk_alloc ?_ _)); exact BK157.out⟩, ⟨by (with_reducible repeat (first | refine blk_drewN ?_ _ | refine blk_drew ?_ | refine blk_alloc ?_ _)); exact BK172.out⟩, ⟨by repeat (first | (with_reducible first | exact HB.out | apply below_alloc | apply pw_below_drewN | apply below_drew1 | refine below_set ?_ GE157.out | refine below_set ?_ GE172.out) | exact HB.out)⟩⟩
                   case round =>
                     clear H'
                     try clear c1
                     try clear p1
                     try clear q1
                     try clear hx1
                     try clear qi1
                     try clear c2
                     try clear p2
                     try clear c3
                     try clear c4
                     try clear c4b0
                     try clear c4b1
                     try clear c4b2
                     try clear c5
                     try clear c5b0
                     try clear c5b1
                     try clear c6
                     try clear c6b0
                     try clear c6b1
                     try clear p6
                     try clear c7
                     try clear c7b0
                     try clear c7b1
                     try clear c8
                     try clear c8b0
                     try clear c9
                     try clear c11
                     try clear c11b0
                     try clear c12
                     try clear c12b0
                     try clear c13
                     try clear c13b0
                     try clear p15
                     try clear q15
                     try clear hx15
                     try clear qi15
                     try clear c16
                     try clear c16b0
                     try clear p16
                     try clear q16
                     try clear hx16
                     try clear qi16
                     try clear c17
                     try clear c17b0
                     try clear c18
                     try clear c18b0
                     try clear c25
                     try clear c30
                     try clear c32
                     try clear c33
                     try clear c37
                     try clear c41
                     try clear c44
                     try clear c45
                     try clear c48
                     try clear hcz10_0
                     try clear hcz10_1
                     try clear hcz10_2
                     try clear hcz10_3
                     try clear hcz10_4
                     try clear hcz14_0
                     try clear hcz14_1
                     try clear hcz14_2
                     try clear hcz14_3
                     try clear hcz14_4
                     try clear hcz19_0
                     try clear hcz19_1
                     try clear hcz19_2
                     try clear hcz19_3
                     try clear hcz19_4
                     try clear hcz26_0
                     try clear hcz26_1
                     try clear hcz26_2
                     try clear hcz26_3
                     try clear hcz26_4
                     try clear hcz34_0
                     try clear hcz34_1
                     try clear hcz34_2
                     try clear hcz34_3
                     try clear hcz34_4
                     try clear hcz38_0
                     try clear hcz38_1
                     try clear hcz38_2
                     try clear hcz38_3
                     try clear hcz38_4
                     try clear hcz42_0
                     try clear hcz42_1
                     try clear hcz42_2
                     try clear hcz42_3
                     try clear hcz42_4
                     try clear hcz46_0
                     try clear hcz46_1
                     try clear hcz46_2
                     try clear hcz46_3
                     try clear hcz46_4
                     try clear hcz49_0
                     try clear hcz49_1
                     try clear hcz49_2
                     try clear hcz49_3
                     try clear hcz49_4
                     try clear hfz10_0
                     try clear hfz10_1
                     try clear hfz10_2
                     try clear hfz10_3
                     try clear hfz10_4
                     try clear hfz14_0
                     try clear hfz14_1
                     try clear hfz14_2
                     try clear hfz14_3
                     try clear hfz14_4
                     try clear hfz19_0
                     try clear hfz19_1
                     try clear hfz19_2
                     try clear hfz19_3
                     try clear hfz19_4
                     try clear hfz26_0
                     try clear hfz26_1
                     try clear hfz26_2
                     try clear hfz26_3
                     try clear hfz26_4
                     try clear hfz34_0
                     try clear hfz34_1
                     try clear hfz34_2
                     try clear hfz34_3
                     try clear hfz34_4
                     try clear hfz38_0
                     try clear hfz38_1
                     try clear hfz38_2
                     try clear hfz38_3
                     try clear hfz38_4
                     try clear hfz42_0
                     try clear hfz42_1
                     try clear hfz42_2
                     try clear hfz42_3
                     try clear hfz42_4
                     try clear hfz46_0
                     try clear hfz46_1
                     try clear hfz46_2
                     try clear hfz46_3
                     try clear hfz46_4
                     try clear hfz49_0
                     try clear hfz49_1
                     try clear hfz49_2
                     try clear hfz49_3
                     try clear hfz49_4
                     try clear hx158_0
                     try clear hx158_1
                     try clear hx158_2
                     try clear hx158_3
                     try clear hx158_4
                     try clear hx158_5
                     try clear hx158_6
                     try clear hx159_0
                     try clear hx159_1
                     try clear hx159_2
                     try clear hx159_3
                     try clear hx159_4
                     try clear hx159_5
                     try clear hx159_6
                     try clear hx160_0
                     try clear hx160_1
                     try clear hx160_2
                     try clear hx160_3
                     try clear hx160_4
                     try clear hx160_5
                     try clear hx160_6
                     try clear hx161_0
                     try clear hx161_1
                     try clear hx161_2
                     try clear hx161_3
                     try clear hx161_4
                     try clear hx161_5
                     try clear hx161_6
                     try clear hx162_0
                     try clear hx162_1
                     try clear hx162_2
                     try clear hx162_3
                     try clear hx162_4
                     try clear hx162_5
                     try clear hx162_6
                     try clear hx163_0
                     try clear hx163_1
                     try clear hx163_2
                     try clear hx163_3
                     try clear hx163_4
                     try clear hx163_5
                     try clear hx163_6
                     try clear p1
                     try clear p15
                     try clear p158
                     try clear p159
                     try clear p16
                     try clear p160
                     try clear p161
                     try clear p162
                     try clear p163
                     try clear p2
                     try clear p6
                     try clear q1
                     try clear q15
                     try clear q158
                     try clear q159
                     try clear q16
                     try clear q160
                     try clear q161
                     try clear q162
                     try clear q163
                     obtain ⟨x9_4, x158000_4, x158001_4, x158002_4, x158003_4, rfl, HA, HK4, HO_8, HO_173004, BK157, BK172, HB⟩ := hrel
                     cases gk with
                     | zero => exact absurd HA.out (by simp [mullionref04_Tree.l1])
                     | succ k4 =>
                       have H := HA.out
                       clear HA
                       simp only [mullionref04_Tree.l1] at H
                       by_cases c51 : x9_4 < (l0.length : Int)
                       · rw [if_pos c51] at H
                         have c51b0 : decide (x9_4 < (l0.length : Int)) = true := decide_eq_true c51
                         clear c51
                         by_cases c52 : 0 ≤ x9_4
                         · rw [if_pos c52] at H
                           have c52b0 : decide (0 ≤ x9_4) = true := decide_eq_true c52
                           clear c52
                           by_cases c53 : x9_4 < (t178.length : Int)
                           · rw [if_pos c53] at H
                             have c53b0 : decide (x9_4 < (t178.length : Int)) = true := decide_eq_true c53
                             clear c53
                             by_cases c54 : (!(((rd_T45 t178 x9_4).f0) == ((rd_T45 l0 x9_4).f0)) || (!(((rd_T45 t178 x9_4).f1) == ((rd_T45 l0 x9_4).f1)) || (!(((rd_T45 t178 x9_4).f2) == ((rd_T45 l0 x9_4).f2)) || (!(((rd_T45 t178 x9_4).f3) == ((rd_T45 l0 x9_4).f3)) || (!(((rd_T45 t178 x9_4).f4) == ((rd_T45 l0 x9_4).f4)) || (!(((rd_T45 t178 x9_4).f5) == ((rd_T45 l0 x9_4).f5)) || (!(((rd_T45 t178 x9_4).f6) == ((rd_T45 l0 x9_4).f6))))))))) = true
                             · rw [if_pos c54] at H
                               have c54b0 : (!(((rd_T45 t178 x9_4).f0) == ((rd_T45 l0 x9_4).f0)) || (!(((rd_T45 t178 x9_4).f1) == ((rd_T45 l0 x9_4).f1)) || (!(((rd_T45 t178 x9_4).f2) == ((rd_T45 l0 x9_4).f2)) || (!(((rd_T45 t178 x9_4).f3) == ((rd_T45 l0 x9_4).f3)) || (!(((rd_T45 t178 x9_4).f4) == ((rd_T45 l0 x9_4).f4)) || (!(((rd_T45 t178 x9_4).f5) == ((rd_T45 l0 x9_4).f5)) || (!(((rd_T45 t178 x9_4).f6) == ((rd_T45 l0 x9_4).f6))))))))) = true := c54
                               clear c54
                               simp only [Option.some.injEq, Prod.mk.injEq] at H
                               obtain ⟨rfl, rfl, rfl, rfl, rfl, rfl⟩ := H
                               obtain ⟨Ao55, co55, eo55⟩ := Kd.R_slice HO_8.out
                               subst eo55
                               have p181 : 0 ≤ (x9_4 : Int) := of_decide_eq_true (by first | (with_reducible assumption) | assumption)
                               have q181 : x9_4 < (t178.length : Int) := of_decide_eq_true (by first | (with_reducible assumption) | assumption)
                               obtain ⟨ad181, e181, hx181_0, hx181_1, hx181_2, hx181_3, hx181_4, hx181_5, hx181_6⟩ := at_T45 (Kd.R_reads' HO_8.out).2.2 x9_4 p181 q181
                               cases e181
                               replace p181 := eq_true p181
                               replace q181 := eq_true q181
                               have p182 : 0 ≤ (x9_4 : Int) := of_decide_eq_true (by first | (with_reducible assumption) | assumption)
                               have q182 : x9_4 < (l0.length : Int) := of_decide_eq_true (by first | (with_reducible assumption) | assumption)
                               obtain ⟨ad182, e182, hx182_0, hx182_1, hx182_2, hx182_3, hx182_4, hx182_5, hx182_6⟩ := at_T45 HR0.out x9_4 p182 q182
                               cases e182
                               replace hx182_0 := (HB.out.cell (World.block_lt_of_cell? w _ hx182_0)).trans hx182_0
                               replace hx182_1 := (HB.out.cell (World.block_lt_of_cell? w _ hx182_1)).trans hx182_1
                               replace hx182_2 := (HB.out.cell (World.block_lt_of_cell? w _ hx182_2)).trans hx182_2
                               replace hx182_3 := (HB.out.cell (World.block_lt_of_cell? w _ hx182_3)).trans hx182_3
                               replace hx182_4 := (HB.out.cell (World.block_lt_of_cell? w _ hx182_4)).trans hx182_4
                               replace hx182_5 := (HB.out.cell (World.block_lt_of_cell? w _ hx182_5)).trans hx182_5
                               replace hx182_6 := (HB.out.cell (World.block_lt_of_cell? w _ hx182_6)).trans hx182_6
                               replace p182 := eq_true p182
                               replace q182 := eq_true q182
                               have hnb56 := NB157_172.out
                               have hnc56 := NB172_157.out
                               have hcz57_0 : wr.cell? ⟨gb157, 0, none⟩ = some (.int .i64 x158000_4) := (blk_cell BK157.out 0).trans rfl
                               have hcz57_1 : wr.cell? ⟨gb157, 1, none⟩ = some (.int .i64 x158001_4) := (blk_cell BK157.out 1).trans rfl
                               have hcz57_2 : wr.cell? ⟨gb157, 2, none⟩ = some (.int .i64 x158002_4) := (blk_cell BK157.out 2).trans rfl
                               have hcz57_3 : wr.cell? ⟨gb157, 3, none⟩ = some (.int .i64 x158003_4) := (blk_cell BK157.out 3).trans rfl
                               have hcz57_4 : wr.cell? ⟨gb157, 4, none⟩ = some (.slice none 0 0) := (blk_cell BK157.out 4).trans rfl
                               have hfz57_0 := blk_frozen BK157.out 0
                               have hfz57_1 := blk_frozen BK157.out 1
                               have hfz57_2 := blk_frozen BK157.out 2
                               have hfz57_3 := blk_frozen BK157.out 3
                               have hfz57_4 := blk_frozen BK157.out 4
                               go_wp2
                               repeat (go_quiet (fail); try go_wp2)
                               refine bodyPost_ret (results_ct rfl _ _ gb157 72 #[.int .i64 0, .int .i64 0, .int .i64 0, .int .i64 0, .slice none 0 0] (0, 0) _ rfl (by (with_reducible repeat (first | refine blk_drewN ?_ _ | refine blk_drew ?_ | refine blk_alloc ?_ _)); refine blk_put (cs := #[.int .i64 0, .int .i64 0, .int .i64 0, .int .i64 0, .slice none 0 0]) ?_ 4 _ rfl; (with_reducible repeat (first | refine blk_drewN ?_ _ | refine blk_drew ?_ | refine blk_alloc ?_ _)); refine blk_put (cs := #[.int .i64 0, .int .i64 0, .int .i64 0, .int .i64 x158003_4, .slice none 0 0]) ?_ 3 _ rfl; (with_reducible repeat (first | refine blk_drewN ?_ _ | refine blk_drew ?_ | refine blk_alloc ?_ _)); refine blk_put (cs := #[.int .i64 0, .int .i64 0, .int .i64 x158002_4, .int .i64 x158003_4, .slice none 0 0]) ?_ 2 _ rfl; (with_reducible repeat (first | refine blk_drewN ?_ _ | refine blk_drew ?_ | refine blk_alloc ?_ _)); refine blk_put (cs := #[.int .i64 0, .int .i64 x158001_4, .int .i64 x158002_4, .int .i64 x158003_4, .slice none 0 0]) ?_ 1 _ rfl; (with_reducible repeat (first | refine blk_drewN ?_ _ | refine blk_drew ?_ | refine blk_alloc ?_ _)); refine blk_put (cs := #[.int .i64 x158000_4, .int .i64 x158001_4, .int .i64 x158002_4, .int .i64 x158003_4, .slice none 0 0]) ?_ 0 _ rfl; (with_reducible repeat (first | refine blk_drewN ?_ _ | refine blk_drew ?_ | refine blk_alloc ?_ _)); exact BK157.out) Tryd.underlying72 rfl (by kernel_rfl)) rfl ?_
                               exact ⟨_, by first | rfl | (simp [errW_none, errW_some] <;> rfl) | (simp [*, errW_none, errW_some] <;> rfl), by first | exact Kd.R_nil _ _ _ _ _ | exact Kd.N_nil _ _ _ _ _ | exact Kd.V_nil _ _ _ _ _ | exact Kd.Q_nil _ _ _ _ _ | exact Kd.S_nil _ _ _ _ _, by repeat (first | (with_reducible first | exact HB.out | apply below_alloc | apply pw_below_drewN | apply below_drew1 | refine below_set ?_ GE157.out | refine below_set ?_ GE172.out) | exact HB.out)⟩
                             · rw [if_neg c54] at H
                               have c54b0 : (!(((rd_T45 t178 x9_4).f0) == ((rd_T45 l0 x9_4).f0)) || (!(((rd_T45 t178 x9_4).f1) == ((rd_T45 l0 x9_4).f1)) || (!(((rd_T45 t178 x9_4).f2) == ((rd_T45 l0 x9_4).f2)) || (!(((rd_T45 t178 x9_4).f3) == ((rd_T45 l0 x9_4).f3)) || (!(((rd_T45 t178 x9_4).f4) == ((rd_T45 l0 x9_4).f4)) || (!(((rd_T45 t178 x9_4).f5) == ((rd_T45 l0 x9_4).f5)) || (!(((rd_T45 t178 x9_4).f6) == ((rd_T45 l0 x9_4).f6))))))))) = false := by simpa using c54
                               clear c54
                               have H' := Aside0.mk H
                               clear H
                               obtain ⟨Ao58, co58, eo58⟩ := Kd.R_slice HO_8.out
                               subst eo58
                               have p181 : 0 ≤ (x9_4 : Int) := of_decide_eq_true (by first | (with_reducible assumption) | assumption)
                               have q181 : x9_4 < (t178.length : Int) := of_decide_eq_true (by first | (with_reducible assumption) | assumption)
                               obtain ⟨ad181, e181, hx181_0, hx181_1, hx181_2, hx181_3, hx181_4, hx181_5, hx181_6⟩ := at_T45 (Kd.R_reads' HO_8.out).2.2 x9_4 p181 q181
                               cases e181
                               replace p181 := eq_true p181
                               replace q181 := eq_true q181
                               have p182 : 0 ≤ (x9_4 : Int) := of_decide_eq_true (by first | (with_reducible assumption) | assumption)
                               have q182 : x9_4 < (l0.length : Int) := of_decide_eq_true (by first | (with_reducible assumption) | assumption)
                               obtain ⟨ad182, e182, hx182_0, hx182_1, hx182_2, hx182_3, hx182_4, hx182_5, hx182_6⟩ := at_T45 HR0.out x9_4 p182 q182
                               cases e182
                               replace hx182_0 := (HB.out.cell (World.block_lt_of_cell? w _ hx182_0)).trans hx182_0
                               replace hx182_1 := (HB.out.cell (World.block_lt_of_cell? w _ hx182_1)).trans hx182_1
                               replace hx182_2 := (HB.out.cell (World.block_lt_of_cell? w _ hx182_2)).trans hx182_2
                               replace hx182_3 := (HB.out.cell (World.block_lt_of_cell? w _ hx182_3)).trans hx182_3
                               replace hx182_4 := (HB.out.cell (World.block_lt_of_cell? w _ hx182_4)).trans hx182_4
                               replace hx182_5 := (HB.out.cell (World.block_lt_of_cell? w _ hx182_5)).trans hx182_5
                               replace hx182_6 := (HB.out.cell (World.block_lt_of_cell? w _ hx182_6)).trans hx182_6
                               replace p182 := eq_true p182
                               replace q182 := eq_true q182
                               go_wp2
                               repeat (go_quiet (fail); try go_wp2)
                               go_roundg k4
                               case measure => have := HJ1.out; have := HK2.out; have := HJ21.out; have := HK4.out; omega
                               case rel => exact ⟨(wrap64 (x9_4 + 1)), (x158000_4), (x158001_4), (x158002_4), (x158003_4), (by first | rfl | (simp; done) | (simp [*]; done)), H', ⟨by have := HJ1.out; have := HK2.out; have := HJ21.out; have := HK4.out; omega⟩, ⟨by (with_reducible repeat (first | apply Kd.R_alloc | apply Kd.R_drewN | apply Kd.R_drew)); exact HO_8.out⟩, ⟨by (with_reducible repeat (first | apply Kd.R_alloc | apply Kd.R_drewN | apply Kd.R_drew)); exact HO_173004.out⟩, ⟨by (with_reducible repeat (first | refine blk_drewN ?_ _ | refine blk_drew ?_ | refine blk_alloc ?_ _)); exact BK157.out⟩, ⟨by (with_reducible repeat (first | refine blk_drewN ?_ _ | refine blk_drew ?_ | refine blk_alloc ?_ _)); exact BK172.out⟩, ⟨by repeat (first | (with_reducible first | exact HB.out | apply below_alloc | apply pw_below_drewN | apply below_drew1 | refine below_set ?_ GE157.out | refine below_set ?_ GE172.out) | exact HB.out)⟩⟩
                           · rw [if_neg c53] at H
                             exact absurd H (by simp)
                         · rw [if_neg c52] at H
                           exact absurd H (by simp)
                       · rw [if_neg c51] at H
                         have c51b0 : decide (x9_4 < (l0.length : Int)) = false := decide_eq_false c51
                         clear c51
                         simp only [Option.some.injEq, Prod.mk.injEq] at H
                         obtain ⟨rfl, rfl, rfl, rfl, rfl, rfl⟩ := H
                         have hnb59 := NB172_157.out
                         have hnc59 := NB157_172.out
                         have hcz60_0 : wr.cell? ⟨gb172, 0, none⟩ = some (.int .i64 t164) := (blk_cell BK172.out 0).trans rfl
                         have hcz60_1 : wr.cell? ⟨gb172, 1, none⟩ = some (.int .i64 t165) := (blk_cell BK172.out 1).trans rfl
                         have hcz60_2 : wr.cell? ⟨gb172, 2, none⟩ = some (.int .i64 t166) := (blk_cell BK172.out 2).trans rfl
                         have hcz60_3 : wr.cell? ⟨gb172, 3, none⟩ = some (.int .i64 t167) := (blk_cell BK172.out 3).trans rfl
                         have hcz60_4 : wr.cell? ⟨gb172, 4, none⟩ = some (.slice Ao27 t168.length co27) := (blk_cell BK172.out 4).trans rfl
                         have hfz60_0 := blk_frozen BK172.out 0
                         have hfz60_1 := blk_frozen BK172.out 1
                         have hfz60_2 := blk_frozen BK172.out 2
                         have hfz60_3 := blk_frozen BK172.out 3
                         have hfz60_4 := blk_frozen BK172.out 4
                         have hcz61_0 : wr.cell? ⟨gb157, 0, none⟩ = some (.int .i64 x158000_4) := (blk_cell BK157.out 0).trans rfl
                         have hcz61_1 : wr.cell? ⟨gb157, 1, none⟩ = some (.int .i64 x158001_4) := (blk_cell BK157.out 1).trans rfl
                         have hcz61_2 : wr.cell? ⟨gb157, 2, none⟩ = some (.int .i64 x158002_4) := (blk_cell BK157.out 2).trans rfl
                         have hcz61_3 : wr.cell? ⟨gb157, 3, none⟩ = some (.int .i64 x158003_4) := (blk_cell BK157.out 3).trans rfl
                         have hcz61_4 : wr.cell? ⟨gb157, 4, none⟩ = some (.slice none 0 0) := (blk_cell BK157.out 4).trans rfl
                         have hfz61_0 := blk_frozen BK157.out 0
                         have hfz61_1 := blk_frozen BK157.out 1
                         have hfz61_2 := blk_frozen BK157.out 2
                         have hfz61_3 := blk_frozen BK157.out 3
                         have hfz61_4 := blk_frozen BK157.out 4
                         go_wp2
                         repeat (go_quiet (fail); try go_wp2)
                         refine bodyPost_ret (results_ct rfl _ _ gb157 72 #[.int .i64 t164, .int .i64 t165, .int .i64 t166, .int .i64 t167, .slice Ao27 t168.length co27] (0, 0) _ rfl (by (with_reducible repeat (first | refine blk_drewN ?_ _ | refine blk_drew ?_ | refine blk_alloc ?_ _)); refine blk_put (cs := #[.int .i64 t164, .int .i64 t165, .int .i64 t166, .int .i64 t167, .slice none 0 0]) ?_ 4 _ rfl; (with_reducible repeat (first | refine blk_drewN ?_ _ | refine blk_drew ?_ | refine blk_alloc ?_ _)); refine blk_put (cs := #[.int .i64 t164, .int .i64 t165, .int .i64 t166, .int .i64 x158003_4, .slice none 0 0]) ?_ 3 _ rfl; (with_reducible repeat (first | refine blk_drewN ?_ _ | refine blk_drew ?_ | refine blk_alloc ?_ _)); refine blk_put (cs := #[.int .i64 t164, .int .i64 t165, .int .i64 x158002_4, .int .i64 x158003_4, .slice none 0 0]) ?_ 2 _ rfl; (with_reducible repeat (first | refine blk_drewN ?_ _ | refine blk_drew ?_ | refine blk_alloc ?_ _)); refine blk_put (cs := #[.int .i64 t164, .int .i64 x158001_4, .int .i64 x158002_4, .int .i64 x158003_4, .slice none 0 0]) ?_ 1 _ rfl; (with_reducible repeat (first | refine blk_drewN ?_ _ | refine blk_drew ?_ | refine blk_alloc ?_ _)); refine blk_put (cs := #[.int .i64 x158000_4, .int .i64 x158001_4, .int .i64 x158002_4, .int .i64 x158003_4, .slice none 0 0]) ?_ 0 _ rfl; (with_reducible repeat (first | refine blk_drewN ?_ _ | refine blk_drew ?_ | refine blk_alloc ?_ _)); exact BK157.out) Tryd.underlying72 rfl (by kernel_rfl)) rfl ?_
                         (try replace HO_173004 := Aside0.mk (Kd.R_drewN HO_173004.out nq))
                         exact ⟨_, by first | rfl | (simp [errW_none, errW_some] <;> rfl) | (simp [*, errW_none, errW_some] <;> rfl), by (with_reducible repeat (first | apply Kd.R_alloc | apply Kd.R_drewN | apply Kd.R_drew)); exact Kd.R_mono (Kd.R_far (p := ⟨gb157, 4, none⟩) (Kd.R_far (p := ⟨gb157, 3, none⟩) (Kd.R_far (p := ⟨gb157, 2, none⟩) (Kd.R_far (p := ⟨gb157, 1, none⟩) (Kd.R_far (p := ⟨gb157, 0, none⟩) (Kd.R_mono HO_173004.out (fun k_ hk => (⟨hk, hk.1⟩ : _ ∧ k_ ≠ gb157))) (fun _ hk => hk.2) (.int .i64 t164)) (fun _ hk => hk.2) (.int .i64 t165)) (fun _ hk => hk.2) (.int .i64 t166)) (fun _ hk => hk.2) (.int .i64 t167)) (fun _ hk => hk.2) (.slice Ao27 t168.length co27)) (fun _ hk => trivial), by repeat (first | (with_reducible first | exact HB.out | apply below_alloc | apply pw_below_drewN | apply below_drew1 | refine below_set ?_ GE157.out | refine below_set ?_ GE172.out) | exact HB.out)⟩
end Go.Proofs.YtmpnkckaohfflaaDoor.L
end
section
namespace Go.Proofs.YtmpnkckaohfflaaDoor.L
open Go.Proofs.YtmpnkckaohfflaaDoor.K Go.RowKit Go.Proofs.YtmpnkckaohfflaaDoorW.PrintWords Go.Proofs.YtmpnkckaohfflaaDoorW.PrintLast Go.Proofs.YtmpnkckaohfflaaDoorW.PrintMore
attribute [local go_sem] max2_int min2_int max_two min_two max_three min_three max_four min_four
set_option linter.unusedVariables false
set_option linter.unusedSimpArgs false
def mullionref04_Check.f (k : Nat) (l0 : List (S45)) : Option (Int) := (mullionref04_Tree.f k l0).bind fun bt183 => (if bt183.2.2.2.2.2 = true then (some 0) else (some 40))
theorem mullionref04_Check.mono : ∀ a0 k, LeO (mullionref04_Check.f k a0) (mullionref04_Check.f (k + 1) a0) := by
 intro a0 k
 unfold mullionref04_Check.f
 repeat' first
     | (with_reducible exact mullionref04_Tree.mono _ _)
     | (with_reducible exact LeO.refl _)
     | (with_reducible exact LeO.none _)
     | (with_reducible refine LeO.ite ?_ ?_)
     | (with_reducible refine LeO.bind ?_ (fun _ => ?_))
     | exact mullionref04_Tree.mono _ _
     | exact LeO.none _
     | refine LeO.ite ?_ ?_
     | refine LeO.bind ?_ (fun _ => ?_)
set_option maxHeartbeats 8000000 in
set_option maxRecDepth 100000 in
theorem mullionref04_Check.calls (k : Nat) (A0 : Option Addr) (c0 : Nat) (l0 : List (S45)) (r : Int) (w : World) (hr0 : Kd.C k45 w A0 l0.length l0) (hc0 : l0.length ≤ c0) (h : mullionref04_Check.f k l0 = some r) :
   Calls Tryd.prog 21 #[.slice A0 l0.length c0] w fun e w' => e = .returned (.int .i64 r) ∧ Below w.heap.size w w' := by
 have hu72 := Tryd.underlying72
 have HR0 := Aside0.mk hr0
 have HC0 := Aside0.mk hc0
 clear hr0 hc0
 have HB := Aside0.mk (Below.refl w.heap.size w)
 have H : ((mullionref04_Tree.f k l0).bind fun bt183 => (if bt183.2.2.2.2.2 = true then (some 0) else (some 40))) = some r := h
 clear h
 replace H := Option.bind_eq_some_iff.mp H
 obtain ⟨⟨t183, t184, t185, t186, t187, t190⟩, A20, H⟩ := H
 replace H : (if t190 = true then (some 0) else (some 40)) = some r := H
 have A2 := Aside0.mk A20
 clear A20
 by_cases c3 : t190 = true
 · subst c3
   have H1 : (some 0) = some r := by rw [if_pos rfl] at H; exact H
   clear H
   have H := H1
   clear H1
   obtain rfl := Option.some.inj H
   go_enter Tryd.func21, Tryd.ntmps21
   go_wp2_with (first | ((with_reducible refine gate_callee (f := 36) rfl ?_); refine goesL_ (some 7) rfl rfl Tryd.func36 (by kernel_rfl) rfl #[.slice A0 l0.length c0] rfl (by (try simp only [List.map_toArray, List.map_cons, List.map_nil]); first | done | rfl | (simp only [List.length_drop, List.length_take]; rfl)) ?_; (with_reducible refine (mullionref04_Tree.calls k _ _ l0 t183 t184 t185 t186 t187 true _ ?side1 ?side2 A2.out).mono ?_); (case side1 => repeat (first | exact HR0.out | (with_reducible refine Kd.C_alloc ?_ _) | (with_reducible refine Kd.C_drewN ?_ _) | (with_reducible refine Kd.C_drew ?_))); (case side2 => exact HC0.out); rintro e w4 ⟨v188, rfl, ho0, hb⟩; refine ⟨_, rfl, ?_⟩; have n0_ := Aside0.mk (Kd.R_lower ho0 (below_size (by repeat (first | (with_reducible first | exact HB.out | apply below_alloc | apply pw_below_drewN | apply below_drew1) | exact HB.out)))); have n1_ := Aside0.mk (below_step (by repeat (first | (with_reducible first | exact HB.out | apply below_alloc | apply pw_below_drewN | apply below_drew1) | exact HB.out)) hb); clear HB; have HO189 := n0_; have HB := n1_; clear n0_ n1_; (try clear hb); (try clear hb2); (try clear hk); (try clear hi); (try clear ho0)) | ((with_reducible refine gate_dst (N := 3) rfl ?_); refine box_event ?hg (N := 3) ?hd (cs := #[.int .i64 0, .int .i64 0, .int .i64 0, .int .i64 0, .slice none 0 0]) (t := 72) ?hr ?_; (case hd => rfl); (case hg => rfl); (case hr => first | (go_simp; done) | (go_simp; rfl)); intro gb191 hg w5 hbox hb; have n0_ := Aside0.mk (Kd.R_below (Kd.R_elderB (by (with_reducible repeat (first | apply Kd.R_alloc | apply Kd.R_drewN | apply Kd.R_drew)); exact HO189.out) gb191 (Nat.le_of_eq hg.symm)) hb); have n1_ := Aside0.mk (below_step (by repeat (first | (with_reducible first | exact HB.out | apply below_alloc | apply pw_below_drewN | apply below_drew1) | exact HB.out)) hb); have n2_ := Aside0.mk (hbox); have n3_ := Aside0.mk ((by rw [hg]; exact (below_size (by repeat (first | (with_reducible first | exact HB.out | apply below_alloc | apply pw_below_drewN | apply below_drew1) | exact HB.out))) : w.heap.size ≤ gb191)); have n4_ := Aside0.mk ((by rw [hg]; exact (below_size (by repeat (first | (with_reducible first | exact HB.out | apply below_alloc | apply pw_below_drewN | apply below_drew1) | exact HB.out))) : w.heap.size ≤ gb191)); clear HO189; clear HB; have HO189 := n0_; have HB := n1_; have BK191 := n2_; have GW191 := n3_; have GE191 := n4_; clear n0_ n1_ n2_ n3_ n4_; clear hb hbox hg; have hcz6_0 : w5.cell? ⟨gb191, 0, none⟩ = some (.int .i64 0) := (blk_cell BK191.out 0).trans rfl; have hcz6_1 : w5.cell? ⟨gb191, 1, none⟩ = some (.int .i64 0) := (blk_cell BK191.out 1).trans rfl; have hcz6_2 : w5.cell? ⟨gb191, 2, none⟩ = some (.int .i64 0) := (blk_cell BK191.out 2).trans rfl; have hcz6_3 : w5.cell? ⟨gb191, 3, none⟩ = some (.int .i64 0) := (blk_cell BK191.out 3).trans rfl; have hcz6_4 : w5.cell? ⟨gb191, 4, none⟩ = some (.slice none 0 0) := (blk_cell BK191.out 4).trans rfl; have hfz6_0 := blk_frozen BK191.out 0; have hfz6_1 := blk_frozen BK191.out 1; have hfz6_2 := blk_frozen BK191.out 2; have hfz6_3 := blk_frozen BK191.out 3; have hfz6_4 := blk_frozen BK191.out 4; obtain ⟨Ao7, co7, eo7⟩ := Kd.R_slice HO189.out; subst eo7))
   go_ret
   exact ⟨by first | rfl | (simp [errW_none, errW_some] <;> rfl) | (simp [*, errW_none, errW_some] <;> rfl), by repeat (first | (with_reducible first | exact HB.out | apply below_alloc | apply pw_below_drewN | apply below_drew1 | refine below_set ?_ GE191.out) | exact HB.out)⟩
 · replace c3 := Bool.eq_false_iff.mpr c3
   subst c3
   have H1 : (some 40) = some r := by rw [if_neg (show ¬ (false = true) by decide)] at H; exact H
   clear H
   have H := H1
   clear H1
   obtain rfl := Option.some.inj H
   go_enter Tryd.func21, Tryd.ntmps21
   go_wp2_with (first | ((with_reducible refine gate_callee (f := 36) rfl ?_); refine goesL_ (some 7) rfl rfl Tryd.func36 (by kernel_rfl) rfl #[.slice A0 l0.length c0] rfl (by (try simp only [List.map_toArray, List.map_cons, List.map_nil]); first | done | rfl | (simp only [List.length_drop, List.length_take]; rfl)) ?_; (with_reducible refine (mullionref04_Tree.calls k _ _ l0 t183 t184 t185 t186 t187 false _ ?side1 ?side2 A2.out).mono ?_); (case side1 => repeat (first | exact HR0.out | (with_reducible refine Kd.C_alloc ?_ _) | (with_reducible refine Kd.C_drewN ?_ _) | (with_reducible refine Kd.C_drew ?_))); (case side2 => exact HC0.out); rintro e w8 ⟨v188, rfl, ho0, hb⟩; refine ⟨_, rfl, ?_⟩; have n0_ := Aside0.mk (Kd.R_lower ho0 (below_size (by repeat (first | (with_reducible first | exact HB.out | apply below_alloc | apply pw_below_drewN | apply below_drew1) | exact HB.out)))); have n1_ := Aside0.mk (below_step (by repeat (first | (with_reducible first | exact HB.out | apply below_alloc | apply pw_below_drewN | apply below_drew1) | exact HB.out)) hb); clear HB; have HO189 := n0_; have HB := n1_; clear n0_ n1_; (try clear hb); (try clear hb2); (try clear hk); (try clear hi); (try clear ho0)) | ((with_reducible refine gate_dst (N := 3) rfl ?_); refine box_event ?hg (N := 3) ?hd (cs := #[.int .i64 0, .int .i64 0, .int .i64 0, .int .i64 0, .slice none 0 0]) (t := 72) ?hr ?_; (case hd => rfl); (case hg => rfl); (case hr => first | (go_simp; done) | (go_simp; rfl)); intro gb191 hg w9 hbox hb; have n0_ := Aside0.mk (Kd.R_below (Kd.R_elderB (by (with_reducible repeat (first | apply Kd.R_alloc | apply Kd.R_drewN | apply Kd.R_drew)); exact HO189.out) gb191 (Nat.le_of_eq hg.symm)) hb); have n1_ := Aside0.mk (below_step (by repeat (first | (with_reducible first | exact HB.out | apply below_alloc | apply pw_below_drewN | apply below_drew1) | exact HB.out)) hb); have n2_ := Aside0.mk (hbox); have n3_ := Aside0.mk ((by rw [hg]; exact (below_size (by repeat (first | (with_reducible first | exact HB.out | apply below_alloc | apply pw_below_drewN | apply below_drew1) | exact HB.out))) : w.heap.size ≤ gb191)); have n4_ := Aside0.mk ((by rw [hg]; exact (below_size (by repeat (first | (with_reducible first | exact HB.out | apply below_alloc | apply pw_below_drewN | apply below_drew1) | exact HB.out))) : w.heap.size ≤ gb191)); clear HO189; clear HB; have HO189 := n0_; have HB := n1_; have BK191 := n2_; have GW191 := n3_; have GE191 := n4_; clear n0_ n1_ n2_ n3_ n4_; clear hb hbox hg; have hcz10_0 : w9.cell? ⟨gb191, 0, none⟩ = some (.int .i64 0) := (blk_cell BK191.out 0).trans rfl; have hcz10_1 : w9.cell? ⟨gb191, 1, none⟩ = some (.int .i64 0) := (blk_cell BK191.out 1).trans rfl; have hcz10_2 : w9.cell? ⟨gb191, 2, none⟩ = some (.int .i64 0) := (blk_cell BK191.out 2).trans rfl; have hcz10_3 : w9.cell? ⟨gb191, 3, none⟩ = some (.int .i64 0) := (blk_cell BK191.out 3).trans rfl; have hcz10_4 : w9.cell? ⟨gb191, 4, none⟩ = some (.slice none 0 0) := (blk_cell BK191.out 4).trans rfl; have hfz10_0 := blk_frozen BK191.out 0; have hfz10_1 := blk_frozen BK191.out 1; have hfz10_2 := blk_frozen BK191.out 2; have hfz10_3 := blk_frozen BK191.out 3; have hfz10_4 := blk_frozen BK191.out 4; obtain ⟨Ao11, co11, eo11⟩ := Kd.R_slice HO189.out; subst eo11))
   go_ret
   exact ⟨by first | rfl | (simp [errW_none, errW_some] <;> rfl) | (simp [*, errW_none, errW_some] <;> rfl), by repeat (first | (with_reducible first | exact HB.out | apply below_alloc | apply pw_below_drewN | apply below_drew1 | refine below_set ?_ GE191.out) | exact HB.out)⟩
mutual
def mullionref01_PutNumber.j0 : Nat → Int → Bool → Option (ByteArray)
 | 0, _, _ => none
 | k + 1, x0, x8 => if x8 = true then (some (⟨#[]⟩ : ByteArray)) else (if x0 < 10 then (some (strOfNums (([(wrap64 (48 + x0)) % 256] : List Int)))) else ((mullionref01_PutNumber.f k (wrap64 (Int.tdiv x0 10))).bind fun t195 => ((mullionref01_PutNumber.f k (Int.tmod x0 10)).bind fun t196 => (if t195.size + t196.size ≤ 9223372036854775807 then (some (t195 ++ t196)) else (none)))))
def mullionref01_PutNumber.f : Nat → Int → Option (ByteArray)
 | 0, _ => none
 | k + 1, a0 => if a0 < 0 then (mullionref01_PutNumber.j0 k a0 true) else (mullionref01_PutNumber.j0 k a0 (decide (a0 > 4611686018427387904)))
end
theorem mullionref01_PutNumber.mono_l : ∀ k, (∀ y0, LeO (mullionref01_PutNumber.f k y0) (mullionref01_PutNumber.f (k + 1) y0)) ∧ (∀ y0 y1, LeO (mullionref01_PutNumber.j0 k y0 y1) (mullionref01_PutNumber.j0 (k + 1) y0 y1))
 | 0 => ⟨fun _ r h => by simp [mullionref01_PutNumber.f] at h, fun _ _ r h => by simp [mullionref01_PutNumber.j0] at h⟩
 | k + 1 => by
   obtain ⟨ih0, ih1⟩ := mullionref01_PutNumber.mono_l k
   refine ⟨?_, ?_⟩
   · intro y0
     unfold mullionref01_PutNumber.f
     repeat' first
     | (with_reducible exact ih0 _)
     | (with_reducible exact ih1 _ _)
     | (with_reducible exact LeO.refl _)
     | (with_reducible exact LeO.none _)
     | (with_reducible refine LeO.ite ?_ ?_)
     | (with_reducible refine LeO.bind ?_ (fun _ => ?_))
     | exact ih0 _
     | exact ih1 _ _
     | exact LeO.none _
     | refine LeO.ite ?_ ?_
     | refine LeO.bind ?_ (fun _ => ?_)
   · intro y0 y1
     unfold mullionref01_PutNumber.j0
     repeat' first
     | (with_reducible exact ih0 _)
     | (with_reducible exact ih1 _ _)
     | (with_reducible exact LeO.refl _)
     | (with_reducible exact LeO.none _)
     | (with_reducible refine LeO.ite ?_ ?_)
     | (with_reducible refine LeO.bind ?_ (fun _ => ?_))
     | exact ih0 _
     | exact ih1 _ _
     | exact LeO.none _
     | refine LeO.ite ?_ ?_
     | refine LeO.bind ?_ (fun _ => ?_)
theorem mullionref01_PutNumber.mono : ∀ a0 k, LeO (mullionref01_PutNumber.f k a0) (mullionref01_PutNumber.f (k + 1) a0) := by
 intro a0 k
 obtain ⟨ih0, ih1⟩ := mullionref01_PutNumber.mono_l k
 exact ih0 a0
set_option maxHeartbeats 8000000 in
set_option maxRecDepth 100000 in
theorem mullionref01_PutNumber.calls (k : Nat) : ∀ (a0 : Int) (r : ByteArray) (w : World) (h : mullionref01_PutNumber.f k a0 = some r),
   Calls Tryd.prog 40 #[.int .i64 a0] w fun e w' => e = .returned (.string r) ∧ Below w.heap.size w w' := by
 induction k using Nat.strongRecOn with
 | _ k ih =>
 intro a0 r w h
 cases k with
 | zero => exact absurd h (by simp [mullionref01_PutNumber.f])
 | succ k =>
 simp only [mullionref01_PutNumber.f] at h
 have HB := Aside0.mk (Below.refl w.heap.size w)
 have H : (if a0 < 0 then (mullionref01_PutNumber.j0 k a0 true) else (mullionref01_PutNumber.j0 k a0 (decide (a0 > 4611686018427387904)))) = some r := h
 clear h
 have HC2 := Aside0.mk H
 clear H
 go_enter Tryd.func40, Tryd.ntmps40
 go_upto_region 1 with (fail)
 go_cut [8] (fun v8 wc => ∃ (kq : Nat) (x8_1 : Bool), v8 = .bool x8_1 ∧ Aside0 (mullionref01_PutNumber.j0 kq a0 x8_1 = some r) ∧ Aside0 (kq ≤ k) ∧ Aside0 (Below w.heap.size w wc))
 case first =>
   have H := HC2.out
   clear HC2
   by_cases c3 : a0 < 0
   · rw [if_pos c3] at H
     have c3b0 : decide (a0 < 0) = true := decide_eq_true c3
     clear c3
     (first | rw [c3b0] | (simp only [i64_w, i32_w]; rw [c3b0]) | skip)
     have H' := Aside0.mk H
     clear H
     go_wp2
     go_meet
     case rel => exact ⟨_, (true), (by first | rfl | (simp; done) | (simp [*]; done)), H', ⟨by first | omega | exact Nat.le_refl _⟩, ⟨by repeat (first | (with_reducible first | exact HB.out | apply below_alloc | apply pw_below_drewN | apply below_drew1) | exact HB.out)⟩⟩
   · rw [if_neg c3] at H
     have c3b0 : decide (a0 < 0) = false := decide_eq_false c3
     clear c3
     (first | rw [c3b0] | (simp only [i64_w, i32_w]; rw [c3b0]) | skip)
     have H' := Aside0.mk H
     clear H
     go_wp2
     go_meet
     case rel => exact ⟨_, (decide (a0 > 4611686018427387904)), (by first | rfl | (simp; done) | (simp [*]; done)), H', ⟨by first | omega | exact Nat.le_refl _⟩, ⟨by repeat (first | (with_reducible first | exact HB.out | apply below_alloc | apply pw_below_drewN | apply below_drew1) | exact HB.out)⟩⟩
 case rest =>
   clear HC2
   try clear p2
   try clear c3
   try clear c3b0
   obtain ⟨kq, x8_1, rfl, HA, HJ1, HB⟩ := hcut
   cases kq with
   | zero => exact absurd HA.out (by simp [mullionref01_PutNumber.j0])
   | succ kj1 =>
     have H := HA.out
     clear HA
     simp only [mullionref01_PutNumber.j0] at H
     by_cases c4 : x8_1 = true
     · subst c4
       have H1 : (some (⟨#[]⟩ : ByteArray)) = some r := by rw [if_pos rfl] at H; exact H
       clear H
       have H := H1
       clear H1
       obtain rfl := Option.some.inj H
       go_wp2
       go_ret
       exact ⟨by first | rfl | (simp [errW_none, errW_some] <;> rfl) | (simp [*, errW_none, errW_some] <;> rfl), by repeat (first | (with_reducible first | exact HB.out | apply below_alloc | apply pw_below_drewN | apply below_drew1) | exact HB.out)⟩
     · replace c4 := Bool.eq_false_iff.mpr c4
       subst c4
       have H1 : (if a0 < 10 then (some (strOfNums (([(wrap64 (48 + a0)) % 256] : List Int)))) else ((mullionref01_PutNumber.f kj1 (wrap64 (Int.tdiv a0 10))).bind fun t195 => ((mullionref01_PutNumber.f kj1 (Int.tmod a0 10)).bind fun t196 => (if t195.size + t196.size ≤ 9223372036854775807 then (some (t195 ++ t196)) else (none))))) = some r := by rw [if_neg (show ¬ (false = true) by decide)] at H; exact H
       clear H
       have H := H1
       clear H1
       by_cases c5 : a0 < 10
       · rw [if_pos c5] at H
         have c5b0 : decide (a0 < 10) = true := decide_eq_true c5
         clear c5
         obtain ⟨y192, hy192⟩ : ∃ y_ : List Int, y_ = (([(wrap64 (48 + a0)) % 256] : List Int)) := ⟨_, rfl⟩
         replace H : (some (strOfNums y192)) = some r := by first | (rw [hy192]; with_reducible exact H) | (have H2_ := (Option.bind_some _ _).symm.trans H; rw [hy192]; with_reducible exact H2_) | (have H2_ := (Option.bind_some _ _).symm.trans H; with_reducible exact H2_) | with_reducible exact H | (rw [hy192]; exact H) | exact H
         have Ny192 := Aside0.mk hy192
         clear hy192
         obtain rfl := Option.some.inj H
         go_wp2_with (first | ((with_reducible refine gate_dst (N := 14) rfl ?_); refine Kd.R_lit (Kd.int .u8) _ 5 ?hg (N := 14) ?hd (xs := ([(wrap64 (48 + a0)) % 256] : List Int)) (inner := [.int .u8 ((wrap64 (48 + a0)) % 256)]) (ok := fun _ => True) (okp := fun _ => True) ?hr ?hp (fun _ hk => hk) trivial (Below.refl _ _) (Nat.le_refl _) (by simp) ?_; (case hd => rfl); (case hg => rfl); (case hr => first | (go_simp; done) | (go_simp; rfl)); (case hp => exact (Reps.one (show Kd.M (Kd.int .u8) _ _ _ ((wrap64 (48 + a0)) % 256) [.int .u8 ((wrap64 (48 + a0)) % 256)] from rfl) (Reps.none _ _))); intro v193 w6 ho7 hb hg_ hnew_; clear hg_ hnew_; (first | rw [← Ny192.out] at ho7 | (simp only [Int.reduceToNat] at ho7; rw [← Ny192.out] at ho7)); have n0_ := Aside0.mk (Kd.R_lower ho7 (below_size (by repeat (first | (with_reducible first | exact HB.out | apply below_alloc | apply pw_below_drewN | apply below_drew1) | exact HB.out)))); have n1_ := Aside0.mk (below_step (by repeat (first | (with_reducible first | exact HB.out | apply below_alloc | apply pw_below_drewN | apply below_drew1) | exact HB.out)) hb); clear HB; have HO194 := n0_; have HB := n1_; clear n0_ n1_; clear hb ho7; have hcv8 := own_string (P := Tryd.prog) Tryd.underlying37 Tryd.underlying5 Tryd.underlying9 (Kd.own_of_R HO194.out)))
         go_ret
         exact ⟨by first | rfl | (simp [errW_none, errW_some] <;> rfl) | (simp [*, errW_none, errW_some] <;> rfl), by repeat (first | (with_reducible first | exact HB.out | apply below_alloc | apply pw_below_drewN | apply below_drew1) | exact HB.out)⟩
       · rw [if_neg c5] at H
         have c5b0 : decide (a0 < 10) = false := decide_eq_false c5
         clear c5
         replace H := Option.bind_eq_some_iff.mp H
         obtain ⟨t195, A90, H⟩ := H
         replace H : ((mullionref01_PutNumber.f kj1 (Int.tmod a0 10)).bind fun t196 => (if t195.size + t196.size ≤ 9223372036854775807 then (some (t195 ++ t196)) else (none))) = some r := H
         have A9 := Aside0.mk A90
         clear A90
         replace H := Option.bind_eq_some_iff.mp H
         obtain ⟨t196, A100, H⟩ := H
         replace H : (if t195.size + t196.size ≤ 9223372036854775807 then (some (t195 ++ t196)) else (none)) = some r := H
         have A10 := Aside0.mk A100
         clear A100
         by_cases c11 : t195.size + t196.size ≤ 9223372036854775807
         · rw [if_pos c11] at H
           have c11b0 := eq_true c11
           have c11b1 : decide (t195.size + t196.size ≤ 9223372036854775807) = true := decide_eq_true c11
           try have c11b2 : (9223372036854775807 < t195.size + t196.size) = False := eq_false (Nat.not_lt.2 c11)
           obtain rfl := Option.some.inj H
           go_wp2_with (first | ((with_reducible refine gate_callee (f := 40) rfl ?_); refine goesL_ (some 18) rfl rfl Tryd.func40 (by kernel_rfl) rfl #[.int .i64 (wrap64 (Int.tdiv a0 10))] rfl (by (try simp only [List.map_toArray, List.map_cons, List.map_nil]); first | done | rfl | (simp only [List.length_drop, List.length_take]; rfl)) ?_; (with_reducible refine (ih kj1 (by have := HJ1.out; omega) (wrap64 (Int.tdiv a0 10)) t195 _ A9.out).mono ?_); rintro e w12 ⟨rfl, hb⟩; refine ⟨_, rfl, ?_⟩; have n0_ := Aside0.mk (below_step (by repeat (first | (with_reducible first | exact HB.out | apply below_alloc | apply pw_below_drewN | apply below_drew1) | exact HB.out)) hb); clear HB; have HB := n0_; clear n0_; (try clear hb); (try clear hb2); (try clear hk); (try clear hi)) | ((with_reducible refine gate_callee (f := 40) rfl ?_); refine goesL_ (some 21) rfl rfl Tryd.func40 (by kernel_rfl) rfl #[.int .i64 (Int.tmod a0 10)] rfl (by (try simp only [List.map_toArray, List.map_cons, List.map_nil]); first | done | rfl | (simp only [List.length_drop, List.length_take]; rfl)) ?_; (with_reducible refine (ih kj1 (by have := HJ1.out; omega) (Int.tmod a0 10) t196 _ A10.out).mono ?_); rintro e w13 ⟨rfl, hb⟩; refine ⟨_, rfl, ?_⟩; have n0_ := Aside0.mk (below_step (by repeat (first | (with_reducible first | exact HB.out | apply below_alloc | apply pw_below_drewN | apply below_drew1) | exact HB.out)) hb); clear HB; have HB := n0_; clear n0_; (try clear hb); (try clear hb2); (try clear hk); (try clear hi)))
           go_ret
           exact ⟨by first | rfl | (simp [errW_none, errW_some] <;> rfl) | (simp [*, errW_none, errW_some] <;> rfl), by repeat (first | (with_reducible first | exact HB.out | apply below_alloc | apply pw_below_drewN | apply below_drew1) | exact HB.out)⟩
         · rw [if_neg c11] at H
           exact absurd H (by simp)
def mullionref05_behind.l0 : Nat → List (S45) → Int → Int → Option (Int)
 | 0, _, _, _ => none
 | k + 1, x0, x1, x5 => if x5 < (x0.length : Int) then (if 0 ≤ x5 then (if 0 ≤ x1 then (if x1 < (x0.length : Int) then (if ((rd_T45 x0 x5).f0) > ((rd_T45 x0 x1).f0) then (mullionref05_behind.l0 k x0 x1 (wrap64 (x5 + 1))) else (some x5)) else (none)) else (none)) else (none)) else (some x5)
def mullionref05_behind.f (k : Nat) (l0 : List (S45)) (a1 : Int) : Option (Int) := mullionref05_behind.l0 k l0 a1 (wrap64 (a1 + 1))
end Go.Proofs.YtmpnkckaohfflaaDoor.L
end
section
namespace Go.Proofs.YtmpnkckaohfflaaDoor.L
open Go.Proofs.YtmpnkckaohfflaaDoor.K Go.RowKit Go.Proofs.YtmpnkckaohfflaaDoorW.PrintWords Go.Proofs.YtmpnkckaohfflaaDoorW.PrintLast Go.Proofs.YtmpnkckaohfflaaDoorW.PrintMore
attribute [local go_sem] max2_int min2_int max_two min_two max_three min_three max_four min_four
set_option linter.unusedVariables false
set_option linter.unusedSimpArgs false
mutual
def mullionref05_body.j0 : Nat → List (S45) → Int → ByteArray → ByteArray → ByteArray → Option (ByteArray)
 | 0, _, _, _, _, _ => none
 | k + 1, x0, x1, x6, x7, x8 => if x6.size + x7.size ≤ 9223372036854775807 then ((mullionref05_behind.f k x0 x1).bind fun t206 => (mullionref05_body.l0 k x0 x1 (x6 ++ x7) x8 t206 (wrap64 (x1 + 1)))) else (none)
def mullionref05_body.l0 : Nat → List (S45) → Int → ByteArray → ByteArray → Int → Int → Option (ByteArray)
 | 0, _, _, _, _, _, _ => none
 | k + 1, x0, x1, x6, x8, x9, x10 => if x10 < x9 then (if x10 > (wrap64 (x1 + 1)) then (if x6.size + 1 ≤ 9223372036854775807 then ((mullionref05_body.f k x0 x10).bind fun t207 => (if (x6 ++ (⟨#[44]⟩ : ByteArray)).size + t207.size ≤ 9223372036854775807 then ((mullionref05_behind.f k x0 x10).bind fun t208 => (mullionref05_body.l0 k x0 x1 ((x6 ++ (⟨#[44]⟩ : ByteArray)) ++ t207) x8 x9 t208)) else (none))) else (none)) else ((mullionref05_body.f k x0 x10).bind fun t209 => (if x6.size + t209.size ≤ 9223372036854775807 then ((mullionref05_behind.f k x0 x10).bind fun t210 => (mullionref05_body.l0 k x0 x1 (x6 ++ t209) x8 x9 t210)) else (none)))) else (if x6.size + x8.size ≤ 9223372036854775807 then (some (x6 ++ x8)) else (none))
def mullionref05_body.f : Nat → List (S45) → Int → Option (ByteArray)
 | 0, _, _ => none
 | k + 1, l0, a1 => if 0 ≤ a1 then (if a1 < (l0.length : Int) then ((mullionref01_PutNumber.f k ((rd_T45 l0 a1).f4)).bind fun t201 => (if t201.size + 1 ≤ 9223372036854775807 then ((mullionref01_PutNumber.f k ((rd_T45 l0 a1).f5)).bind fun t202 => (if (t201 ++ (⟨#[120]⟩ : ByteArray)).size + t202.size ≤ 9223372036854775807 then (if ((t201 ++ (⟨#[120]⟩ : ByteArray)) ++ t202).size + 1 ≤ 9223372036854775807 then ((mullionref01_PutNumber.f k ((rd_T45 l0 a1).f2)).bind fun t203 => (if (((t201 ++ (⟨#[120]⟩ : ByteArray)) ++ t202) ++ (⟨#[44]⟩ : ByteArray)).size + t203.size ≤ 9223372036854775807 then (if ((((t201 ++ (⟨#[120]⟩ : ByteArray)) ++ t202) ++ (⟨#[44]⟩ : ByteArray)) ++ t203).size + 1 ≤ 9223372036854775807 then ((mullionref01_PutNumber.f k ((rd_T45 l0 a1).f3)).bind fun t204 => (if (((((t201 ++ (⟨#[120]⟩ : ByteArray)) ++ t202) ++ (⟨#[44]⟩ : ByteArray)) ++ t203) ++ (⟨#[44]⟩ : ByteArray)).size + t204.size ≤ 9223372036854775807 then (if ((rd_T45 l0 a1).f1) = 1 then (if ((((((t201 ++ (⟨#[120]⟩ : ByteArray)) ++ t202) ++ (⟨#[44]⟩ : ByteArray)) ++ t203) ++ (⟨#[44]⟩ : ByteArray)) ++ t204).size + 1 ≤ 9223372036854775807 then ((mullionref01_PutNumber.f k ((rd_T45 l0 a1).f6)).bind fun t205 => (if (((((((t201 ++ (⟨#[120]⟩ : ByteArray)) ++ t202) ++ (⟨#[44]⟩ : ByteArray)) ++ t203) ++ (⟨#[44]⟩ : ByteArray)) ++ t204) ++ (⟨#[44]⟩ : ByteArray)).size + t205.size ≤ 9223372036854775807 then (some ((((((((t201 ++ (⟨#[120]⟩ : ByteArray)) ++ t202) ++ (⟨#[44]⟩ : ByteArray)) ++ t203) ++ (⟨#[44]⟩ : ByteArray)) ++ t204) ++ (⟨#[44]⟩ : ByteArray)) ++ t205)) else (none))) else (none)) else (if ((rd_T45 l0 a1).f1) = 3 then (mullionref05_body.j0 k l0 a1 ((((((t201 ++ (⟨#[120]⟩ : ByteArray)) ++ t202) ++ (⟨#[44]⟩ : ByteArray)) ++ t203) ++ (⟨#[44]⟩ : ByteArray)) ++ t204) (⟨#[91]⟩ : ByteArray) (⟨#[93]⟩ : ByteArray)) else (mullionref05_body.j0 k l0 a1 ((((((t201 ++ (⟨#[120]⟩ : ByteArray)) ++ t202) ++ (⟨#[44]⟩ : ByteArray)) ++ t203) ++ (⟨#[44]⟩ : ByteArray)) ++ t204) (⟨#[123]⟩ : ByteArray) (⟨#[125]⟩ : ByteArray)))) else (none))) else (none)) else (none))) else (none)) else (none))) else (none))) else (none)) else (none)
end
end Go.Proofs.YtmpnkckaohfflaaDoor.L
end
section
namespace Go.Proofs.YtmpnkckaohfflaaDoor.L
open Go.Proofs.YtmpnkckaohfflaaDoor.K Go.RowKit Go.Proofs.YtmpnkckaohfflaaDoorW.PrintWords Go.Proofs.YtmpnkckaohfflaaDoorW.PrintLast Go.Proofs.YtmpnkckaohfflaaDoorW.PrintMore Go.Proofs.YtmpnkckaohfflaaDoor.PGiv
attribute [local go_sem] max2_int min2_int max_two min_two max_three min_three max_four min_four
set_option linter.unusedVariables false
set_option linter.unusedSimpArgs false
attribute [local go_sem high] eqA45
def mullionref05_four.f (a0 : Int) : Option (ByteArray) := if 0 ≤ (wrap64 (Int.tdiv a0 4096)) then (if (wrap64 (Int.tdiv a0 4096)) ≤ (wrap64 ((wrap64 (Int.tdiv a0 4096)) + 1)) then (if (wrap64 ((wrap64 (Int.tdiv a0 4096)) + 1)) ≤ 16 then (if 0 ≤ (Int.tmod (wrap64 (Int.tdiv a0 256)) 16) then (if (Int.tmod (wrap64 (Int.tdiv a0 256)) 16) ≤ (wrap64 ((Int.tmod (wrap64 (Int.tdiv a0 256)) 16) + 1)) then (if (wrap64 ((Int.tmod (wrap64 (Int.tdiv a0 256)) 16) + 1)) ≤ 16 then (if ((⟨#[48, 49, 50, 51, 52, 53, 54, 55, 56, 57, 97, 98, 99, 100, 101, 102]⟩ : ByteArray).extract ((wrap64 (Int.tdiv a0 4096)) : Int).toNat ((wrap64 ((wrap64 (Int.tdiv a0 4096)) + 1)) : Int).toNat).size + ((⟨#[48, 49, 50, 51, 52, 53, 54, 55, 56, 57, 97, 98, 99, 100, 101, 102]⟩ : ByteArray).extract ((Int.tmod (wrap64 (Int.tdiv a0 256)) 16) : Int).toNat ((wrap64 ((Int.tmod (wrap64 (Int.tdiv a0 256)) 16) + 1)) : Int).toNat).size ≤ 9223372036854775807 then (if 0 ≤ (Int.tmod (wrap64 (Int.tdiv a0 16)) 16) then (if (Int.tmod (wrap64 (Int.tdiv a0 16)) 16) ≤ (wrap64 ((Int.tmod (wrap64 (Int.tdiv a0 16)) 16) + 1)) then (if (wrap64 ((Int.tmod (wrap64 (Int.tdiv a0 16)) 16) + 1)) ≤ 16 then (if (((⟨#[48, 49, 50, 51, 52, 53, 54, 55, 56, 57, 97, 98, 99, 100, 101, 102]⟩ : ByteArray).extract ((wrap64 (Int.tdiv a0 4096)) : Int).toNat ((wrap64 ((wrap64 (Int.tdiv a0 4096)) + 1)) : Int).toNat) ++ ((⟨#[48, 49, 50, 51, 52, 53, 54, 55, 56, 57, 97, 98, 99, 100, 101, 102]⟩ : ByteArray).extract ((Int.tmod (wrap64 (Int.tdiv a0 256)) 16) : Int).toNat ((wrap64 ((Int.tmod (wrap64 (Int.tdiv a0 256)) 16) + 1)) : Int).toNat)).size + ((⟨#[48, 49, 50, 51, 52, 53, 54, 55, 56, 57, 97, 98, 99, 100, 101, 102]⟩ : ByteArray).extract ((Int.tmod (wrap64 (Int.tdiv a0 16)) 16) : Int).toNat ((wrap64 ((Int.tmod (wrap64 (Int.tdiv a0 16)) 16) + 1)) : Int).toNat).size ≤ 9223372036854775807 then (if 0 ≤ (Int.tmod a0 16) then (if (Int.tmod a0 16) ≤ (wrap64 ((Int.tmod a0 16) + 1)) then (if (wrap64 ((Int.tmod a0 16) + 1)) ≤ 16 then (if ((((⟨#[48, 49, 50, 51, 52, 53, 54, 55, 56, 57, 97, 98, 99, 100, 101, 102]⟩ : ByteArray).extract ((wrap64 (Int.tdiv a0 4096)) : Int).toNat ((wrap64 ((wrap64 (Int.tdiv a0 4096)) + 1)) : Int).toNat) ++ ((⟨#[48, 49, 50, 51, 52, 53, 54, 55, 56, 57, 97, 98, 99, 100, 101, 102]⟩ : ByteArray).extract ((Int.tmod (wrap64 (Int.tdiv a0 256)) 16) : Int).toNat ((wrap64 ((Int.tmod (wrap64 (Int.tdiv a0 256)) 16) + 1)) : Int).toNat)) ++ ((⟨#[48, 49, 50, 51, 52, 53, 54, 55, 56, 57, 97, 98, 99, 100, 101, 102]⟩ : ByteArray).extract ((Int.tmod (wrap64 (Int.tdiv a0 16)) 16) : Int).toNat ((wrap64 ((Int.tmod (wrap64 (Int.tdiv a0 16)) 16) + 1)) : Int).toNat)).size + ((⟨#[48, 49, 50, 51, 52, 53, 54, 55, 56, 57, 97, 98, 99, 100, 101, 102]⟩ : ByteArray).extract ((Int.tmod a0 16) : Int).toNat ((wrap64 ((Int.tmod a0 16) + 1)) : Int).toNat).size ≤ 9223372036854775807 then (some (((((⟨#[48, 49, 50, 51, 52, 53, 54, 55, 56, 57, 97, 98, 99, 100, 101, 102]⟩ : ByteArray).extract ((wrap64 (Int.tdiv a0 4096)) : Int).toNat ((wrap64 ((wrap64 (Int.tdiv a0 4096)) + 1)) : Int).toNat) ++ ((⟨#[48, 49, 50, 51, 52, 53, 54, 55, 56, 57, 97, 98, 99, 100, 101, 102]⟩ : ByteArray).extract ((Int.tmod (wrap64 (Int.tdiv a0 256)) 16) : Int).toNat ((wrap64 ((Int.tmod (wrap64 (Int.tdiv a0 256)) 16) + 1)) : Int).toNat)) ++ ((⟨#[48, 49, 50, 51, 52, 53, 54, 55, 56, 57, 97, 98, 99, 100, 101, 102]⟩ : ByteArray).extract ((Int.tmod (wrap64 (Int.tdiv a0 16)) 16) : Int).toNat ((wrap64 ((Int.tmod (wrap64 (Int.tdiv a0 16)) 16) + 1)) : Int).toNat)) ++ ((⟨#[48, 49, 50, 51, 52, 53, 54, 55, 56, 57, 97, 98, 99, 100, 101, 102]⟩ : ByteArray).extract ((Int.tmod a0 16) : Int).toNat ((wrap64 ((Int.tmod a0 16) + 1)) : Int).toNat))) else (none)) else (none)) else (none)) else (none)) else (none)) else (none)) else (none)) else (none)) else (none)) else (none)) else (none)) else (none)) else (none)) else (none)) else (none)
set_option maxHeartbeats 8000000 in
set_option maxRecDepth 100000 in
theorem mullionref05_four.calls (a0 : Int) (r : ByteArray) (w : World) (h : mullionref05_four.f a0 = some r) :
   Calls Tryd.prog 27 #[.int .i64 a0] w fun e w' => e = .returned (.string r) ∧ Drawn0 w w' := by
 have H : (if 0 ≤ (wrap64 (Int.tdiv a0 4096)) then (if (wrap64 (Int.tdiv a0 4096)) ≤ (wrap64 ((wrap64 (Int.tdiv a0 4096)) + 1)) then (if (wrap64 ((wrap64 (Int.tdiv a0 4096)) + 1)) ≤ 16 then (if 0 ≤ (Int.tmod (wrap64 (Int.tdiv a0 256)) 16) then (if (Int.tmod (wrap64 (Int.tdiv a0 256)) 16) ≤ (wrap64 ((Int.tmod (wrap64 (Int.tdiv a0 256)) 16) + 1)) then (if (wrap64 ((Int.tmod (wrap64 (Int.tdiv a0 256)) 16) + 1)) ≤ 16 then (if ((⟨#[48, 49, 50, 51, 52, 53, 54, 55, 56, 57, 97, 98, 99, 100, 101, 102]⟩ : ByteArray).extract ((wrap64 (Int.tdiv a0 4096)) : Int).toNat ((wrap64 ((wrap64 (Int.tdiv a0 4096)) + 1)) : Int).toNat).size + ((⟨#[48, 49, 50, 51, 52, 53, 54, 55, 56, 57, 97, 98, 99, 100, 101, 102]⟩ : ByteArray).extract ((Int.tmod (wrap64 (Int.tdiv a0 256)) 16) : Int).toNat ((wrap64 ((Int.tmod (wrap64 (Int.tdiv a0 256)) 16) + 1)) : Int).toNat).size ≤ 9223372036854775807 then (if 0 ≤ (Int.tmod (wrap64 (Int.tdiv a0 16)) 16) then (if (Int.tmod (wrap64 (Int.tdiv a0 16)) 16) ≤ (wrap64 ((Int.tmod (wrap64 (Int.tdiv a0 16)) 16) + 1)) then (if (wrap64 ((Int.tmod (wrap64 (Int.tdiv a0 16)) 16) + 1)) ≤ 16 then (if (((⟨#[48, 49, 50, 51, 52, 53, 54, 55, 56, 57, 97, 98, 99, 100, 101, 102]⟩ : ByteArray).extract ((wrap64 (Int.tdiv a0 4096)) : Int).toNat ((wrap64 ((wrap64 (Int.tdiv a0 4096)) + 1)) : Int).toNat) ++ ((⟨#[48, 49, 50, 51, 52, 53, 54, 55, 56, 57, 97, 98, 99, 100, 101, 102]⟩ : ByteArray).extract ((Int.tmod (wrap64 (Int.tdiv a0 256)) 16) : Int).toNat ((wrap64 ((Int.tmod (wrap64 (Int.tdiv a0 256)) 16) + 1)) : Int).toNat)).size + ((⟨#[48, 49, 50, 51, 52, 53, 54, 55, 56, 57, 97, 98, 99, 100, 101, 102]⟩ : ByteArray).extract ((Int.tmod (wrap64 (Int.tdiv a0 16)) 16) : Int).toNat ((wrap64 ((Int.tmod (wrap64 (Int.tdiv a0 16)) 16) + 1)) : Int).toNat).size ≤ 9223372036854775807 then (if 0 ≤ (Int.tmod a0 16) then (if (Int.tmod a0 16) ≤ (wrap64 ((Int.tmod a0 16) + 1)) then (if (wrap64 ((Int.tmod a0 16) + 1)) ≤ 16 then (if ((((⟨#[48, 49, 50, 51, 52, 53, 54, 55, 56, 57, 97, 98, 99, 100, 101, 102]⟩ : ByteArray).extract ((wrap64 (Int.tdiv a0 4096)) : Int).toNat ((wrap64 ((wrap64 (Int.tdiv a0 4096)) + 1)) : Int).toNat) ++ ((⟨#[48, 49, 50, 51, 52, 53, 54, 55, 56, 57, 97, 98, 99, 100, 101, 102]⟩ : ByteArray).extract ((Int.tmod (wrap64 (Int.tdiv a0 256)) 16) : Int).toNat ((wrap64 ((Int.tmod (wrap64 (Int.tdiv a0 256)) 16) + 1)) : Int).toNat)) ++ ((⟨#[48, 49, 50, 51, 52, 53, 54, 55, 56, 57, 97, 98, 99, 100, 101, 102]⟩ : ByteArray).extract ((Int.tmod (wrap64 (Int.tdiv a0 16)) 16) : Int).toNat ((wrap64 ((Int.tmod (wrap64 (Int.tdiv a0 16)) 16) + 1)) : Int).toNat)).size + ((⟨#[48, 49, 50, 51, 52, 53, 54, 55, 56, 57, 97, 98, 99, 100, 101, 102]⟩ : ByteArray).extract ((Int.tmod a0 16) : Int).toNat ((wrap64 ((Int.tmod a0 16) + 1)) : Int).toNat).size ≤ 9223372036854775807 then (some (((((⟨#[48, 49, 50, 51, 52, 53, 54, 55, 56, 57, 97, 98, 99, 100, 101, 102]⟩ : ByteArray).extract ((wrap64 (Int.tdiv a0 4096)) : Int).toNat ((wrap64 ((wrap64 (Int.tdiv a0 4096)) + 1)) : Int).toNat) ++ ((⟨#[48, 49, 50, 51, 52, 53, 54, 55, 56, 57, 97, 98, 99, 100, 101, 102]⟩ : ByteArray).extract ((Int.tmod (wrap64 (Int.tdiv a0 256)) 16) : Int).toNat ((wrap64 ((Int.tmod (wrap64 (Int.tdiv a0 256)) 16) + 1)) : Int).toNat)) ++ ((⟨#[48, 49, 50, 51, 52, 53, 54, 55, 56, 57, 97, 98, 99, 100, 101, 102]⟩ : ByteArray).extract ((Int.tmod (wrap64 (Int.tdiv a0 16)) 16) : Int).toNat ((wrap64 ((Int.tmod (wrap64 (Int.tdiv a0 16)) 16) + 1)) : Int).toNat)) ++ ((⟨#[48, 49, 50, 51, 52, 53, 54, 55, 56, 57, 97, 98, 99, 100, 101, 102]⟩ : ByteArray).extract ((Int.tmod a0 16) : Int).toNat ((wrap64 ((Int.tmod a0 16) + 1)) : Int).toNat))) else (none)) else (none)) else (none)) else (none)) else (none)) else (none)) else (none)) else (none)) else (none)) else (none)) else (none)) else (none)) else (none)) else (none)) else (none)) = some r := h
 clear h
 obtain ⟨ji2, hji2⟩ : ∃ j_ : Int, (wrap64 (Int.tdiv a0 4096)) = j_ := ⟨_, rfl⟩
 replace H : (if 0 ≤ (ji2) then (if (ji2) ≤ (wrap64 ((ji2) + 1)) then (if (wrap64 ((ji2) + 1)) ≤ 16 then (if 0 ≤ (Int.tmod (wrap64 (Int.tdiv a0 256)) 16) then (if (Int.tmod (wrap64 (Int.tdiv a0 256)) 16) ≤ (wrap64 ((Int.tmod (wrap64 (Int.tdiv a0 256)) 16) + 1)) then (if (wrap64 ((Int.tmod (wrap64 (Int.tdiv a0 256)) 16) + 1)) ≤ 16 then (if ((⟨#[48, 49, 50, 51, 52, 53, 54, 55, 56, 57, 97, 98, 99, 100, 101, 102]⟩ : ByteArray).extract ((ji2) : Int).toNat ((wrap64 ((ji2) + 1)) : Int).toNat).size + ((⟨#[48, 49, 50, 51, 52, 53, 54, 55, 56, 57, 97, 98, 99, 100, 101, 102]⟩ : ByteArray).extract ((Int.tmod (wrap64 (Int.tdiv a0 256)) 16) : Int).toNat ((wrap64 ((Int.tmod (wrap64 (Int.tdiv a0 256)) 16) + 1)) : Int).toNat).size ≤ 9223372036854775807 then (if 0 ≤ (Int.tmod (wrap64 (Int.tdiv a0 16)) 16) then (if (Int.tmod (wrap64 (Int.tdiv a0 16)) 16) ≤ (wrap64 ((Int.tmod (wrap64 (Int.tdiv a0 16)) 16) + 1)) then (if (wrap64 ((Int.tmod (wrap64 (Int.tdiv a0 16)) 16) + 1)) ≤ 16 then (if (((⟨#[48, 49, 50, 51, 52, 53, 54, 55, 56, 57, 97, 98, 99, 100, 101, 102]⟩ : ByteArray).extract ((ji2) : Int).toNat ((wrap64 ((ji2) + 1)) : Int).toNat) ++ ((⟨#[48, 49, 50, 51, 52, 53, 54, 55, 56, 57, 97, 98, 99, 100, 101, 102]⟩ : ByteArray).extract ((Int.tmod (wrap64 (Int.tdiv a0 256)) 16) : Int).toNat ((wrap64 ((Int.tmod (wrap64 (Int.tdiv a0 256)) 16) + 1)) : Int).toNat)).size + ((⟨#[48, 49, 50, 51, 52, 53, 54, 55, 56, 57, 97, 98, 99, 100, 101, 102]⟩ : ByteArray).extract ((Int.tmod (wrap64 (Int.tdiv a0 16)) 16) : Int).toNat ((wrap64 ((Int.tmod (wrap64 (Int.tdiv a0 16)) 16) + 1)) : Int).toNat).size ≤ 9223372036854775807 then (if 0 ≤ (Int.tmod a0 16) then (if (Int.tmod a0 16) ≤ (wrap64 ((Int.tmod a0 16) + 1)) then (if (wrap64 ((Int.tmod a0 16) + 1)) ≤ 16 then (if ((((⟨#[48, 49, 50, 51, 52, 53, 54, 55, 56, 57, 97, 98, 99, 100, 101, 102]⟩ : ByteArray).extract ((ji2) : Int).toNat ((wrap64 ((ji2) + 1)) : Int).toNat) ++ ((⟨#[48, 49, 50, 51, 52, 53, 54, 55, 56, 57, 97, 98, 99, 100, 101, 102]⟩ : ByteArray).extract ((Int.tmod (wrap64 (Int.tdiv a0 256)) 16) : Int).toNat ((wrap64 ((Int.tmod (wrap64 (Int.tdiv a0 256)) 16) + 1)) : Int).toNat)) ++ ((⟨#[48, 49, 50, 51, 52, 53, 54, 55, 56, 57, 97, 98, 99, 100, 101, 102]⟩ : ByteArray).extract ((Int.tmod (wrap64 (Int.tdiv a0 16)) 16) : Int).toNat ((wrap64 ((Int.tmod (wrap64 (Int.tdiv a0 16)) 16) + 1)) : Int).toNat)).size + ((⟨#[48, 49, 50, 51, 52, 53, 54, 55, 56, 57, 97, 98, 99, 100, 101, 102]⟩ : ByteArray).extract ((Int.tmod a0 16) : Int).toNat ((wrap64 ((Int.tmod a0 16) + 1)) : Int).toNat).size ≤ 9223372036854775807 then (some (((((⟨#[48, 49, 50, 51, 52, 53, 54, 55, 56, 57, 97, 98, 99, 100, 101, 102]⟩ : ByteArray).extract ((ji2) : Int).toNat ((wrap64 ((ji2) + 1)) : Int).toNat) ++ ((⟨#[48, 49, 50, 51, 52, 53, 54, 55, 56, 57, 97, 98, 99, 100, 101, 102]⟩ : ByteArray).extract ((Int.tmod (wrap64 (Int.tdiv a0 256)) 16) : Int).toNat ((wrap64 ((Int.tmod (wrap64 (Int.tdiv a0 256)) 16) + 1)) : Int).toNat)) ++ ((⟨#[48, 49, 50, 51, 52, 53, 54, 55, 56, 57, 97, 98, 99, 100, 101, 102]⟩ : ByteArray).extract ((Int.tmod (wrap64 (Int.tdiv a0 16)) 16) : Int).toNat ((wrap64 ((Int.tmod (wrap64 (Int.tdiv a0 16)) 16) + 1)) : Int).toNat)) ++ ((⟨#[48, 49, 50, 51, 52, 53, 54, 55, 56, 57, 97, 98, 99, 100, 101, 102]⟩ : ByteArray).extract ((Int.tmod a0 16) : Int).toNat ((wrap64 ((Int.tmod a0 16) + 1)) : Int).toNat))) else (none)) else (none)) else (none)) else (none)) else (none)) else (none)) else (none)) else (none)) else (none)) else (none)) else (none)) else (none)) else (none)) else (none)) else (none)) = some r := by first | (rw [hji2] at H; exact H) | (simp only [hji2] at H ⊢; exact H)
 have hji2w : (IntKind.i64.wrap (Int.tdiv a0 4096)) = ji2 := (i64_w _).trans hji2
 by_cases c3 : 0 ≤ (ji2)
 · rw [if_pos c3] at H
   have c3b0 := eq_true c3
   have c3b1 : decide (0 ≤ (ji2)) = true := decide_eq_true c3
   clear c3
   by_cases c4 : (ji2) ≤ (wrap64 ((ji2) + 1))
   · rw [if_pos c4] at H
     have c4b0 := eq_true c4
     have c4b1 : decide ((ji2) ≤ (wrap64 ((ji2) + 1))) = true := decide_eq_true c4
     by_cases c5 : (wrap64 ((ji2) + 1)) ≤ 16
     · rw [if_pos c5] at H
       have c5b0 := eq_true c5
       have c5b1 : decide ((wrap64 ((ji2) + 1)) ≤ 16) = true := decide_eq_true c5
       obtain ⟨ji6, hji6⟩ : ∃ j_ : Int, (Int.tmod (wrap64 (Int.tdiv a0 256)) 16) = j_ := ⟨_, rfl⟩
       replace H : (if 0 ≤ (ji6) then (if (ji6) ≤ (wrap64 ((ji6) + 1)) then (if (wrap64 ((ji6) + 1)) ≤ 16 then (if ((⟨#[48, 49, 50, 51, 52, 53, 54, 55, 56, 57, 97, 98, 99, 100, 101, 102]⟩ : ByteArray).extract ((ji2) : Int).toNat ((wrap64 ((ji2) + 1)) : Int).toNat).size + ((⟨#[48, 49, 50, 51, 52, 53, 54, 55, 56, 57, 97, 98, 99, 100, 101, 102]⟩ : ByteArray).extract ((ji6) : Int).toNat ((wrap64 ((ji6) + 1)) : Int).toNat).size ≤ 9223372036854775807 then (if 0 ≤ (Int.tmod (wrap64 (Int.tdiv a0 16)) 16) then (if (Int.tmod (wrap64 (Int.tdiv a0 16)) 16) ≤ (wrap64 ((Int.tmod (wrap64 (Int.tdiv a0 16)) 16) + 1)) then (if (wrap64 ((Int.tmod (wrap64 (Int.tdiv a0 16)) 16) + 1)) ≤ 16 then (if (((⟨#[48, 49, 50, 51, 52, 53, 54, 55, 56, 57, 97, 98, 99, 100, 101, 102]⟩ : ByteArray).extract ((ji2) : Int).toNat ((wrap64 ((ji2) + 1)) : Int).toNat) ++ ((⟨#[48, 49, 50, 51, 52, 53, 54, 55, 56, 57, 97, 98, 99, 100, 101, 102]⟩ : ByteArray).extract ((ji6) : Int).toNat ((wrap64 ((ji6) + 1)) : Int).toNat)).size + ((⟨#[48, 49, 50, 51, 52, 53, 54, 55, 56, 57, 97, 98, 99, 100, 101, 102]⟩ : ByteArray).extract ((Int.tmod (wrap64 (Int.tdiv a0 16)) 16) : Int).toNat ((wrap64 ((Int.tmod (wrap64 (Int.tdiv a0 16)) 16) + 1)) : Int).toNat).size ≤ 9223372036854775807 then (if 0 ≤ (Int.tmod a0 16) then (if (Int.tmod a0 16) ≤ (wrap64 ((Int.tmod a0 16) + 1)) then (if (wrap64 ((Int.tmod a0 16) + 1)) ≤ 16 then (if ((((⟨#[48, 49, 50, 51, 52, 53, 54, 55, 56, 57, 97, 98, 99, 100, 101, 102]⟩ : ByteArray).extract ((ji2) : Int).toNat ((wrap64 ((ji2) + 1)) : Int).toNat) ++ ((⟨#[48, 49, 50, 51, 52, 53, 54, 55, 56, 57, 97, 98, 99, 100, 101, 102]⟩ : ByteArray).extract ((ji6) : Int).toNat ((wrap64 ((ji6) + 1)) : Int).toNat)) ++ ((⟨#[48, 49, 50, 51, 52, 53, 54, 55, 56, 57, 97, 98, 99, 100, 101, 102]⟩ : ByteArray).extract ((Int.tmod (wrap64 (Int.tdiv a0 16)) 16) : Int).toNat ((wrap64 ((Int.tmod (wrap64 (Int.tdiv a0 16)) 16) + 1)) : Int).toNat)).size + ((⟨#[48, 49, 50, 51, 52, 53, 54, 55, 56, 57, 97, 98, 99, 100, 101, 102]⟩ : ByteArray).extract ((Int.tmod a0 16) : Int).toNat ((wrap64 ((Int.tmod a0 16) + 1)) : Int).toNat).size ≤ 9223372036854775807 then (some (((((⟨#[48, 49, 50, 51, 52, 53, 54, 55, 56, 57, 97, 98, 99, 100, 101, 102]⟩ : ByteArray).extract ((ji2) : Int).toNat ((wrap64 ((ji2) + 1)) : Int).toNat) ++ ((⟨#[48, 49, 50, 51, 52, 53, 54, 55, 56, 57, 97, 98, 99, 100, 101, 102]⟩ : ByteArray).extract ((ji6) : Int).toNat ((wrap64 ((ji6) + 1)) : Int).toNat)) ++ ((⟨#[48, 49, 50, 51, 52, 53, 54, 55, 56, 57, 97, 98, 99, 100, 101, 102]⟩ : ByteArray).extract ((Int.tmod (wrap64 (Int.tdiv a0 16)) 16) : Int).toNat ((wrap64 ((Int.tmod (wrap64 (Int.tdiv a0 16)) 16) + 1)) : Int).toNat)) ++ ((⟨#[48, 49, 50, 51, 52, 53, 54, 55, 56, 57, 97, 98, 99, 100, 101, 102]⟩ : ByteArray).extract ((Int.tmod a0 16) : Int).toNat ((wrap64 ((Int.tmod a0 16) + 1)) : Int).toNat))) else (none)) else (none)) else (none)) else (none)) else (none)) else (none)) else (none)) else (none)) else (none)) else (none)) else (none)) else (none)) = some r := by first | (rw [hji6] at H; exact H) | (simp only [hji6] at H ⊢; exact H)
       by_cases c7 : 0 ≤ (ji6)
       · rw [if_pos c7] at H
         have c7b0 := eq_true c7
         have c7b1 : decide (0 ≤ (ji6)) = true := decide_eq_true c7
         clear c7
         by_cases c8 : (ji6) ≤ (wrap64 ((ji6) + 1))
         · rw [if_pos c8] at H
           have c8b0 := eq_true c8
           have c8b1 : decide ((ji6) ≤ (wrap64 ((ji6) + 1))) = true := decide_eq_true c8
           by_cases c9 : (wrap64 ((ji6) + 1)) ≤ 16
           · rw [if_pos c9] at H
             have c9b0 := eq_true c9
             have c9b1 : decide ((wrap64 ((ji6) + 1)) ≤ 16) = true := decide_eq_true c9
             by_cases c10 : ((⟨#[48, 49, 50, 51, 52, 53, 54, 55, 56, 57, 97, 98, 99, 100, 101, 102]⟩ : ByteArray).extract ((ji2) : Int).toNat ((wrap64 ((ji2) + 1)) : Int).toNat).size + ((⟨#[48, 49, 50, 51, 52, 53, 54, 55, 56, 57, 97, 98, 99, 100, 101, 102]⟩ : ByteArray).extract ((ji6) : Int).toNat ((wrap64 ((ji6) + 1)) : Int).toNat).size ≤ 9223372036854775807
             · rw [if_pos c10] at H
               have c10b0 := eq_true c10
               have c10b1 : decide (((⟨#[48, 49, 50, 51, 52, 53, 54, 55, 56, 57, 97, 98, 99, 100, 101, 102]⟩ : ByteArray).extract ((ji2) : Int).toNat ((wrap64 ((ji2) + 1)) : Int).toNat).size + ((⟨#[48, 49, 50, 51, 52, 53, 54, 55, 56, 57, 97, 98, 99, 100, 101, 102]⟩ : ByteArray).extract ((ji6) : Int).toNat ((wrap64 ((ji6) + 1)) : Int).toNat).size ≤ 9223372036854775807) = true := decide_eq_true c10
               try have c10b2 : (9223372036854775807 < ((⟨#[48, 49, 50, 51, 52, 53, 54, 55, 56, 57, 97, 98, 99, 100, 101, 102]⟩ : ByteArray).extract ((ji2) : Int).toNat ((wrap64 ((ji2) + 1)) : Int).toNat).size + ((⟨#[48, 49, 50, 51, 52, 53, 54, 55, 56, 57, 97, 98, 99, 100, 101, 102]⟩ : ByteArray).extract ((ji6) : Int).toNat ((wrap64 ((ji6) + 1)) : Int).toNat).size) = False := eq_false (Nat.not_lt.2 c10)
               obtain ⟨ji11, hji11⟩ : ∃ j_ : Int, (Int.tmod (wrap64 (Int.tdiv a0 16)) 16) = j_ := ⟨_, rfl⟩
               replace H : (if 0 ≤ (ji11) then (if (ji11) ≤ (wrap64 ((ji11) + 1)) then (if (wrap64 ((ji11) + 1)) ≤ 16 then (if (((⟨#[48, 49, 50, 51, 52, 53, 54, 55, 56, 57, 97, 98, 99, 100, 101, 102]⟩ : ByteArray).extract ((ji2) : Int).toNat ((wrap64 ((ji2) + 1)) : Int).toNat) ++ ((⟨#[48, 49, 50, 51, 52, 53, 54, 55, 56, 57, 97, 98, 99, 100, 101, 102]⟩ : ByteArray).extract ((ji6) : Int).toNat ((wrap64 ((ji6) + 1)) : Int).toNat)).size + ((⟨#[48, 49, 50, 51, 52, 53, 54, 55, 56, 57, 97, 98, 99, 100, 101, 102]⟩ : ByteArray).extract ((ji11) : Int).toNat ((wrap64 ((ji11) + 1)) : Int).toNat).size ≤ 9223372036854775807 then (if 0 ≤ (Int.tmod a0 16) then (if (Int.tmod a0 16) ≤ (wrap64 ((Int.tmod a0 16) + 1)) then (if (wrap64 ((Int.tmod a0 16) + 1)) ≤ 16 then (if ((((⟨#[48, 49, 50, 51, 52, 53, 54, 55, 56, 57, 97, 98, 99, 100, 101, 102]⟩ : ByteArray).extract ((ji2) : Int).toNat ((wrap64 ((ji2) + 1)) : Int).toNat) ++ ((⟨#[48, 49, 50, 51, 52, 53, 54, 55, 56, 57, 97, 98, 99, 100, 101, 102]⟩ : ByteArray).extract ((ji6) : Int).toNat ((wrap64 ((ji6) + 1)) : Int).toNat)) ++ ((⟨#[48, 49, 50, 51, 52, 53, 54, 55, 56, 57, 97, 98, 99, 100, 101, 102]⟩ : ByteArray).extract ((ji11) : Int).toNat ((wrap64 ((ji11) + 1)) : Int).toNat)).size + ((⟨#[48, 49, 50, 51, 52, 53, 54, 55, 56, 57, 97, 98, 99, 100, 101, 102]⟩ : ByteArray).extract ((Int.tmod a0 16) : Int).toNat ((wrap64 ((Int.tmod a0 16) + 1)) : Int).toNat).size ≤ 9223372036854775807 then (some (((((⟨#[48, 49, 50, 51, 52, 53, 54, 55, 56, 57, 97, 98, 99, 100, 101, 102]⟩ : ByteArray).extract ((ji2) : Int).toNat ((wrap64 ((ji2) + 1)) : Int).toNat) ++ ((⟨#[48, 49, 50, 51, 52, 53, 54, 55, 56, 57, 97, 98, 99, 100, 101, 102]⟩ : ByteArray).extract ((ji6) : Int).toNat ((wrap64 ((ji6) + 1)) : Int).toNat)) ++ ((⟨#[48, 49, 50, 51, 52, 53, 54, 55, 56, 57, 97, 98, 99, 100, 101, 102]⟩ : ByteArray).extract ((ji11) : Int).toNat ((wrap64 ((ji11) + 1)) : Int).toNat)) ++ ((⟨#[48, 49, 50, 51, 52, 53, 54, 55, 56, 57, 97, 98, 99, 100, 101, 102]⟩ : ByteArray).extract ((Int.tmod a0 16) : Int).toNat ((wrap64 ((Int.tmod a0 16) + 1)) : Int).toNat))) else (none)) else (none)) else (none)) else (none)) else (none)) else (none)) else (none)) else (none)) = some r := by first | (rw [hji11] at H; exact H) | (simp only [hji11] at H ⊢; exact H)
               by_cases c12 : 0 ≤ (ji11)
               · rw [if_pos c12] at H
                 have c12b0 := eq_true c12
                 have c12b1 : decide (0 ≤ (ji11)) = true := decide_eq_true c12
                 clear c12
                 by_cases c13 : (ji11) ≤ (wrap64 ((ji11) + 1))
                 · rw [if_pos c13] at H
                   have c13b0 := eq_true c13
                   have c13b1 : decide ((ji11) ≤ (wrap64 ((ji11) + 1))) = true := decide_eq_true c13
                   by_cases c14 : (wrap64 ((ji11) + 1)) ≤ 16
                   · rw [if_pos c14] at H
                     have c14b0 := eq_true c14
                     have c14b1 : decide ((wrap64 ((ji11) + 1)) ≤ 16) = true := decide_eq_true c14
                     by_cases c15 : (((⟨#[48, 49, 50, 51, 52, 53, 54, 55, 56, 57, 97, 98, 99, 100, 101, 102]⟩ : ByteArray).extract ((ji2) : Int).toNat ((wrap64 ((ji2) + 1)) : Int).toNat) ++ ((⟨#[48, 49, 50, 51, 52, 53, 54, 55, 56, 57, 97, 98, 99, 100, 101, 102]⟩ : ByteArray).extract ((ji6) : Int).toNat ((wrap64 ((ji6) + 1)) : Int).toNat)).size + ((⟨#[48, 49, 50, 51, 52, 53, 54, 55, 56, 57, 97, 98, 99, 100, 101, 102]⟩ : ByteArray).extract ((ji11) : Int).toNat ((wrap64 ((ji11) + 1)) : Int).toNat).size ≤ 9223372036854775807
                     · rw [if_pos c15] at H
                       have c15b0 := eq_true c15
                       have c15b1 : decide ((((⟨#[48, 49, 50, 51, 52, 53, 54, 55, 56, 57, 97, 98, 99, 100, 101, 102]⟩ : ByteArray).extract ((ji2) : Int).toNat ((wrap64 ((ji2) + 1)) : Int).toNat) ++ ((⟨#[48, 49, 50, 51, 52, 53, 54, 55, 56, 57, 97, 98, 99, 100, 101, 102]⟩ : ByteArray).extract ((ji6) : Int).toNat ((wrap64 ((ji6) + 1)) : Int).toNat)).size + ((⟨#[48, 49, 50, 51, 52, 53, 54, 55, 56, 57, 97, 98, 99, 100, 101, 102]⟩ : ByteArray).extract ((ji11) : Int).toNat ((wrap64 ((ji11) + 1)) : Int).toNat).size ≤ 9223372036854775807) = true := decide_eq_true c15
                       try have c15b2 : (9223372036854775807 < (((⟨#[48, 49, 50, 51, 52, 53, 54, 55, 56, 57, 97, 98, 99, 100, 101, 102]⟩ : ByteArray).extract ((ji2) : Int).toNat ((wrap64 ((ji2) + 1)) : Int).toNat) ++ ((⟨#[48, 49, 50, 51, 52, 53, 54, 55, 56, 57, 97, 98, 99, 100, 101, 102]⟩ : ByteArray).extract ((ji6) : Int).toNat ((wrap64 ((ji6) + 1)) : Int).toNat)).size + ((⟨#[48, 49, 50, 51, 52, 53, 54, 55, 56, 57, 97, 98, 99, 100, 101, 102]⟩ : ByteArray).extract ((ji11) : Int).toNat ((wrap64 ((ji11) + 1)) : Int).toNat).size) = False := eq_false (Nat.not_lt.2 c15)
                       obtain ⟨ji16, hji16⟩ : ∃ j_ : Int, (Int.tmod a0 16) = j_ := ⟨_, rfl⟩
                       replace H : (if 0 ≤ (ji16) then (if (ji16) ≤ (wrap64 ((ji16) + 1)) then (if (wrap64 ((ji16) + 1)) ≤ 16 then (if ((((⟨#[48, 49, 50, 51, 52, 53, 54, 55, 56, 57, 97, 98, 99, 100, 101, 102]⟩ : ByteArray).extract ((ji2) : Int).toNat ((wrap64 ((ji2) + 1)) : Int).toNat) ++ ((⟨#[48, 49, 50, 51, 52, 53, 54, 55, 56, 57, 97, 98, 99, 100, 101, 102]⟩ : ByteArray).extract ((ji6) : Int).toNat ((wrap64 ((ji6) + 1)) : Int).toNat)) ++ ((⟨#[48, 49, 50, 51, 52, 53, 54, 55, 56, 57, 97, 98, 99, 100, 101, 102]⟩ : ByteArray).extract ((ji11) : Int).toNat ((wrap64 ((ji11) + 1)) : Int).toNat)).size + ((⟨#[48, 49, 50, 51, 52, 53, 54, 55, 56, 57, 97, 98, 99, 100, 101, 102]⟩ : ByteArray).extract ((ji16) : Int).toNat ((wrap64 ((ji16) + 1)) : Int).toNat).size ≤ 9223372036854775807 then (some (((((⟨#[48, 49, 50, 51, 52, 53, 54, 55, 56, 57, 97, 98, 99, 100, 101, 102]⟩ : ByteArray).extract ((ji2) : Int).toNat ((wrap64 ((ji2) + 1)) : Int).toNat) ++ ((⟨#[48, 49, 50, 51, 52, 53, 54, 55, 56, 57, 97, 98, 99, 100, 101, 102]⟩ : ByteArray).extract ((ji6) : Int).toNat ((wrap64 ((ji6) + 1)) : Int).toNat)) ++ ((⟨#[48, 49, 50, 51, 52, 53, 54, 55, 56, 57, 97, 98, 99, 100, 101, 102]⟩ : ByteArray).extract ((ji11) : Int).toNat ((wrap64 ((ji11) + 1)) : Int).toNat)) ++ ((⟨#[48, 49, 50, 51, 52, 53, 54, 55, 56, 57, 97, 98, 99, 100, 101, 102]⟩ : ByteArray).extract ((ji16) : Int).toNat ((wrap64 ((ji16) + 1)) : Int).toNat))) else (none)) else (none)) else (none)) else (none)) = some r := by first | (rw [hji16] at H; exact H) | (simp only [hji16] at H ⊢; exact H)
                       by_cases c17 : 0 ≤ (ji16)
                       · rw [if_pos c17] at H
                         have c17b0 := eq_true c17
                         have c17b1 : decide (0 ≤ (ji16)) = true := decide_eq_true c17
                         clear c17
                         by_cases c18 : (ji16) ≤ (wrap64 ((ji16) + 1))
                         · rw [if_pos c18] at H
                           have c18b0 := eq_true c18
                           have c18b1 : decide ((ji16) ≤ (wrap64 ((ji16) + 1))) = true := decide_eq_true c18
                           by_cases c19 : (wrap64 ((ji16) + 1)) ≤ 16
                           · rw [if_pos c19] at H
                             have c19b0 := eq_true c19
                             have c19b1 : decide ((wrap64 ((ji16) + 1)) ≤ 16) = true := decide_eq_true c19
                             by_cases c20 : ((((⟨#[48, 49, 50, 51, 52, 53, 54, 55, 56, 57, 97, 98, 99, 100, 101, 102]⟩ : ByteArray).extract ((ji2) : Int).toNat ((wrap64 ((ji2) + 1)) : Int).toNat) ++ ((⟨#[48, 49, 50, 51, 52, 53, 54, 55, 56, 57, 97, 98, 99, 100, 101, 102]⟩ : ByteArray).extract ((ji6) : Int).toNat ((wrap64 ((ji6) + 1)) : Int).toNat)) ++ ((⟨#[48, 49, 50, 51, 52, 53, 54, 55, 56, 57, 97, 98, 99, 100, 101, 102]⟩ : ByteArray).extract ((ji11) : Int).toNat ((wrap64 ((ji11) + 1)) : Int).toNat)).size + ((⟨#[48, 49, 50, 51, 52, 53, 54, 55, 56, 57, 97, 98, 99, 100, 101, 102]⟩ : ByteArray).extract ((ji16) : Int).toNat ((wrap64 ((ji16) + 1)) : Int).toNat).size ≤ 9223372036854775807
                             · rw [if_pos c20] at H
                               have c20b0 := eq_true c20
                               have c20b1 : decide (((((⟨#[48, 49, 50, 51, 52, 53, 54, 55, 56, 57, 97, 98, 99, 100, 101, 102]⟩ : ByteArray).extract ((ji2) : Int).toNat ((wrap64 ((ji2) + 1)) : Int).toNat) ++ ((⟨#[48, 49, 50, 51, 52, 53, 54, 55, 56, 57, 97, 98, 99, 100, 101, 102]⟩ : ByteArray).extract ((ji6) : Int).toNat ((wrap64 ((ji6) + 1)) : Int).toNat)) ++ ((⟨#[48, 49, 50, 51, 52, 53, 54, 55, 56, 57, 97, 98, 99, 100, 101, 102]⟩ : ByteArray).extract ((ji11) : Int).toNat ((wrap64 ((ji11) + 1)) : Int).toNat)).size + ((⟨#[48, 49, 50, 51, 52, 53, 54, 55, 56, 57, 97, 98, 99, 100, 101, 102]⟩ : ByteArray).extract ((ji16) : Int).toNat ((wrap64 ((ji16) + 1)) : Int).toNat).size ≤ 9223372036854775807) = true := decide_eq_true c20
                               try have c20b2 : (9223372036854775807 < ((((⟨#[48, 49, 50, 51, 52, 53, 54, 55, 56, 57, 97, 98, 99, 100, 101, 102]⟩ : ByteArray).extract ((ji2) : Int).toNat ((wrap64 ((ji2) + 1)) : Int).toNat) ++ ((⟨#[48, 49, 50, 51, 52, 53, 54, 55, 56, 57, 97, 98, 99, 100, 101, 102]⟩ : ByteArray).extract ((ji6) : Int).toNat ((wrap64 ((ji6) + 1)) : Int).toNat)) ++ ((⟨#[48, 49, 50, 51, 52, 53, 54, 55, 56, 57, 97, 98, 99, 100, 101, 102]⟩ : ByteArray).extract ((ji11) : Int).toNat ((wrap64 ((ji11) + 1)) : Int).toNat)).size + ((⟨#[48, 49, 50, 51, 52, 53, 54, 55, 56, 57, 97, 98, 99, 100, 101, 102]⟩ : ByteArray).extract ((ji16) : Int).toNat ((wrap64 ((ji16) + 1)) : Int).toNat).size) = False := eq_false (Nat.not_lt.2 c20)
                               obtain rfl := Option.some.inj H
                               go_enter Tryd.func27, Tryd.ntmps27
                               go_wp2
                               repeat (go_quiet (fail); try go_wp2)
                               go_ret
                               exact ⟨by first | rfl | (simp; done) | (simp only [← hji2, ← hji6, ← hji11, ← hji16] <;> (first | rfl | simp)) | (simp [*]; done), by repeat (first | exact Drawn0.refl _ | apply Drawn0.step)⟩
                             · rw [if_neg c20] at H
                               exact absurd H (by simp)
                           · rw [if_neg c19] at H
                             exact absurd H (by simp)
                         · rw [if_neg c18] at H
                           exact absurd H (by simp)
                       · rw [if_neg c17] at H
                         exact absurd H (by simp)
                     · rw [if_neg c15] at H
                       exact absurd H (by simp)
                   · rw [if_neg c14] at H
                     exact absurd H (by simp)
                 · rw [if_neg c13] at H
                   exact absurd H (by simp)
               · rw [if_neg c12] at H
                 exact absurd H (by simp)
             · rw [if_neg c10] at H
               exact absurd H (by simp)
           · rw [if_neg c9] at H
             exact absurd H (by simp)
         · rw [if_neg c8] at H
           exact absurd H (by simp)
       · rw [if_neg c7] at H
         exact absurd H (by simp)
     · rw [if_neg c5] at H
       exact absurd H (by simp)
   · rw [if_neg c4] at H
     exact absurd H (by simp)
 · rw [if_neg c3] at H
   exact absurd H (by simp)
def mullionref05_Sum.l0 : Nat → ByteArray → Int → Int → Option (Int)
 | 0, _, _, _ => none
 | k + 1, x0, x3, x4 => if x4 < (x0.size : Int) then (if 0 ≤ x4 then (mullionref05_Sum.l0 k x0 (Int.tmod (wrap64 ((wrap64 ((wrap64 (Int.tdiv x3 2)) + (wrap64 (32768 * (Int.tmod x3 2))))) + (wrap64 (bt x0 x4)))) 65536) (wrap64 (x4 + 1))) else (none)) else (some x3)
def mullionref05_Sum.f (k : Nat) (a0 : ByteArray) : Option (Int) := mullionref05_Sum.l0 k a0 0 0
theorem mullionref05_Sum.mono_l : ∀ k, (∀ y0 y1 y2, LeO (mullionref05_Sum.l0 k y0 y1 y2) (mullionref05_Sum.l0 (k + 1) y0 y1 y2))
 | 0 => fun _ _ _ r h => by simp [mullionref05_Sum.l0] at h
 | k + 1 => by
   have ih0 := mullionref05_Sum.mono_l k
   · intro y0 y1 y2
     unfold mullionref05_Sum.l0
     repeat' first
     | (with_reducible exact ih0 _ _ _)
     | (with_reducible exact LeO.refl _)
     | (with_reducible exact LeO.none _)
     | (with_reducible refine LeO.ite ?_ ?_)
     | (with_reducible refine LeO.bind ?_ (fun _ => ?_))
     | exact ih0 _ _ _
     | exact LeO.none _
     | refine LeO.ite ?_ ?_
     | refine LeO.bind ?_ (fun _ => ?_)
theorem mullionref05_Sum.mono : ∀ a0 k, LeO (mullionref05_Sum.f k a0) (mullionref05_Sum.f (k + 1) a0) := by
 intro a0 k
 have ih0 := mullionref05_Sum.mono_l k
 unfold mullionref05_Sum.f
 repeat' first
     | (with_reducible exact ih0 _ _ _)
     | (with_reducible exact LeO.refl _)
     | (with_reducible exact LeO.none _)
     | (with_reducible refine LeO.ite ?_ ?_)
     | (with_reducible refine LeO.bind ?_ (fun _ => ?_))
     | exact ih0 _ _ _
     | exact LeO.none _
     | refine LeO.ite ?_ ?_
     | refine LeO.bind ?_ (fun _ => ?_)
set_option maxHeartbeats 8000000 in
set_option maxRecDepth 100000 in
theorem mullionref05_Sum.calls (k : Nat) (a0 : ByteArray) (r : Int) (w : World) (h : mullionref05_Sum.f k a0 = some r) :
   Calls Tryd.prog 28 #[.string a0] w fun e w' => e = .returned (.int .i64 r) ∧ Drawn0 w w' := by
 have H : (mullionref05_Sum.l0 k a0 0 0) = some r := h
 clear h
 have H' := Aside0.mk H
 clear H
 go_enter Tryd.func28, Tryd.ntmps28
 go_wp2
 go_loopg [3, 4] k (fun kq v3 v4 w' => ∃ (x3_1 : Int) (x4_1 : Int), v3 = .int .i64 x3_1 ∧ v4 = .int .i64 x4_1 ∧ Aside0 (mullionref05_Sum.l0 kq a0 x3_1 x4_1 = some r) ∧ Aside0 (kq ≤ k) ∧ Drawn0 w w')
 case atStart => exact ⟨(0), (0), (by first | rfl | (simp; done) | (simp [*]; done)), (by first | rfl | (simp; done) | (simp [*]; done)), H', ⟨Nat.le_refl _⟩, by repeat (first | exact Drawn0.refl _ | apply Drawn0.step)⟩
 case round =>
   clear H'
   obtain ⟨x3_1, x4_1, rfl, rfl, HA, HK1, ⟨m1, rfl⟩⟩ := hrel
   cases gk with
   | zero => exact absurd HA.out (by simp [mullionref05_Sum.l0])
   | succ k1 =>
     have H := HA.out
     clear HA
     simp only [mullionref05_Sum.l0] at H
     by_cases c2 : x4_1 < (a0.size : Int)
     · rw [if_pos c2] at H
       have c2b0 : decide (x4_1 < (a0.size : Int)) = true := decide_eq_true c2
       clear c2
       by_cases c3 : 0 ≤ x4_1
       · rw [if_pos c3] at H
         have c3b0 : decide (0 ≤ x4_1) = true := decide_eq_true c3
         clear c3
         have H' := Aside0.mk H
         clear H
         have p4 : 0 ≤ (x4_1 : Int) := of_decide_eq_true (by first | (with_reducible assumption) | assumption)
         have q4 : x4_1 < (a0.size : Int) := of_decide_eq_true (by first | (with_reducible assumption) | assumption)
         have hx4 := bt_at a0 x4_1
         replace p4 := eq_true p4
         replace q4 := eq_true q4
         go_wp2
         go_roundg k1
         case measure => have := HK1.out; omega
         case rel => exact ⟨(Int.tmod (wrap64 ((wrap64 ((wrap64 (Int.tdiv x3_1 2)) + (wrap64 (32768 * (Int.tmod x3_1 2))))) + (wrap64 (bt a0 x4_1)))) 65536), (wrap64 (x4_1 + 1)), (by first | rfl | (simp; done) | (simp [*]; done)), (by first | rfl | (simp; done) | (simp [*]; done)), H', ⟨by have := HK1.out; omega⟩, by repeat (first | exact Drawn0.refl _ | apply Drawn0.step)⟩
       · rw [if_neg c3] at H
         exact absurd H (by simp)
     · rw [if_neg c2] at H
       have c2b0 : decide (x4_1 < (a0.size : Int)) = false := decide_eq_false c2
       clear c2
       obtain rfl := Option.some.inj H
       go_wp2
       go_ret
       exact ⟨by first | rfl | (simp; done) | (simp [*]; done), by repeat (first | exact Drawn0.refl _ | apply Drawn0.step)⟩
def mullionref05_Text.f (k : Nat) (l0 : List (S45)) : Option (ByteArray × Int) := (mullionref04_Check.f k l0).bind fun t211 => (if t211 = 0 then ((mullionref05_body.f k l0 0).bind fun t212 => ((mullionref05_Sum.f k t212).bind fun t213 => ((mullionref05_four.f t213).bind fun t214 => (if t214.size + 1 ≤ 9223372036854775807 then (if (t214 ++ (⟨#[44]⟩ : ByteArray)).size + t212.size ≤ 9223372036854775807 then (some ((t214 ++ (⟨#[44]⟩ : ByteArray)) ++ t212, 0)) else (none)) else (none))))) else (some ((⟨#[]⟩ : ByteArray), 40)))
def mullionlaw05_same.l0 : Nat → List (S45) → List (S45) → Int → Option (Bool)
 | 0, _, _, _ => none
 | k + 1, x0, x1, x5 => if x5 < (x0.length : Int) then (if 0 ≤ x5 then (if x5 < (x1.length : Int) then (if (!(((rd_T45 x0 x5).f0) == ((rd_T45 x1 x5).f0)) || (!(((rd_T45 x0 x5).f1) == ((rd_T45 x1 x5).f1)) || (!(((rd_T45 x0 x5).f2) == ((rd_T45 x1 x5).f2)) || (!(((rd_T45 x0 x5).f3) == ((rd_T45 x1 x5).f3)) || (!(((rd_T45 x0 x5).f4) == ((rd_T45 x1 x5).f4)) || (!(((rd_T45 x0 x5).f5) == ((rd_T45 x1 x5).f5)) || (!(((rd_T45 x0 x5).f6) == ((rd_T45 x1 x5).f6))))))))) = true then (some false) else (mullionlaw05_same.l0 k x0 x1 (wrap64 (x5 + 1)))) else (none)) else (none)) else (some true)
def mullionlaw05_same.f (k : Nat) (l0 : List (S45)) (l1 : List (S45)) : Option (Bool) := if (l0.length : Int) = (l1.length : Int) then (mullionlaw05_same.l0 k l0 l1 0) else (some false)
theorem mullionlaw05_same.mono_l : ∀ k, (∀ y0 y1 y2, LeO (mullionlaw05_same.l0 k y0 y1 y2) (mullionlaw05_same.l0 (k + 1) y0 y1 y2))
 | 0 => fun _ _ _ r h => by simp [mullionlaw05_same.l0] at h
 | k + 1 => by
   have ih0 := mullionlaw05_same.mono_l k
   · intro y0 y1 y2
     unfold mullionlaw05_same.l0
     repeat' first
     | (with_reducible exact ih0 _ _ _)
     | (with_reducible exact LeO.refl _)
     | (with_reducible exact LeO.none _)
     | (with_reducible refine LeO.ite ?_ ?_)
     | (with_reducible refine LeO.bind ?_ (fun _ => ?_))
     | exact ih0 _ _ _
     | exact LeO.none _
     | refine LeO.ite ?_ ?_
     | refine LeO.bind ?_ (fun _ => ?_)
theorem mullionlaw05_same.mono : ∀ a0 a1 k, LeO (mullionlaw05_same.f k a0 a1) (mullionlaw05_same.f (k + 1) a0 a1) := by
 intro a0 a1 k
 have ih0 := mullionlaw05_same.mono_l k
 unfold mullionlaw05_same.f
 repeat' first
     | (with_reducible exact ih0 _ _ _)
     | (with_reducible exact LeO.refl _)
     | (with_reducible exact LeO.none _)
     | (with_reducible refine LeO.ite ?_ ?_)
     | (with_reducible refine LeO.bind ?_ (fun _ => ?_))
     | exact ih0 _ _ _
     | exact LeO.none _
     | refine LeO.ite ?_ ?_
     | refine LeO.bind ?_ (fun _ => ?_)
set_option maxHeartbeats 8000000 in
set_option maxRecDepth 100000 in
theorem mullionlaw05_same.calls (k : Nat) (A0 : Option Addr) (c0 : Nat) (l0 : List (S45)) (A1 : Option Addr) (c1 : Nat) (l1 : List (S45)) (r : Bool) (w : World) (hr0 : Kd.C k45 w A0 l0.length l0) (hc0 : l0.length ≤ c0) (hr1 : Kd.C k45 w A1 l1.length l1) (hc1 : l1.length ≤ c1) (h : mullionlaw05_same.f k l0 l1 = some r) :
   Calls Tryd.prog 13 #[.slice A0 l0.length c0, .slice A1 l1.length c1] w fun e w' => e = .returned (.bool r) ∧ Drawn0 w w' := by
 have hu45 := Tryd.underlying45
 have HR0 := Aside0.mk hr0
 have HC0 := Aside0.mk hc0
 clear hr0 hc0
 have HR1 := Aside0.mk hr1
 have HC1 := Aside0.mk hc1
 clear hr1 hc1
 have H : (if (l0.length : Int) = (l1.length : Int) then (mullionlaw05_same.l0 k l0 l1 0) else (some false)) = some r := h
 clear h
 by_cases c3 : (l0.length : Int) = (l1.length : Int)
 · rw [if_pos c3] at H
   have c3b0 : ((l0.length : Int) == (l1.length : Int)) = true := beq_iff_eq.mpr c3
   have c3b1 : ((l0.length : Int) != (l1.length : Int)) = false := bne_eq_false_iff_eq.mpr c3
   have c3b2 : (l0.length == l1.length) = true := by first | simpa using c3 | (simp at c3 ⊢; omega)
   clear c3
   have H' := Aside0.mk H
   clear H
   go_enter Tryd.func13, Tryd.ntmps13
   go_wp2
   repeat (go_quiet (fail); try go_wp2)
   go_loopg [5] k (fun kq v5 w' => ∃ (x5_1 : Int), v5 = .int .i64 x5_1 ∧ Aside0 (mullionlaw05_same.l0 kq l0 l1 x5_1 = some r) ∧ Aside0 (kq ≤ k) ∧ Drawn0 w w')
   case atStart => exact ⟨(0), (by first | rfl | (simp; done) | (simp [*]; done)), H', ⟨Nat.le_refl _⟩, by repeat (first | exact Drawn0.refl _ | apply Drawn0.step)⟩
   case round =>
     clear H'
     try clear c1
     try clear p2
     try clear c3
     try clear c3b0
     try clear c3b1
     try clear c3b2
     obtain ⟨x5_1, rfl, HA, HK1, ⟨m1, rfl⟩⟩ := hrel
     cases gk with
     | zero => exact absurd HA.out (by simp [mullionlaw05_same.l0])
     | succ k1 =>
       have H := HA.out
       clear HA
       simp only [mullionlaw05_same.l0] at H
       by_cases c4 : x5_1 < (l0.length : Int)
       · rw [if_pos c4] at H
         have c4b0 : decide (x5_1 < (l0.length : Int)) = true := decide_eq_true c4
         clear c4
         by_cases c5 : 0 ≤ x5_1
         · rw [if_pos c5] at H
           have c5b0 : decide (0 ≤ x5_1) = true := decide_eq_true c5
           clear c5
           by_cases c6 : x5_1 < (l1.length : Int)
           · rw [if_pos c6] at H
             have c6b0 : decide (x5_1 < (l1.length : Int)) = true := decide_eq_true c6
             clear c6
             by_cases c7 : (!(((rd_T45 l0 x5_1).f0) == ((rd_T45 l1 x5_1).f0)) || (!(((rd_T45 l0 x5_1).f1) == ((rd_T45 l1 x5_1).f1)) || (!(((rd_T45 l0 x5_1).f2) == ((rd_T45 l1 x5_1).f2)) || (!(((rd_T45 l0 x5_1).f3) == ((rd_T45 l1 x5_1).f3)) || (!(((rd_T45 l0 x5_1).f4) == ((rd_T45 l1 x5_1).f4)) || (!(((rd_T45 l0 x5_1).f5) == ((rd_T45 l1 x5_1).f5)) || (!(((rd_T45 l0 x5_1).f6) == ((rd_T45 l1 x5_1).f6))))))))) = true
             · rw [if_pos c7] at H
               have c7b0 : (!(((rd_T45 l0 x5_1).f0) == ((rd_T45 l1 x5_1).f0)) || (!(((rd_T45 l0 x5_1).f1) == ((rd_T45 l1 x5_1).f1)) || (!(((rd_T45 l0 x5_1).f2) == ((rd_T45 l1 x5_1).f2)) || (!(((rd_T45 l0 x5_1).f3) == ((rd_T45 l1 x5_1).f3)) || (!(((rd_T45 l0 x5_1).f4) == ((rd_T45 l1 x5_1).f4)) || (!(((rd_T45 l0 x5_1).f5) == ((rd_T45 l1 x5_1).f5)) || (!(((rd_T45 l0 x5_1).f6) == ((rd_T45 l1 x5_1).f6))))))))) = true := c7
               clear c7
               obtain rfl := Option.some.inj H
               have p215 : 0 ≤ (x5_1 : Int) := of_decide_eq_true (by first | (with_reducible assumption) | assumption)
               have q215 : x5_1 < (l0.length : Int) := of_decide_eq_true (by first | (with_reducible assumption) | assumption)
               obtain ⟨ad215, e215, hx215_0, hx215_1, hx215_2, hx215_3, hx215_4, hx215_5, hx215_6⟩ := at_T45 HR0.out x5_1 p215 q215
               cases e215
               replace p215 := eq_true p215
               replace q215 := eq_true q215
               have p216 : 0 ≤ (x5_1 : Int) := of_decide_eq_true (by first | (with_reducible assumption) | assumption)
               have q216 : x5_1 < (l1.length : Int) := of_decide_eq_true (by first | (with_reducible assumption) | assumption)
               obtain ⟨ad216, e216, hx216_0, hx216_1, hx216_2, hx216_3, hx216_4, hx216_5, hx216_6⟩ := at_T45 HR1.out x5_1 p216 q216
               cases e216
               replace p216 := eq_true p216
               replace q216 := eq_true q216
               go_wp2
               repeat (go_quiet (fail); try go_wp2)
               go_ret
               exact ⟨by first | rfl | (simp; done) | (simp [*]; done), by repeat (first | exact Drawn0.refl _ | apply Drawn0.step)⟩
             · rw [if_neg c7] at H
               have c7b0 : (!(((rd_T45 l0 x5_1).f0) == ((rd_T45 l1 x5_1).f0)) || (!(((rd_T45 l0 x5_1).f1) == ((rd_T45 l1 x5_1).f1)) || (!(((rd_T45 l0 x5_1).f2) == ((rd_T45 l1 x5_1).f2)) || (!(((rd_T45 l0 x5_1).f3) == ((rd_T45 l1 x5_1).f3)) || (!(((rd_T45 l0 x5_1).f4) == ((rd_T45 l1 x5_1).f4)) || (!(((rd_T45 l0 x5_1).f5) == ((rd_T45 l1 x5_1).f5)) || (!(((rd_T45 l0 x5_1).f6) == ((rd_T45 l1 x5_1).f6))))))))) = false := by simpa using c7
               clear c7
               have H' := Aside0.mk H
               clear H
               have p215 : 0 ≤ (x5_1 : Int) := of_decide_eq_true (by first | (with_reducible assumption) | assumption)
               have q215 : x5_1 < (l0.length : Int) := of_decide_eq_true (by first | (with_reducible assumption) | assumption)
               obtain ⟨ad215, e215, hx215_0, hx215_1, hx215_2, hx215_3, hx215_4, hx215_5, hx215_6⟩ := at_T45 HR0.out x5_1 p215 q215
               cases e215
               replace p215 := eq_true p215
               replace q215 := eq_true q215
               have p216 : 0 ≤ (x5_1 : Int) := of_decide_eq_true (by first | (with_reducible assumption) | assumption)
               have q216 : x5_1 < (l1.length : Int) := of_decide_eq_true (by first | (with_reducible assumption) | assumption)
               obtain ⟨ad216, e216, hx216_0, hx216_1, hx216_2, hx216_3, hx216_4, hx216_5, hx216_6⟩ := at_T45 HR1.out x5_1 p216 q216
               cases e216
               replace p216 := eq_true p216
               replace q216 := eq_true q216
               go_wp2
               repeat (go_quiet (fail); try go_wp2)
               go_roundg k1
               case measure => have := HK1.out; omega
               case rel => exact ⟨(wrap64 (x5_1 + 1)), (by first | rfl | (simp; done) | (simp [*]; done)), H', ⟨by have := HK1.out; omega⟩, by repeat (first | exact Drawn0.refl _ | apply Drawn0.step)⟩
           · rw [if_neg c6] at H
             exact absurd H (by simp)
         · rw [if_neg c5] at H
           exact absurd H (by simp)
       · rw [if_neg c4] at H
         have c4b0 : decide (x5_1 < (l0.length : Int)) = false := decide_eq_false c4
         clear c4
         obtain rfl := Option.some.inj H
         go_wp2
         repeat (go_quiet (fail); try go_wp2)
         go_ret
         exact ⟨by first | rfl | (simp; done) | (simp [*]; done), by repeat (first | exact Drawn0.refl _ | apply Drawn0.step)⟩
 · rw [if_neg c3] at H
   have c3b0 : ((l0.length : Int) == (l1.length : Int)) = false := beq_eq_false_iff_ne.mpr c3
   have c3b1 : ((l0.length : Int) != (l1.length : Int)) = true := bne_iff_ne.mpr c3
   have c3b2 : (l0.length == l1.length) = false := by first | simpa using c3 | (simp at c3 ⊢; omega)
   obtain rfl := Option.some.inj H
   go_enter Tryd.func13, Tryd.ntmps13
   go_wp2
   repeat (go_quiet (fail); try go_wp2)
   go_ret
   exact ⟨by first | rfl | (simp; done) | (simp [*]; done), by repeat (first | exact Drawn0.refl _ | apply Drawn0.step)⟩
def mullionlaw05_sure.f (k : Nat)  : Option (Bool) := (some (([(⟨0, 1, 0, 0, 80, 24, 1⟩ : S45)] : List (S45)) : List (S45))).bind fun y217 => ((plan_Text.f y217).bind fun bt220 => ((plan_Parse.f (⟨#[98, 50, 53, 101, 44, 56, 48, 120, 50, 52, 44, 48, 44, 48, 44, 49]⟩ : ByteArray)).bind fun bt222 => (if bt220.1.toList = ([98, 50, 53, 101, 44, 56, 48, 120, 50, 52, 44, 48, 44, 48, 44, 49] : List UInt8) then (if bt220.2 = 0 then ((mullionlaw05_same.f k bt222.1 y217).bind fun t226 => (if t226 = true then (some (bt222.2 == 0)) else (some false))) else (some false)) else (some false))))
theorem mullionlaw05_sure.mono : ∀ k, LeO (mullionlaw05_sure.f k ) (mullionlaw05_sure.f (k + 1) ) := by
 intro  k
 unfold mullionlaw05_sure.f
 repeat' first
     | (with_reducible exact mullionlaw05_same.mono _ _ _)
     | (with_reducible exact LeO.refl _)
     | (with_reducible exact LeO.none _)
     | (with_reducible refine LeO.ite ?_ ?_)
     | (with_reducible refine LeO.bind ?_ (fun _ => ?_))
     | exact mullionlaw05_same.mono _ _ _
     | exact LeO.none _
     | refine LeO.ite ?_ ?_
     | refine LeO.bind ?_ (fun _ => ?_)
set_option maxHeartbeats 8000000 in
set_option maxRecDepth 100000 in
theorem mullionlaw05_sure.calls (k : Nat)  (r : Bool) (w : World) (HG : Aside0 (Glb w)) (h : mullionlaw05_sure.f k  = some r) :
   Calls Tryd.prog 14 #[] w fun e w' => e = .returned (.bool r) ∧ Below w.heap.size w w' := by
 have hu45 := Tryd.underlying45
 have HB := Aside0.mk (Below.refl w.heap.size w)
 have H : ((some (([(⟨0, 1, 0, 0, 80, 24, 1⟩ : S45)] : List (S45)) : List (S45))).bind fun y217 => ((plan_Text.f y217).bind fun bt220 => ((plan_Parse.f (⟨#[98, 50, 53, 101, 44, 56, 48, 120, 50, 52, 44, 48, 44, 48, 44, 49]⟩ : ByteArray)).bind fun bt222 => (if bt220.1.toList = ([98, 50, 53, 101, 44, 56, 48, 120, 50, 52, 44, 48, 44, 48, 44, 49] : List UInt8) then (if bt220.2 = 0 then ((mullionlaw05_same.f k bt222.1 y217).bind fun t226 => (if t226 = true then (some (bt222.2 == 0)) else (some false))) else (some false)) else (some false))))) = some r := h
 clear h
 obtain ⟨y217, hy217⟩ : ∃ y_ : List (S45), y_ = (([(⟨0, 1, 0, 0, 80, 24, 1⟩ : S45)] : List (S45))) := ⟨_, rfl⟩
 replace H : ((plan_Text.f y217).bind fun bt220 => ((plan_Parse.f (⟨#[98, 50, 53, 101, 44, 56, 48, 120, 50, 52, 44, 48, 44, 48, 44, 49]⟩ : ByteArray)).bind fun bt222 => (if bt220.1.toList = ([98, 50, 53, 101, 44, 56, 48, 120, 50, 52, 44, 48, 44, 48, 44, 49] : List UInt8) then (if bt220.2 = 0 then ((mullionlaw05_same.f k bt222.1 y217).bind fun t226 => (if t226 = true then (some (bt222.2 == 0)) else (some false))) else (some false)) else (some false)))) = some r := by first | (rw [hy217]; with_reducible exact H) | (have H2_ := (Option.bind_some _ _).symm.trans H; rw [hy217]; with_reducible exact H2_) | (have H2_ := (Option.bind_some _ _).symm.trans H; with_reducible exact H2_) | with_reducible exact H | (rw [hy217]; exact H) | exact H
 have Ny217 := Aside0.mk hy217
 clear hy217
 replace H := Option.bind_eq_some_iff.mp H
 obtain ⟨⟨t220, t221⟩, A10, H⟩ := H
 replace H : ((plan_Parse.f (⟨#[98, 50, 53, 101, 44, 56, 48, 120, 50, 52, 44, 48, 44, 48, 44, 49]⟩ : ByteArray)).bind fun bt222 => (if t220.toList = ([98, 50, 53, 101, 44, 56, 48, 120, 50, 52, 44, 48, 44, 48, 44, 49] : List UInt8) then (if t221 = 0 then ((mullionlaw05_same.f k bt222.1 y217).bind fun t226 => (if t226 = true then (some (bt222.2 == 0)) else (some false))) else (some false)) else (some false))) = some r := H
 have A1 := Aside0.mk A10
 clear A10
 replace H := Option.bind_eq_some_iff.mp H
 obtain ⟨⟨t222, t223⟩, A20, H⟩ := H
 replace H : (if t220.toList = ([98, 50, 53, 101, 44, 56, 48, 120, 50, 52, 44, 48, 44, 48, 44, 49] : List UInt8) then (if t221 = 0 then ((mullionlaw05_same.f k t222 y217).bind fun t226 => (if t226 = true then (some (t223 == 0)) else (some false))) else (some false)) else (some false)) = some r := H
 have A2 := Aside0.mk A20
 clear A20
 by_cases c3 : t220.toList = ([98, 50, 53, 101, 44, 56, 48, 120, 50, 52, 44, 48, 44, 48, 44, 49] : List UInt8)
 · rw [if_pos c3] at H
   have c3b0 : (t220.toList == ([98, 50, 53, 101, 44, 56, 48, 120, 50, 52, 44, 48, 44, 48, 44, 49] : List UInt8)) = true := beq_iff_eq.mpr c3
   have c3b1 : (t220.toList != ([98, 50, 53, 101, 44, 56, 48, 120, 50, 52, 44, 48, 44, 48, 44, 49] : List UInt8)) = false := bne_eq_false_iff_eq.mpr c3
   clear c3
   by_cases c4 : t221 = 0
   · rw [if_pos c4] at H
     have c4b0 : (t221 == 0) = true := beq_iff_eq.mpr c4
     have c4b1 : (t221 != 0) = false := bne_eq_false_iff_eq.mpr c4
     clear c4
     replace H := Option.bind_eq_some_iff.mp H
     obtain ⟨t226, A50, H⟩ := H
     replace H : (if t226 = true then (some (t223 == 0)) else (some false)) = some r := H
     have A5 := Aside0.mk A50
     clear A50
     by_cases c6 : t226 = true
     · subst c6
       have H1 : (some (t223 == 0)) = some r := by rw [if_pos rfl] at H; exact H
       clear H
       have H := H1
       clear H1
       obtain rfl := Option.some.inj H
       go_enter Tryd.func14, Tryd.ntmps14
       go_wp2_with (first | ((with_reducible refine gate_dst (N := 7) rfl ?_); refine Kd.R_lit k45 _ 45 ?hg (N := 7) ?hd (xs := ([(⟨0, 1, 0, 0, 80, 24, 1⟩ : S45)] : List (S45))) (inner := [.int .i64 0, .int .i64 1, .int .i64 0, .int .i64 0, .int .i64 80, .int .i64 24, .int .i64 1]) (ok := fun _ => True) (okp := fun _ => True) ?hr ?hp (fun _ hk => hk) trivial (Below.refl _ _) (Nat.le_refl _) (by simp) ?_; (case hd => rfl); (case hg => rfl); (case hr => first | (go_simp; done) | (go_simp; rfl)); (case hp => exact (Reps.c7 (show Kd.M k45 _ _ _ (⟨0, 1, 0, 0, 80, 24, 1⟩ : S45) [.int .i64 0, .int .i64 1, .int .i64 0, .int .i64 0, .int .i64 80, .int .i64 24, .int .i64 1] from (k45_mkM _ _ _ (⟨0, 1, 0, 0, 80, 24, 1⟩ : S45) )) (Reps.none _ _))); intro v218 w7 ho8 hb hg_ hnew_; clear hg_ hnew_; (first | rw [← Ny217.out] at ho8 | (simp only [Int.reduceToNat] at ho8; rw [← Ny217.out] at ho8)); have n0_ := Aside0.mk (Kd.R_lower ho8 (below_size (by repeat (first | (with_reducible first | exact HB.out | apply below_alloc | apply pw_below_drewN | apply below_drew1) | exact HB.out)))); have n1_ := Aside0.mk (below_step (by repeat (first | (with_reducible first | exact HB.out | apply below_alloc | apply pw_below_drewN | apply below_drew1) | exact HB.out)) hb); clear HB; have HO219 := n0_; have HB := n1_; clear n0_ n1_; clear hb ho8; obtain ⟨Ao9, co9, eo9⟩ := Kd.R_slice HO219.out; subst eo9) | ((with_reducible refine gate_callee (f := 11) rfl ?_); refine goesL_ (some 10) rfl rfl Tryd.func11 (by kernel_rfl) rfl #[.slice Ao9 y217.length co9] rfl (by (try simp only [List.map_toArray, List.map_cons, List.map_nil]); first | done | rfl | (simp only [List.length_drop, List.length_take]; rfl)) ?_; (with_reducible refine (plan_Text.calls _ _ y217 t220 t221 _ (by exact Aside0.mk (Glb.below HG.out (by repeat (first | (with_reducible first | exact HB.out | apply below_alloc | apply pw_below_drewN | apply below_drew1) | exact HB.out)))) ?side1 ?side2 A1.out).mono ?_); (case side1 => repeat (first | exact (Kd.R_reads' HO219.out).2.2 | (with_reducible refine Kd.C_alloc ?_ _) | (with_reducible refine Kd.C_drewN ?_ _) | (with_reducible refine Kd.C_drew ?_))); (case side2 => exact (Kd.R_reads' HO219.out).2.1); rintro e w10 ⟨rfl, hb⟩; refine ⟨_, rfl, ?_⟩; have n0_ := Aside0.mk (Kd.R_below (by (with_reducible repeat (first | apply Kd.R_alloc | apply Kd.R_drewN | apply Kd.R_drew)); exact HO219.out) hb); have n1_ := Aside0.mk (below_step (by repeat (first | (with_reducible first | exact HB.out | apply below_alloc | apply pw_below_drewN | apply below_drew1) | exact HB.out)) hb); clear HO219; clear HB; have HO219 := n0_; have HB := n1_; clear n0_ n1_; (try clear hb); (try clear hb2); (try clear hk); (try clear hi)) | ((with_reducible refine gate_callee (f := 15) rfl ?_); refine goesL_ (some 14) rfl rfl Tryd.func15 (by kernel_rfl) rfl #[.string (⟨#[98, 50, 53, 101, 44, 56, 48, 120, 50, 52, 44, 48, 44, 48, 44, 49]⟩ : ByteArray)] rfl (by (try simp only [List.map_toArray, List.map_cons, List.map_nil]); first | done | rfl | (simp only [List.length_drop, List.length_take]; rfl)) ?_; (with_reducible refine (plan_Parse.calls (⟨#[98, 50, 53, 101, 44, 56, 48, 120, 50, 52, 44, 48, 44, 48, 44, 49]⟩ : ByteArray) t222 t223 _ (by exact Aside0.mk (Glb.below HG.out (by repeat (first | (with_reducible first | exact HB.out | apply below_alloc | apply pw_below_drewN | apply below_drew1) | exact HB.out)))) A2.out).mono ?_); rintro e w11 ⟨v224, rfl, ho0, hb⟩; refine ⟨_, rfl, ?_⟩; have n0_ := Aside0.mk (Kd.R_elder' (by (with_reducible repeat (first | apply Kd.R_alloc | apply Kd.R_drewN | apply Kd.R_drew)); exact HO219.out) (Kd.R_base ho0) hb); have n1_ := Aside0.mk (Kd.R_lower (Kd.R_new' ho0 (Kd.R_lt (by (with_reducible repeat (first | apply Kd.R_alloc | apply Kd.R_drewN | apply Kd.R_drew)); exact HO219.out))) (below_size (by repeat (first | (with_reducible first | exact HB.out | apply below_alloc | apply pw_below_drewN | apply below_drew1) | exact HB.out)))); have n2_ := Aside0.mk (below_step (by repeat (first | (with_reducible first | exact HB.out | apply below_alloc | apply pw_below_drewN | apply below_drew1) | exact HB.out)) hb); clear HO219; clear HB; have HO219 := n0_; have HO225 := n1_; have HB := n2_; clear n0_ n1_ n2_; (try clear hb); (try clear hb2); (try clear hk); (try clear hi); (try clear ho0); obtain ⟨Ao12, co12, eo12⟩ := Kd.R_slice HO225.out; subst eo12) | (go_at_call 13; (with_reducible refine (mullionlaw05_same.calls k _ _ t222 _ _ y217 true _ ?side1 ?side2 ?side3 ?side4 A5.out).mono ?_); (case side1 => repeat (first | exact (Kd.R_reads' HO225.out).2.2 | (with_reducible refine Kd.C_alloc ?_ _) | (with_reducible refine Kd.C_drewN ?_ _) | (with_reducible refine Kd.C_drew ?_))); (case side2 => exact (Kd.R_reads' HO225.out).2.1); (case side3 => repeat (first | exact (Kd.R_reads' HO219.out).2.2 | (with_reducible refine Kd.C_alloc ?_ _) | (with_reducible refine Kd.C_drewN ?_ _) | (with_reducible refine Kd.C_drew ?_))); (case side4 => exact (Kd.R_reads' HO219.out).2.1); rintro e w' ⟨rfl, ⟨nd, rfl⟩⟩))
       go_ret
       exact ⟨by first | rfl | (simp [errW_none, errW_some] <;> rfl) | (simp [*, errW_none, errW_some] <;> rfl), by repeat (first | (with_reducible first | exact HB.out | apply below_alloc | apply pw_below_drewN | apply below_drew1) | exact HB.out)⟩
     · replace c6 := Bool.eq_false_iff.mpr c6
       subst c6
       have H1 : (some false) = some r := by rw [if_neg (show ¬ (false = true) by decide)] at H; exact H
       clear H
       have H := H1
       clear H1
       obtain rfl := Option.some.inj H
       go_enter Tryd.func14, Tryd.ntmps14
       go_wp2_with (first | ((with_reducible refine gate_dst (N := 7) rfl ?_); refine Kd.R_lit k45 _ 45 ?hg (N := 7) ?hd (xs := ([(⟨0, 1, 0, 0, 80, 24, 1⟩ : S45)] : List (S45))) (inner := [.int .i64 0, .int .i64 1, .int .i64 0, .int .i64 0, .int .i64 80, .int .i64 24, .int .i64 1]) (ok := fun _ => True) (okp := fun _ => True) ?hr ?hp (fun _ hk => hk) trivial (Below.refl _ _) (Nat.le_refl _) (by simp) ?_; (case hd => rfl); (case hg => rfl); (case hr => first | (go_simp; done) | (go_simp; rfl)); (case hp => exact (Reps.c7 (show Kd.M k45 _ _ _ (⟨0, 1, 0, 0, 80, 24, 1⟩ : S45) [.int .i64 0, .int .i64 1, .int .i64 0, .int .i64 0, .int .i64 80, .int .i64 24, .int .i64 1] from (k45_mkM _ _ _ (⟨0, 1, 0, 0, 80, 24, 1⟩ : S45) )) (Reps.none _ _))); intro v218 w13 ho14 hb hg_ hnew_; clear hg_ hnew_; (first | rw [← Ny217.out] at ho14 | (simp only [Int.reduceToNat] at ho14; rw [← Ny217.out] at ho14)); have n0_ := Aside0.mk (Kd.R_lower ho14 (below_size (by repeat (first | (with_reducible first | exact HB.out | apply below_alloc | apply pw_below_drewN | apply below_drew1) | exact HB.out)))); have n1_ := Aside0.mk (below_step (by repeat (first | (with_reducible first | exact HB.out | apply below_alloc | apply pw_below_drewN | apply below_drew1) | exact HB.out)) hb); clear HB; have HO219 := n0_; have HB := n1_; clear n0_ n1_; clear hb ho14; obtain ⟨Ao15, co15, eo15⟩ := Kd.R_slice HO219.out; subst eo15) | ((with_reducible refine gate_callee (f := 11) rfl ?_); refine goesL_ (some 10) rfl rfl Tryd.func11 (by kernel_rfl) rfl #[.slice Ao15 y217.length co15] rfl (by (try simp only [List.map_toArray, List.map_cons, List.map_nil]); first | done | rfl | (simp only [List.length_drop, List.length_take]; rfl)) ?_; (with_reducible refine (plan_Text.calls _ _ y217 t220 t221 _ (by exact Aside0.mk (Glb.below HG.out (by repeat (first | (with_reducible first | exact HB.out | apply below_alloc | apply pw_below_drewN | apply below_drew1) | exact HB.out)))) ?side1 ?side2 A1.out).mono ?_); (case side1 => repeat (first | exact (Kd.R_reads' HO219.out).2.2 | (with_reducible refine Kd.C_alloc ?_ _) | (with_reducible refine Kd.C_drewN ?_ _) | (with_reducible refine Kd.C_drew ?_))); (case side2 => exact (Kd.R_reads' HO219.out).2.1); rintro e w16 ⟨rfl, hb⟩; refine ⟨_, rfl, ?_⟩; have n0_ := Aside0.mk (Kd.R_below (by (with_reducible repeat (first | apply Kd.R_alloc | apply Kd.R_drewN | apply Kd.R_drew)); exact HO219.out) hb); have n1_ := Aside0.mk (below_step (by repeat (first | (with_reducible first | exact HB.out | apply below_alloc | apply pw_below_drewN | apply below_drew1) | exact HB.out)) hb); clear HO219; clear HB; have HO219 := n0_; have HB := n1_; clear n0_ n1_; (try clear hb); (try clear hb2); (try clear hk); (try clear hi)) | ((with_reducible refine gate_callee (f := 15) rfl ?_); refine goesL_ (some 14) rfl rfl Tryd.func15 (by kernel_rfl) rfl #[.string (⟨#[98, 50, 53, 101, 44, 56, 48, 120, 50, 52, 44, 48, 44, 48, 44, 49]⟩ : ByteArray)] rfl (by (try simp only [List.map_toArray, List.map_cons, List.map_nil]); first | done | rfl | (simp only [List.length_drop, List.length_take]; rfl)) ?_; (with_reducible refine (plan_Parse.calls (⟨#[98, 50, 53, 101, 44, 56, 48, 120, 50, 52, 44, 48, 44, 48, 44, 49]⟩ : ByteArray) t222 t223 _ (by exact Aside0.mk (Glb.below HG.out (by repeat (first | (with_reducible first | exact HB.out | apply below_alloc | apply pw_below_drewN | apply below_drew1) | exact HB.out)))) A2.out).mono ?_); rintro e w17 ⟨v224, rfl, ho0, hb⟩; refine ⟨_, rfl, ?_⟩; have n0_ := Aside0.mk (Kd.R_elder' (by (with_reducible repeat (first | apply Kd.R_alloc | apply Kd.R_drewN | apply Kd.R_drew)); exact HO219.out) (Kd.R_base ho0) hb); have n1_ := Aside0.mk (Kd.R_lower (Kd.R_new' ho0 (Kd.R_lt (by (with_reducible repeat (first | apply Kd.R_alloc | apply Kd.R_drewN | apply Kd.R_drew)); exact HO219.out))) (below_size (by repeat (first | (with_reducible first | exact HB.out | apply below_alloc | apply pw_below_drewN | apply below_drew1) | exact HB.out)))); have n2_ := Aside0.mk (below_step (by repeat (first | (with_reducible first | exact HB.out | apply below_alloc | apply pw_below_drewN | apply below_drew1) | exact HB.out)) hb); clear HO219; clear HB; have HO219 := n0_; have HO225 := n1_; have HB := n2_; clear n0_ n1_ n2_; (try clear hb); (try clear hb2); (try clear hk); (try clear hi); (try clear ho0); obtain ⟨Ao18, co18, eo18⟩ := Kd.R_slice HO225.out; subst eo18) | (go_at_call 13; (with_reducible refine (mullionlaw05_same.calls k _ _ t222 _ _ y217 false _ ?side1 ?side2 ?side3 ?side4 A5.out).mono ?_); (case side1 => repeat (first | exact (Kd.R_reads' HO225.out).2.2 | (with_reducible refine Kd.C_alloc ?_ _) | (with_reducible refine Kd.C_drewN ?_ _) | (with_reducible refine Kd.C_drew ?_))); (case side2 => exact (Kd.R_reads' HO225.out).2.1); (case side3 => repeat (first | exact (Kd.R_reads' HO219.out).2.2 | (with_reducible refine Kd.C_alloc ?_ _) | (with_reducible refine Kd.C_drewN ?_ _) | (with_reducible refine Kd.C_drew ?_))); (case side4 => exact (Kd.R_reads' HO219.out).2.1); rintro e w' ⟨rfl, ⟨nd, rfl⟩⟩))
       go_ret
       exact ⟨by first | rfl | (simp [errW_none, errW_some] <;> rfl) | (simp [*, errW_none, errW_some] <;> rfl), by repeat (first | (with_reducible first | exact HB.out | apply below_alloc | apply pw_below_drewN | apply below_drew1) | exact HB.out)⟩
   · rw [if_neg c4] at H
     have c4b0 : (t221 == 0) = false := beq_eq_false_iff_ne.mpr c4
     have c4b1 : (t221 != 0) = true := bne_iff_ne.mpr c4
     obtain rfl := Option.some.inj H
     go_enter Tryd.func14, Tryd.ntmps14
     go_wp2_with (first | ((with_reducible refine gate_dst (N := 7) rfl ?_); refine Kd.R_lit k45 _ 45 ?hg (N := 7) ?hd (xs := ([(⟨0, 1, 0, 0, 80, 24, 1⟩ : S45)] : List (S45))) (inner := [.int .i64 0, .int .i64 1, .int .i64 0, .int .i64 0, .int .i64 80, .int .i64 24, .int .i64 1]) (ok := fun _ => True) (okp := fun _ => True) ?hr ?hp (fun _ hk => hk) trivial (Below.refl _ _) (Nat.le_refl _) (by simp) ?_; (case hd => rfl); (case hg => rfl); (case hr => first | (go_simp; done) | (go_simp; rfl)); (case hp => exact (Reps.c7 (show Kd.M k45 _ _ _ (⟨0, 1, 0, 0, 80, 24, 1⟩ : S45) [.int .i64 0, .int .i64 1, .int .i64 0, .int .i64 0, .int .i64 80, .int .i64 24, .int .i64 1] from (k45_mkM _ _ _ (⟨0, 1, 0, 0, 80, 24, 1⟩ : S45) )) (Reps.none _ _))); intro v218 w19 ho20 hb hg_ hnew_; clear hg_ hnew_; (first | rw [← Ny217.out] at ho20 | (simp only [Int.reduceToNat] at ho20; rw [← Ny217.out] at ho20)); have n0_ := Aside0.mk (Kd.R_lower ho20 (below_size (by repeat (first | (with_reducible first | exact HB.out | apply below_alloc | apply pw_below_drewN | apply below_drew1) | exact HB.out)))); have n1_ := Aside0.mk (below_step (by repeat (first | (with_reducible first | exact HB.out | apply below_alloc | apply pw_below_drewN | apply below_drew1) | exact HB.out)) hb); clear HB; have HO219 := n0_; have HB := n1_; clear n0_ n1_; clear hb ho20; obtain ⟨Ao21, co21, eo21⟩ := Kd.R_slice HO219.out; subst eo21) | ((with_reducible refine gate_callee (f := 11) rfl ?_); refine goesL_ (some 10) rfl rfl Tryd.func11 (by kernel_rfl) rfl #[.slice Ao21 y217.length co21] rfl (by (try simp only [List.map_toArray, List.map_cons, List.map_nil]); first | done | rfl | (simp only [List.length_drop, List.length_take]; rfl)) ?_; (with_reducible refine (plan_Text.calls _ _ y217 t220 t221 _ (by exact Aside0.mk (Glb.below HG.out (by repeat (first | (with_reducible first | exact HB.out | apply below_alloc | apply pw_below_drewN | apply below_drew1) | exact HB.out)))) ?side1 ?side2 A1.out).mono ?_); (case side1 => repeat (first | exact (Kd.R_reads' HO219.out).2.2 | (with_reducible refine Kd.C_alloc ?_ _) | (with_reducible refine Kd.C_drewN ?_ _) | (with_reducible refine Kd.C_drew ?_))); (case side2 => exact (Kd.R_reads' HO219.out).2.1); rintro e w22 ⟨rfl, hb⟩; refine ⟨_, rfl, ?_⟩; have n0_ := Aside0.mk (Kd.R_below (by (with_reducible repeat (first | apply Kd.R_alloc | apply Kd.R_drewN | apply Kd.R_drew)); exact HO219.out) hb); have n1_ := Aside0.mk (below_step (by repeat (first | (with_reducible first | exact HB.out | apply below_alloc | apply pw_below_drewN | apply below_drew1) | exact HB.out)) hb); clear HO219; clear HB; have HO219 := n0_; have HB := n1_; clear n0_ n1_; (try clear hb); (try clear hb2); (try clear hk); (try clear hi)) | ((with_reducible refine gate_callee (f := 15) rfl ?_); refine goesL_ (some 14) rfl rfl Tryd.func15 (by kernel_rfl) rfl #[.string (⟨#[98, 50, 53, 101, 44, 56, 48, 120, 50, 52, 44, 48, 44, 48, 44, 49]⟩ : ByteArray)] rfl (by (try simp only [List.map_toArray, List.map_cons, List.map_nil]); first | done | rfl | (simp only [List.length_drop, List.length_take]; rfl)) ?_; (with_reducible refine (plan_Parse.calls (⟨#[98, 50, 53, 101, 44, 56, 48, 120, 50, 52, 44, 48, 44, 48, 44, 49]⟩ : ByteArray) t222 t223 _ (by exact Aside0.mk (Glb.below HG.out (by repeat (first | (with_reducible first | exact HB.out | apply below_alloc | apply pw_below_drewN | apply below_drew1) | exact HB.out)))) A2.out).mono ?_); rintro e w23 ⟨v224, rfl, ho0, hb⟩; refine ⟨_, rfl, ?_⟩; have n0_ := Aside0.mk (Kd.R_elder' (by (with_reducible repeat (first | apply Kd.R_alloc | apply Kd.R_drewN | apply Kd.R_drew)); exact HO219.out) (Kd.R_base ho0) hb); have n1_ := Aside0.mk (Kd.R_lower (Kd.R_new' ho0 (Kd.R_lt (by (with_reducible repeat (first | apply Kd.R_alloc | apply Kd.R_drewN | apply Kd.R_drew)); exact HO219.out))) (below_size (by repeat (first | (with_reducible first | exact HB.out | apply below_alloc | apply pw_below_drewN | apply below_drew1) | exact HB.out)))); have n2_ := Aside0.mk (below_step (by repeat (first | (with_reducible first | exact HB.out | apply below_alloc | apply pw_below_drewN | apply below_drew1) | exact HB.out)) hb); clear HO219; clear HB; have HO219 := n0_; have HO225 := n1_; have HB := n2_; clear n0_ n1_ n2_; (try clear hb); (try clear hb2); (try clear hk); (try clear hi); (try clear ho0)))
     go_ret
     exact ⟨by first | rfl | (simp [errW_none, errW_some] <;> rfl) | (simp [*, errW_none, errW_some] <;> rfl), by repeat (first | (with_reducible first | exact HB.out | apply below_alloc | apply pw_below_drewN | apply below_drew1) | exact HB.out)⟩
 · rw [if_neg c3] at H
   have c3b0 : (t220.toList == ([98, 50, 53, 101, 44, 56, 48, 120, 50, 52, 44, 48, 44, 48, 44, 49] : List UInt8)) = false := beq_eq_false_iff_ne.mpr c3
   have c3b1 : (t220.toList != ([98, 50, 53, 101, 44, 56, 48, 120, 50, 52, 44, 48, 44, 48, 44, 49] : List UInt8)) = true := bne_iff_ne.mpr c3
   obtain rfl := Option.some.inj H
   go_enter Tryd.func14, Tryd.ntmps14
   go_wp2_with (first | ((with_reducible refine gate_dst (N := 7) rfl ?_); refine Kd.R_lit k45 _ 45 ?hg (N := 7) ?hd (xs := ([(⟨0, 1, 0, 0, 80, 24, 1⟩ : S45)] : List (S45))) (inner := [.int .i64 0, .int .i64 1, .int .i64 0, .int .i64 0, .int .i64 80, .int .i64 24, .int .i64 1]) (ok := fun _ => True) (okp := fun _ => True) ?hr ?hp (fun _ hk => hk) trivial (Below.refl _ _) (Nat.le_refl _) (by simp) ?_; (case hd => rfl); (case hg => rfl); (case hr => first | (go_simp; done) | (go_simp; rfl)); (case hp => exact (Reps.c7 (show Kd.M k45 _ _ _ (⟨0, 1, 0, 0, 80, 24, 1⟩ : S45) [.int .i64 0, .int .i64 1, .int .i64 0, .int .i64 0, .int .i64 80, .int .i64 24, .int .i64 1] from (k45_mkM _ _ _ (⟨0, 1, 0, 0, 80, 24, 1⟩ : S45) )) (Reps.none _ _))); intro v218 w24 ho25 hb hg_ hnew_; clear hg_ hnew_; (first | rw [← Ny217.out] at ho25 | (simp only [Int.reduceToNat] at ho25; rw [← Ny217.out] at ho25)); have n0_ := Aside0.mk (Kd.R_lower ho25 (below_size (by repeat (first | (with_reducible first | exact HB.out | apply below_alloc | apply pw_below_drewN | apply below_drew1) | exact HB.out)))); have n1_ := Aside0.mk (below_step (by repeat (first | (with_reducible first | exact HB.out | apply below_alloc | apply pw_below_drewN | apply below_drew1) | exact HB.out)) hb); clear HB; have HO219 := n0_; have HB := n1_; clear n0_ n1_; clear hb ho25; obtain ⟨Ao26, co26, eo26⟩ := Kd.R_slice HO219.out; subst eo26) | ((with_reducible refine gate_callee (f := 11) rfl ?_); refine goesL_ (some 10) rfl rfl Tryd.func11 (by kernel_rfl) rfl #[.slice Ao26 y217.length co26] rfl (by (try simp only [List.map_toArray, List.map_cons, List.map_nil]); first | done | rfl | (simp only [List.length_drop, List.length_take]; rfl)) ?_; (with_reducible refine (plan_Text.calls _ _ y217 t220 t221 _ (by exact Aside0.mk (Glb.below HG.out (by repeat (first | (with_reducible first | exact HB.out | apply below_alloc | apply pw_below_drewN | apply below_drew1) | exact HB.out)))) ?side1 ?side2 A1.out).mono ?_); (case side1 => repeat (first | exact (Kd.R_reads' HO219.out).2.2 | (with_reducible refine Kd.C_alloc ?_ _) | (with_reducible refine Kd.C_drewN ?_ _) | (with_reducible refine Kd.C_drew ?_))); (case side2 => exact (Kd.R_reads' HO219.out).2.1); rintro e w27 ⟨rfl, hb⟩; refine ⟨_, rfl, ?_⟩; have n0_ := Aside0.mk (Kd.R_below (by (with_reducible repeat (first | apply Kd.R_alloc | apply Kd.R_drewN | apply Kd.R_drew)); exact HO219.out) hb); have n1_ := Aside0.mk (below_step (by repeat (first | (with_reducible first | exact HB.out | apply below_alloc | apply pw_below_drewN | apply below_drew1) | exact HB.out)) hb); clear HO219; clear HB; have HO219 := n0_; have HB := n1_; clear n0_ n1_; (try clear hb); (try clear hb2); (try clear hk); (try clear hi)) | ((with_reducible refine gate_callee (f := 15) rfl ?_); refine goesL_ (some 14) rfl rfl Tryd.func15 (by kernel_rfl) rfl #[.string (⟨#[98, 50, 53, 101, 44, 56, 48, 120, 50, 52, 44, 48, 44, 48, 44, 49]⟩ : ByteArray)] rfl (by (try simp only [List.map_toArray, List.map_cons, List.map_nil]); first | done | rfl | (simp only [List.length_drop, List.length_take]; rfl)) ?_; (with_reducible refine (plan_Parse.calls (⟨#[98, 50, 53, 101, 44, 56, 48, 120, 50, 52, 44, 48, 44, 48, 44, 49]⟩ : ByteArray) t222 t223 _ (by exact Aside0.mk (Glb.below HG.out (by repeat (first | (with_reducible first | exact HB.out | apply below_alloc | apply pw_below_drewN | apply below_drew1) | exact HB.out)))) A2.out).mono ?_); rintro e w28 ⟨v224, rfl, ho0, hb⟩; refine ⟨_, rfl, ?_⟩; have n0_ := Aside0.mk (Kd.R_elder' (by (with_reducible repeat (first | apply Kd.R_alloc | apply Kd.R_drewN | apply Kd.R_drew)); exact HO219.out) (Kd.R_base ho0) hb); have n1_ := Aside0.mk (Kd.R_lower (Kd.R_new' ho0 (Kd.R_lt (by (with_reducible repeat (first | apply Kd.R_alloc | apply Kd.R_drewN | apply Kd.R_drew)); exact HO219.out))) (below_size (by repeat (first | (with_reducible first | exact HB.out | apply below_alloc | apply pw_below_drewN | apply below_drew1) | exact HB.out)))); have n2_ := Aside0.mk (below_step (by repeat (first | (with_reducible first | exact HB.out | apply below_alloc | apply pw_below_drewN | apply below_drew1) | exact HB.out)) hb); clear HO219; clear HB; have HO219 := n0_; have HO225 := n1_; have HB := n2_; clear n0_ n1_ n2_; (try clear hb); (try clear hb2); (try clear hk); (try clear hi); (try clear ho0)))
   go_ret
   exact ⟨by first | rfl | (simp [errW_none, errW_some] <;> rfl) | (simp [*, errW_none, errW_some] <;> rfl), by repeat (first | (with_reducible first | exact HB.out | apply below_alloc | apply pw_below_drewN | apply below_drew1) | exact HB.out)⟩
def mullionlaw05_PlanTexts.f (k : Nat) (l0 : List (S45)) : Option (Bool) := (some (([] : List (S45)) : List (S45))).bind fun y227 => (if y227.length + l0.length < 2513169434916 then ((some (y227 ++ l0 : List (S45))).bind fun y230 => ((plan_Text.f l0).bind fun bt233 => ((mullionref05_Text.f k y230).bind fun bt235 => (if bt233.1.toList = bt235.1.toList then (if bt233.2 = bt235.2 then ((mullionlaw05_same.f k l0 y230).bind fun t237 => (if t237 = true then ((mullionlaw05_sure.f k).bind fun t238 => (some t238)) else (some false))) else (some false)) else (some false))))) else (none))
def mullionref05_hex.f (a0 : Int) : Option (Bool) := if a0 ≥ 48 then (if a0 ≤ 57 then (some true) else (if a0 ≥ 97 then (some (decide (a0 ≤ 102))) else (some false))) else (if a0 ≥ 97 then (some (decide (a0 ≤ 102))) else (some false))
set_option maxHeartbeats 8000000 in
set_option maxRecDepth 100000 in
theorem mullionref05_hex.calls (a0 : Int) (r : Bool) (w : World) (h : mullionref05_hex.f a0 = some r) :
   Calls Tryd.prog 31 #[.int .u8 a0] w fun e w' => e = .returned (.bool r) ∧ Drawn0 w w' := by
 have H : (if a0 ≥ 48 then (if a0 ≤ 57 then (some true) else (if a0 ≥ 97 then (some (decide (a0 ≤ 102))) else (some false))) else (if a0 ≥ 97 then (some (decide (a0 ≤ 102))) else (some false))) = some r := h
 clear h
 by_cases c2 : a0 ≥ 48
 · rw [if_pos c2] at H
   have c2b0 : decide (48 ≤ a0) = true := decide_eq_true c2
   clear c2
   by_cases c3 : a0 ≤ 57
   · rw [if_pos c3] at H
     have c3b0 : decide (a0 ≤ 57) = true := decide_eq_true c3
     clear c3
     obtain rfl := Option.some.inj H
     go_enter Tryd.func31, Tryd.ntmps31
     go_wp2
     go_ret
     exact ⟨by first | rfl | (simp; done) | (simp [*]; done), by repeat (first | exact Drawn0.refl _ | apply Drawn0.step)⟩
   · rw [if_neg c3] at H
     have c3b0 : decide (a0 ≤ 57) = false := decide_eq_false c3
     clear c3
     by_cases c4 : a0 ≥ 97
     · rw [if_pos c4] at H
       have c4b0 : decide (97 ≤ a0) = true := decide_eq_true c4
       clear c4
       obtain rfl := Option.some.inj H
       go_enter Tryd.func31, Tryd.ntmps31
       go_wp2
       go_ret
       exact ⟨by first | rfl | (simp; done) | (simp [*]; done), by repeat (first | exact Drawn0.refl _ | apply Drawn0.step)⟩
     · rw [if_neg c4] at H
       have c4b0 : decide (97 ≤ a0) = false := decide_eq_false c4
       clear c4
       obtain rfl := Option.some.inj H
       go_enter Tryd.func31, Tryd.ntmps31
       go_wp2
       go_ret
       exact ⟨by first | rfl | (simp; done) | (simp [*]; done), by repeat (first | exact Drawn0.refl _ | apply Drawn0.step)⟩
 · rw [if_neg c2] at H
   have c2b0 : decide (48 ≤ a0) = false := decide_eq_false c2
   clear c2
   by_cases c5 : a0 ≥ 97
   · rw [if_pos c5] at H
     have c5b0 : decide (97 ≤ a0) = true := decide_eq_true c5
     clear c5
     obtain rfl := Option.some.inj H
     go_enter Tryd.func31, Tryd.ntmps31
     go_wp2
     go_ret
     exact ⟨by first | rfl | (simp; done) | (simp [*]; done), by repeat (first | exact Drawn0.refl _ | apply Drawn0.step)⟩
   · rw [if_neg c5] at H
     have c5b0 : decide (97 ≤ a0) = false := decide_eq_false c5
     clear c5
     obtain rfl := Option.some.inj H
     go_enter Tryd.func31, Tryd.ntmps31
     go_wp2
     go_ret
     exact ⟨by first | rfl | (simp; done) | (simp [*]; done), by repeat (first | exact Drawn0.refl _ | apply Drawn0.step)⟩
end Go.Proofs.YtmpnkckaohfflaaDoor.L
end
section
namespace Go.Proofs.YtmpnkckaohfflaaDoor.Num
open Go.Lib
set_option linter.unusedVariables false
theorem dec_big (u : Nat) (h : ¬ u < 10) : decDigits u = decDigits (u / 10) ++ [UInt8.ofNat (48 + u % 10)] := by
 rw [decDigits, dif_neg h]
theorem byte_nat (d : Nat) (h : d < 10) : (UInt8.ofNat (48 + d)).toNat = 48 + d := by
 rw [UInt8.toNat_ofNat']
 omega
theorem dec_digit (u : Nat) : ∀ c ∈ decDigits u, 48 ≤ c.toNat ∧ c.toNat ≤ 57 := by
 induction u using Nat.strongRecOn with
 | _ u ih =>
   intro c hc
   by_cases h : u < 10
   · rw [decDigits_one h, List.mem_singleton] at hc
     subst hc
     rw [byte_nat u h]
     omega
   · rw [dec_big u h, List.mem_append, List.mem_singleton] at hc
     rcases hc with hc | rfl
     · exact ih (u / 10) (by omega) c hc
     · rw [byte_nat _ (by omega)]
       omega
theorem dec_ne (u : Nat) : decDigits u ≠ [] := by
 by_cases h : u < 10
 · rw [decDigits_one h]
   simp
 · rw [dec_big u h]
   simp
theorem dec_len (d : Nat) : ∀ u, u < 10 ^ (d + 1) → (decDigits u).length ≤ d + 1 := by
 induction d with
 | zero =>
   intro u h
   rw [decDigits_one (by omega)]
   simp
 | succ d ih =>
   intro u h
   by_cases h1 : u < 10
   · rw [decDigits_one h1]
     simp
   · rw [dec_big u h1, List.length_append, List.length_singleton]
     have h2 : u / 10 < 10 ^ (d + 1) := by
       rw [Nat.pow_succ] at h
       omega
     have := ih _ h2
     omega
def val : Nat → List UInt8 → Nat
 | a, [] => a
 | a, c :: r => val (10 * a + (c.toNat - 48)) r
theorem val_append (l m : List UInt8) : ∀ a, val a (l ++ m) = val (val a l) m := by
 induction l with
 | nil => intro a; rfl
 | cons c r ih => intro a; exact ih _
theorem val_ge (l : List UInt8) : ∀ a, a ≤ val a l := by
 induction l with
 | nil => intro a; exact Nat.le_refl a
 | cons c r ih =>
   intro a
   have := ih (10 * a + (c.toNat - 48))
   show a ≤ val (10 * a + (c.toNat - 48)) r
   omega
theorem val_dec (u : Nat) : val 0 (decDigits u) = u := by
 induction u using Nat.strongRecOn with
 | _ u ih =>
   by_cases h : u < 10
   · rw [decDigits_one h]
     show 10 * 0 + ((UInt8.ofNat (48 + u)).toNat - 48) = u
     rw [byte_nat u h]
     omega
   · rw [dec_big u h, val_append, ih (u / 10) (by omega)]
     show 10 * (u / 10) + ((UInt8.ofNat (48 + u % 10)).toNat - 48) = u
     rw [byte_nat _ (by omega)]
     omega
theorem parse_val (l : List UInt8) : ∀ a, (∀ c ∈ l, 48 ≤ c.toNat ∧ c.toNat ≤ 57) → val a l < 18446744073709551616 → parseUint10 a l = .ok (val a l) := by
 induction l with
 | nil => intro a _ _; rfl
 | cons c r ih =>
   intro a hd hv
   have hc := hd c (List.mem_cons_self)
   have hv' : val (10 * a + (c.toNat - 48)) r < 18446744073709551616 := hv
   have hg := val_ge r (10 * a + (c.toNat - 48))
   unfold parseUint10
   rw [if_pos hc, if_neg (by omega), if_neg (by omega)]
   have e : a * 10 + (c.toNat - 48) = 10 * a + (c.toNat - 48) := by omega
   rw [e]
   exact ih _ (fun d hm => hd d (List.mem_cons_of_mem _ hm)) hv'
theorem atoiAll_dec (u : Nat) (h : u ≤ 4611686018427387904) : atoiAll (decDigits u) = .ok (u : Int) := by
 have hd := dec_digit u
 have hp := parse_val (decDigits u) 0 hd (by rw [val_dec]; omega)
 rw [val_dec] at hp
 cases e : decDigits u with
 | nil => exact absurd e (dec_ne u)
 | cons c r =>
   rw [e] at hd hp
   have hc := hd c (List.mem_cons_self)
   rw [atoiAll_plain c r (by omega) (by omega)]
   unfold parseMag
   rw [if_neg (by simp), hp]
   unfold signless
   simp only
   first
   | rw [if_neg (by omega)]
   | (simp; omega)
theorem putNum_nat (u : Nat) (h : u ≤ 4611686018427387904) : putNum (u : Int) = decDigits u := by
 rw [putNum_in _ (by omega) (by omega), itoa_nonneg]
theorem putNum_cases (n : Int) : ((n < 0 ∨ 4611686018427387904 < n) ∧ putNum n = []) ∨ ∃ u : Nat, n = u ∧ u ≤ 4611686018427387904 ∧ putNum n = decDigits u := by
 by_cases h : n < 0 ∨ 4611686018427387904 < n
 · exact .inl ⟨h, putNum_out n h⟩
 · obtain ⟨u, rfl⟩ := Int.eq_ofNat_of_zero_le (show 0 ≤ n by omega)
   exact .inr ⟨u, rfl, by omega, putNum_nat u (by omega)⟩
theorem numOf_dec (u : Nat) (h : u ≤ 4611686018427387904) : numOf (decDigits u) = ((u : Int), true) := by
 rw [numOf_ok (atoiAll_dec u h), if_neg (by omega), putNum_nat u h, if_pos rfl]
theorem numOf_nil : numOf [] = (0, false) := numOf_bad (fun v h => by cases h)
theorem numOf_not (l : List UInt8) (h : ∀ u : Nat, u ≤ 4611686018427387904 → l ≠ decDigits u) : numOf l = (0, false) := by
 cases e : atoiAll l with
 | ok v =>
   rw [numOf_ok e]
   by_cases hv : v < 0
   · rw [if_pos hv]
   · rw [if_neg hv]
     by_cases hp : l = putNum v
     · rcases putNum_cases v with ⟨_, p⟩ | ⟨u, _, hu, p⟩
       · rw [hp, p] at e
         cases e
       · exact absurd (hp.trans p) (h u hu)
     · rw [if_neg hp]
 | _ => exact numOf_bad (fun v h => by rw [e] at h; cases h)
theorem numOf_cases (l : List UInt8) : (∃ u : Nat, u ≤ 4611686018427387904 ∧ l = decDigits u ∧ numOf l = ((u : Int), true)) ∨ numOf l = (0, false) := by
 by_cases h : ∃ u : Nat, u ≤ 4611686018427387904 ∧ l = decDigits u
 · obtain ⟨u, hu, rfl⟩ := h
   exact .inl ⟨u, hu, rfl, numOf_dec u hu⟩
 · refine .inr (numOf_not l fun u hu e => h ⟨u, hu, e⟩)
end Go.Proofs.YtmpnkckaohfflaaDoor.Num
end
section
namespace Go.Proofs.YtmpnkckaohfflaaDoor.PGiv
open Go.RowKit Go.Proofs.YtmpnkckaohfflaaDoor.K Go.Proofs.YtmpnkckaohfflaaDoor.Num
set_option linter.unusedVariables false
set_option linter.unusedSimpArgs false
def seg (B : List UInt8) (a b : Nat) : List UInt8 := (B.drop a).take (b - a)
theorem seg_app (B : List UInt8) {a b c : Nat} (h1 : a ≤ b) (h2 : b ≤ c) : seg B a b ++ seg B b c = seg B a c := by
 unfold seg
 have e : B.drop b = (B.drop a).drop (b - a) := by rw [List.drop_drop]; congr 1; omega
 rw [e, show c - a = (b - a) + (c - b) by omega, List.take_add]
theorem seg_one (B : List UInt8) {a : Nat} (h : a < B.length) : seg B a (a + 1) = [B[a]] := by
 unfold seg
 rw [show a + 1 - a = 1 by omega, List.drop_eq_getElem_cons h]
 rfl
theorem seg_extract (s : ByteArray) (a b : Nat) : (s.extract a b).data.toList = seg s.data.toList a b := by
 unfold seg
 rw [ByteArray.data_extract, Array.toList_extract, List.extract_eq_take_drop]
abbrev By (s : ByteArray) : List UInt8 := s.data.toList
theorem by_len (s : ByteArray) : (By s).length = s.size := rfl
theorem next_seg {s : ByteArray} {a a' : Nat} {c : UInt8} (h : rdNext s a = some (c, a')) : a' = a + 1 ∧ a < s.size ∧ seg (By s) a a' = [c] := by
 unfold rdNext at h
 split at h
 · rename_i ha
   obtain ⟨rfl, rfl⟩ := Prod.mk.inj (Option.some.inj h)
   exact ⟨rfl, ha, seg_one _ (by rw [by_len]; exact ha)⟩
 · cases h
theorem must_seg {s : ByteArray} {a a' : Nat} {c : UInt8} (h : rdMust s a c = some a') : a' = a + 1 ∧ a < s.size ∧ seg (By s) a a' = [c] := by
 unfold rdMust at h
 split at h
 · cases h
 · rename_i d a1 h1
   split at h
   · rename_i hd
     obtain rfl := Option.some.inj h
     subst hd
     exact next_seg h1
   · cases h
theorem number_seg {s : ByteArray} {a a' : Nat} {n : Int} (ha : a ≤ s.size) (h : rdNumber s a = some (n, a')) : a < a' ∧ a' ≤ s.size ∧ seg (By s) a a' = putNum n ∧ 0 ≤ n ∧ n ≤ 4611686018427387904 := by
 have hl := number_le ha h
 unfold rdNumber at h
 split at h
 · rename_i hn
   obtain ⟨rfl, rfl⟩ := Prod.mk.inj (Option.some.inj h)
   rw [seg_extract] at hn ⊢
   rcases numOf_cases (seg (By s) a (digEnd (s.size - a) s a)) with ⟨u, hu, hd, hq⟩ | hq
   · rw [hq]
     refine ⟨?_, hl.2, by rw [putNum_nat u hu]; exact hd, by simp, by simp; omega⟩
     rcases Nat.lt_or_ge a (digEnd (s.size - a) s a) with h' | h'
     · exact h'
     · exfalso
       have e : digEnd (s.size - a) s a - a = 0 := by omega
       have : seg (By s) a (digEnd (s.size - a) s a) = [] := by unfold seg; rw [e]; rfl
       rw [this] at hd
       exact dec_ne u hd.symm
   · rw [hq] at hn
     cases hn
 · cases h
structure GoodC (s : ByteArray) (a a' : Nat) (d : Int) (C : List S45) : Prop where
 head : ∃ x r, C = x :: r ∧ x.f0 = d ∧ ∀ y ∈ r, d < y.f0
 ok : ∀ x ∈ C, okC x
 lt : a < a'
 le : a' ≤ s.size
 txt : ∀ (F : Nat) (P Q : List S45), 2 * C.length ≤ F → (∀ y, Q.head? = some y → y.f0 ≤ d) → cellF F (P ++ C ++ Q) P.length = some (seg (By s) a a', P.length + C.length)
structure GoodL (s : ByteArray) (a a' : Nat) (d : Int) (sh : UInt8) (C : List S45) : Prop where
 head : ∃ x r, C = x :: r ∧ x.f0 = d + 1
 deep : ∀ y ∈ C, d < y.f0
 ok : ∀ x ∈ C, okC x
 lt : a < a'
 le : a' ≤ s.size
 txt : ∃ body, seg (By s) a a' = body ++ [sh] ∧ ∀ (F : Nat) (P Q : List S45) (first : Bool), 2 * C.length + 1 ≤ F → (∀ y, Q.head? = some y → y.f0 ≤ d) → cellL F (P ++ C ++ Q) d first P.length = some ((if first then [] else [44]) ++ body, P.length + C.length)
theorem at_head (P Q : List S45) (x : S45) (r : List S45) : (P ++ (x :: r) ++ Q)[P.length]? = some x := by simp
theorem at_end (P C Q : List S45) : (P ++ C ++ Q)[P.length + C.length]? = Q.head? := by
 rw [List.getElem?_append_right (by simp), List.length_append, Nat.sub_self]
 cases Q <;> rfl
theorem cellL_end {F : Nat} {P C Q : List S45} {d : Int} {first : Bool} (hF : 0 < F) (hQ : ∀ y, Q.head? = some y → y.f0 ≤ d) : cellL F (P ++ C ++ Q) d first (P.length + C.length) = some ([], P.length + C.length) := by
 obtain ⟨F, rfl⟩ : ∃ m, F = m + 1 := ⟨F - 1, by omega⟩
 rw [cellL, at_end]
 cases h : Q.head? with
 | none => rfl
 | some y =>
   have := hQ y h
   simp only
   rw [if_neg (by omega)]
theorem good_read : ∀ k, (∀ (s : ByteArray) (a : Nat) (L : List S45) (d : Int) (L' : List S45) (a' : Nat), s.size ≤ 1000000 → 0 ≤ d → d ≤ a → a ≤ s.size → cellR k s a L d = some (some (L', a')) → ∃ C, L' = L ++ C ∧ GoodC s a a' d C) ∧
   (∀ (s : ByteArray) (a : Nat) (L : List S45) (d : Int) (sh : UInt8) (L' : List S45) (a' : Nat), s.size ≤ 1000000 → 0 ≤ d → d + 1 ≤ a → a ≤ s.size → loopR k s a L d sh = some (some (L', a')) → ∃ C, L' = L ++ C ∧ GoodL s a a' d sh C) := by
 intro k
 induction k with
 | zero => exact ⟨fun s a L d L' a' _ _ _ _ h => by simp [cellR] at h, fun s a L d sh L' a' _ _ _ _ h => by simp [loopR] at h⟩
 | succ k ih =>
   obtain ⟨ih1, ih2⟩ := ih
   constructor
   · intro s a L d L' a' hs hd hda ha h
     rw [cellR] at h
     split at h
     · simp at h
     rename_i W a1 h1
     obtain ⟨l1, m1, t1, p1, q1⟩ := number_seg ha h1
     split at h
     · simp at h
     rename_i a2 h2
     obtain ⟨l2, m2, t2⟩ := must_seg h2
     split at h
     · simp at h
     rename_i H a3 h3
     obtain ⟨l3, m3, t3, p3, q3⟩ := number_seg (by omega) h3
     split at h
     · simp at h
     rename_i a4 h4
     obtain ⟨l4, m4, t4⟩ := must_seg h4
     split at h
     · simp at h
     rename_i X a5 h5
     obtain ⟨l5, m5, t5, p5, q5⟩ := number_seg (by omega) h5
     split at h
     · simp at h
     rename_i a6 h6
     obtain ⟨l6, m6, t6⟩ := must_seg h6
     split at h
     · simp at h
     rename_i Y a7 h7
     obtain ⟨l7, m7, t7, p7, q7⟩ := number_seg (by omega) h7
     split at h
     · simp at h
     rename_i c a8 h8
     obtain ⟨l8, m8, t8⟩ := next_seg h8
     have hhead : ∀ kd q, seg (By s) a a7 = headT ⟨d, kd, X, Y, W, H, q⟩ := fun kd q => by
       show _ = putNum W ++ [120] ++ putNum H ++ [44] ++ putNum X ++ [44] ++ putNum Y
       have e : seg (By s) a a1 ++ seg (By s) a1 a2 ++ seg (By s) a2 a3 ++ seg (By s) a3 a4 ++ seg (By s) a4 a5 ++ seg (By s) a5 a6 ++ seg (By s) a6 a7 = seg (By s) a a7 := by
         rw [seg_app _ (by omega) (by omega), seg_app _ (by omega) (by omega), seg_app _ (by omega) (by omega), seg_app _ (by omega) (by omega), seg_app _ (by omega) (by omega), seg_app _ (by omega) (by omega)]
       rw [t1, t2, t3, t4, t5, t6, t7] at e
       exact e.symm
     have hok : ∀ kd q, 0 ≤ q → q ≤ 4611686018427387904 → okC ⟨d, kd, X, Y, W, H, q⟩ := fun kd q h0 h1 => ⟨⟨by show _ ≤ X; omega, by show X ≤ _; omega⟩, ⟨by show _ ≤ Y; omega, by show Y ≤ _; omega⟩, ⟨by show _ ≤ W; omega, by show W ≤ _; omega⟩, ⟨by show _ ≤ H; omega, by show H ≤ _; omega⟩, ⟨by show _ ≤ q; omega, by show q ≤ _; omega⟩⟩
     have hloop : ∀ (kd : Int) (op sh : UInt8), kd ≠ 1 → c = op → (if kd = 3 then (91 : UInt8) else 123) = op → (if kd = 3 then (93 : UInt8) else 125) = sh → loopR k s a8 (L ++ [⟨d, kd, X, Y, W, H, 0⟩]) d sh = some (some (L', a')) → ∃ C, L' = L ++ C ∧ GoodC s a a' d C := by
       intro kd op sh hk1 hc hop hsh hl
       obtain ⟨C, rfl, G⟩ := ih2 s a8 _ d sh L' a' hs hd (by omega) (by omega) hl
       obtain ⟨body, hb, ht⟩ := G.txt
       have hlt := G.lt
       refine ⟨⟨d, kd, X, Y, W, H, 0⟩ :: C, by simp, ⟨⟨_, _, rfl, rfl, G.deep⟩, ?_, by omega, G.le, ?_⟩⟩
       · intro x hx
         rcases List.mem_cons.1 hx with rfl | hx
         · exact hok kd 0 (by omega) (by omega)
         · exact G.ok x hx
       · intro F P Q hF hQ
         obtain ⟨F, rfl⟩ : ∃ m, F = m + 1 := ⟨F - 1, by simp at hF; omega⟩
         rw [cellF, at_head]
         simp only
         rw [if_neg hk1]
         have e : P ++ (⟨d, kd, X, Y, W, H, 0⟩ : S45) :: C ++ Q = (P ++ [⟨d, kd, X, Y, W, H, 0⟩]) ++ C ++ Q := by simp
         have el : P.length + 1 = (P ++ [(⟨d, kd, X, Y, W, H, 0⟩ : S45)]).length := by simp
         rw [e, el, ht F _ Q true (by simp at hF; omega) hQ]
         simp only [Option.map_some, if_true, List.nil_append, Option.some.injEq, Prod.mk.injEq]
         refine ⟨?_, by simp; omega⟩
         rw [hop, hsh, ← hhead kd 0, ← hc, ← t8, List.append_assoc, ← hb, seg_app _ (by omega) (by omega), seg_app _ (by omega) (by omega)]
     split at h
     · rename_i hc
       split at h
       · simp at h
       · rename_i q a9 h9
         obtain ⟨l9, m9, t9, p9, q9⟩ := number_seg (by omega) h9
         simp only [Option.some.injEq, Prod.mk.injEq] at h
         obtain ⟨rfl, rfl⟩ := h
         refine ⟨[⟨d, 1, X, Y, W, H, q⟩], rfl, ⟨⟨_, [], rfl, rfl, by simp⟩, ?_, by omega, m9, ?_⟩⟩
         · intro x hx
           rw [List.mem_singleton] at hx
           subst hx
           exact hok 1 q p9 q9
         · intro F P Q hF hQ
           obtain ⟨F, rfl⟩ : ∃ m, F = m + 1 := ⟨F - 1, by simp at hF; omega⟩
           rw [cellF, at_head]
           simp only [if_true, Option.some.injEq, Prod.mk.injEq]
           refine ⟨?_, by simp⟩
           have e8 : [44] = seg (By s) a7 a8 := by rw [t8, hc]
           rw [← hhead 1 q, e8, ← t9, seg_app _ (by omega) (by omega), seg_app _ (by omega) (by omega)]
     · split at h
       · rename_i hc
         exact hloop 2 123 125 (by omega) hc rfl rfl h
       · split at h
         · rename_i hc
           exact hloop 3 91 93 (by omega) hc rfl rfl h
         · simp at h
   · intro s a L d sh L' a' hs hd hda ha h
     rw [loopR] at h
     obtain ⟨r, hr, h⟩ := Option.bind_eq_some_iff.1 h
     have hw : wrap64 (d + 1) = d + 1 := IntWalk.wrap64_in _ (by omega)
     split at h
     · simp at h
     rename_i L1 b1
     rw [hw] at hr
     obtain ⟨C1, rfl, G1⟩ := ih1 s a L (d + 1) L1 b1 hs (by omega) hda ha hr
     have lt1 := G1.lt
     have le1 := G1.le
     obtain ⟨x1, r1, hC1, hx1, hr1⟩ := G1.head
     have len1 : 1 ≤ C1.length := by rw [hC1]; simp
     have deep1 : ∀ y ∈ C1, d < y.f0 := by
       intro y hy
       rw [hC1] at hy
       rcases List.mem_cons.1 hy with rfl | hy
       · omega
       · have := hr1 y hy
         omega
     split at h
     · simp at h
     rename_i c b2 h2
     obtain ⟨l2, m2, t2⟩ := next_seg h2
     split at h
     · rename_i hc
       simp only [Option.some.injEq, Prod.mk.injEq] at h
       obtain ⟨rfl, rfl⟩ := h
       refine ⟨C1, rfl, ⟨⟨x1, r1, hC1, hx1⟩, deep1, G1.ok, by omega, by omega, seg (By s) a b1, ?_, ?_⟩⟩
       · rw [← hc, ← t2, seg_app _ (by omega) (by omega)]
       · intro F P Q first hF hQ
         obtain ⟨F, rfl⟩ : ∃ m, F = m + 1 := ⟨F - 1, by omega⟩
         have hg := G1.txt F P Q (by omega) (fun y hy => by have := hQ y hy; omega)
         rw [cellL, hC1, at_head]
         simp only
         rw [if_pos (by omega), ← hC1, hg]
         simp only [Option.bind_some]
         rw [cellL_end (by omega) hQ]
         simp
     · split at h
       · rename_i hc
         obtain ⟨C2, rfl, G2⟩ := ih2 s b2 _ d sh L' a' hs hd (by omega) (by omega) h
         obtain ⟨x2, r2, hC2, hx2⟩ := G2.head
         obtain ⟨body2, hb2, ht2⟩ := G2.txt
         have lt2 := G2.lt
         refine ⟨C1 ++ C2, by simp, ⟨⟨x1, r1 ++ C2, by rw [hC1]; rfl, hx1⟩, ?_, ?_, by omega, G2.le, seg (By s) a b1 ++ [44] ++ body2, ?_, ?_⟩⟩
         · intro y hy
           rcases List.mem_append.1 hy with hy | hy
           · exact deep1 y hy
           · exact G2.deep y hy
         · intro y hy
           rcases List.mem_append.1 hy with hy | hy
           · exact G1.ok y hy
           · exact G2.ok y hy
         · rw [← hc, ← t2, List.append_assoc, ← hb2, seg_app _ (by omega) (by omega), seg_app _ (by omega) (by omega)]
         · intro F P Q first hF hQ
           obtain ⟨F, rfl⟩ : ∃ m, F = m + 1 := ⟨F - 1, by omega⟩
           rw [List.length_append] at hF
           have hg := G1.txt F P (C2 ++ Q) (by omega) (fun y hy => by rw [hC2] at hy; simp at hy; rw [← hy]; omega)
           have e1 : P ++ (C1 ++ C2) ++ Q = P ++ C1 ++ (C2 ++ Q) := by simp
           have e2 : P ++ C1 ++ (C2 ++ Q) = (P ++ C1) ++ C2 ++ Q := by simp
           have hg2 := ht2 F (P ++ C1) Q false (by omega) hQ
           rw [List.length_append] at hg2
           rw [e1, cellL]
           have hh : (P ++ C1 ++ (C2 ++ Q))[P.length]? = some x1 := by rw [hC1]; exact at_head _ _ _ _
           rw [hh]
           simp only
           rw [if_pos (by omega), hg]
           simp only [Option.bind_some]
           rw [e2, hg2]
           simp only [Option.map_some, Bool.false_eq_true, if_false, Option.some.injEq, Prod.mk.injEq, List.length_append]
           refine ⟨by simp, by omega⟩
       · simp at h
end Go.Proofs.YtmpnkckaohfflaaDoor.PGiv
end
section
namespace Go.Proofs.YtmpnkckaohfflaaDoor.Txt
open Go.RowKit Go.Proofs.YtmpnkckaohfflaaDoorW.PrintWords
set_option linter.unusedVariables false
abbrev S (l : List UInt8) : ByteArray := ⟨l.toArray⟩
abbrev nums (l : List UInt8) : List Int := l.map fun b => (b.toNat : Int)
theorem S_of (s : ByteArray) : s = S s.data.toList := (Lib.mk_data s).symm
theorem data_len (s : ByteArray) : s.data.toList.length = s.size := (Lib.size_eq s).symm
theorem S_size (l : List UInt8) : (S l).size = l.length := by simp [ByteArray.size]
theorem S_toList (l : List UInt8) : (S l).toList = l := by rw [Lib.toList_data]
theorem S_app (a b : List UInt8) : S a ++ S b = S (a ++ b) := by
 apply ByteArray.ext
 simp [S]
theorem S_nums (l : List UInt8) : strOfNums (nums l) = S l := by
 unfold strOfNums nums
 congr 2
 rw [List.map_map]
 have e : ((fun n : Int => UInt8.ofNat n.toNat) ∘ fun b : UInt8 => (b.toNat : Int)) = id := by
   funext b
   simp
 rw [e, List.map_id]
theorem S_extract (l : List UInt8) (a b : Nat) : (S l).extract a b = S ((l.drop a).take (b - a)) := by
 rw [Lib.extract_eq]
theorem bt_mid (pre suf : List UInt8) (c : UInt8) (i : Int) (hi : i = pre.length) : bt (S (pre ++ c :: suf)) i = (c.toNat : Int) := by
 subst hi
 unfold bt
 have h : ((pre.length : Int)).toNat < (S (pre ++ c :: suf)).size := by rw [S_size]; simp
 rw [dif_pos h]
 congr 2
 simp [ByteArray.getElem_eq_getElem_data]
theorem bt_head (c : UInt8) (r : List UInt8) : bt (S (c :: r)) 0 = (c.toNat : Int) := bt_mid [] r c 0 rfl
theorem ext (a b : UInt8) (h : a.toNat = b.toNat) : a = b := UInt8.toNat_inj.1 h
theorem byte_ne {a b : UInt8} (h : a ≠ b) : ¬ (a.toNat : Int) = (b.toNat : Int) := fun e => h (ext _ _ (by omega))
end Go.Proofs.YtmpnkckaohfflaaDoor.Txt
end
section
namespace Go.Proofs.YtmpnkckaohfflaaDoor.Sm
open Go.RowKit Go.Proofs.YtmpnkckaohfflaaDoor.Txt Go.Proofs.YtmpnkckaohfflaaDoorW.PrintWords
set_option linter.unusedVariables false
def step (n c : Int) : Int := (n / 2 + n % 2 * 32768 + c) % 65536
def sumFrom (n : Int) (l : List UInt8) : Int := l.foldl (fun n c => step n (c.toNat : Int)) n
def sum (l : List UInt8) : Int := sumFrom 0 l
theorem step_range (n c : Int) : 0 ≤ step n c ∧ step n c ≤ 65535 := by unfold step; omega
theorem sumFrom_range (l : List UInt8) : ∀ n, 0 ≤ n → n ≤ 65535 → 0 ≤ sumFrom n l ∧ sumFrom n l ≤ 65535 := by
 induction l with
 | nil => intro n h0 h1; exact ⟨h0, h1⟩
 | cons c l ih => intro n _ _; exact ih _ (step_range _ _).1 (step_range _ _).2
theorem sum_range (l : List UInt8) : 0 ≤ sum l ∧ sum l ≤ 65535 := sumFrom_range l 0 (by omega) (by omega)
theorem sumFrom_cons (n : Int) (c : UInt8) (l : List UInt8) : sumFrom n (c :: l) = sumFrom (step n (c.toNat : Int)) l := rfl
end Go.Proofs.YtmpnkckaohfflaaDoor.Sm
end
section
namespace Go.Proofs.YtmpnkckaohfflaaDoor.Sm
open Go.RowKit Go.Proofs.YtmpnkckaohfflaaDoor.E Go.Proofs.YtmpnkckaohfflaaDoor.Txt Go.Proofs.YtmpnkckaohfflaaDoorW.PrintWords Go.Proofs.YtmpnkckaohfflaaDoorW.PrintLast
set_option linter.unusedVariables false
theorem or_turn (a b : Nat) (ha : a < 32768) : a ||| b * 32768 = a + b * 32768 := by
 have h := Nat.two_pow_add_eq_or_of_lt (i := 15) (b := a) (by omega) b
 rw [Nat.or_comm, Nat.mul_comm b 32768]
 have e : 2 ^ 15 = 32768 := by decide
 rw [e] at h
 omega
theorem step_own (n c : Int) (h0 : 0 ≤ n) (h1 : n ≤ 65535) (c0 : 0 ≤ c) (c1 : c ≤ 255) :
   IntKind.u16.wrap ((Go.bits .or .u16 (n / 2) (IntKind.u16.wrap (n * 32768))) + IntKind.u16.wrap c) = step n c := by
 unfold step
 rw [IntKind.wrap_u16, IntKind.wrap_u16, IntKind.wrap_u16]
 have e : n * 32768 % 65536 = n % 2 * 32768 := by omega
 rw [e]
 rw [u16_or _ _ (by omega) (by omega) (by omega) (by omega)]
 obtain ⟨m, rfl⟩ := Int.eq_ofNat_of_zero_le h0
 have e1 : ((m : Int) / 2).toNat = m / 2 := by omega
 have e2 : ((m : Int) % 2 * 32768).toNat = m % 2 * 32768 := by omega
 rw [e1, e2, or_turn _ _ (by omega)]
 omega
theorem sumLoop (suf : List UInt8) : ∀ (pre : List UInt8) (k : Nat) (n i : Int), i = pre.length → 0 ≤ n → n ≤ 65535 → (pre ++ suf).length ≤ 9223372036854775806 → suf.length < k →
   plan_Sum.l0 k (S (pre ++ suf)) n i = some (sumFrom n suf) := by
 induction suf with
 | nil =>
   intro pre k n i hi n0 n1 hl hk
   obtain ⟨k, rfl⟩ : ∃ m, k = m + 1 := ⟨k - 1, by simp at hk; omega⟩
   simp only [plan_Sum.l0]
   rw [if_neg (by rw [S_size]; simp; omega)]
   congr 1
   unfold wrap64
   show _ = n
   omega
 | cons c suf ih =>
   intro pre k n i hi n0 n1 hl hk
   obtain ⟨k, rfl⟩ : ∃ m, k = m + 1 := ⟨k - 1, by simp at hk; omega⟩
   have hlen : pre.length + (suf.length + 1) ≤ 9223372036854775806 := by simpa using hl
   have e : pre ++ c :: suf = (pre ++ [c]) ++ suf := by simp
   have wi : wrap64 (i + 1) = i + 1 := by unfold wrap64; omega
   have hc : c.toNat < 256 := c.toNat_lt
   have h := ih (pre ++ [c]) k (step n (c.toNat : Int)) (i + 1) (by rw [hi]; simp) (step_range _ _).1 (step_range _ _).2 (by rw [← e]; exact hl) (by simp at hk; omega)
   simp only [plan_Sum.l0]
   rw [if_pos (by rw [S_size]; simp; omega), if_pos (by omega), bt_mid _ _ _ _ hi, wi, step_own n _ n0 n1 (by omega) (by omega), sumFrom_cons, e]
   exact h
theorem sum_f (l : List UInt8) (k : Nat) (hl : l.length ≤ 9223372036854775806) (hk : l.length < k) : plan_Sum.f k (S l) = some (sum l) :=
 sumLoop l [] k 0 0 rfl (by omega) (by omega) hl hk
end Go.Proofs.YtmpnkckaohfflaaDoor.Sm
end
section
namespace Go.Proofs.YtmpnkckaohfflaaDoor.PGiv
open Go.RowKit Go.Proofs.YtmpnkckaohfflaaDoorW.PrintWords Go.Proofs.YtmpnkckaohfflaaDoor.K Go.Proofs.YtmpnkckaohfflaaDoor.Num Go.Proofs.YtmpnkckaohfflaaDoor.Txt
set_option linter.unusedVariables false
set_option linter.unusedSimpArgs false
theorem grow_some : ∀ k, (∀ l d, l ≠ [] → 2 * l.length ≤ k → ∃ r, growF k l d = some r) ∧ (∀ c d kids sum l, 2 * l.length + 1 ≤ k → ∃ r, growL k c d kids sum l = some r) := by
 intro k
 induction k with
 | zero =>
   refine ⟨fun l d h1 h2 => ?_, fun c d kids sum l h => by omega⟩
   cases l with
   | nil => exact absurd rfl h1
   | cons x r => simp at h2
 | succ k ih =>
   obtain ⟨ih1, ih2⟩ := ih
   constructor
   · intro l d h1 h2
     cases l with
     | nil => exact absurd rfl h1
     | cons c r =>
       rw [growF]
       split
       · exact ⟨_, rfl⟩
       · exact ih2 _ _ _ _ _ (by simp at h2; omega)
   · intro c d kids sum l h
     have tail : ∀ (l : List S45), ∃ r, (if kids.length < 2 then some none else if sum = ext c.f1 c.f4 c.f5 then some (some ((⟨c.f1, c.f4, c.f5, 0, kids⟩ : Tr), l)) else some none) = some r := by
       intro l
       split
       · exact ⟨_, rfl⟩
       · split <;> exact ⟨_, rfl⟩
     cases l with
     | nil =>
       rw [growL, if_neg (by simp)]
       exact tail []
     | cons x r =>
       rw [growL]
       split
       · split
         · exact ⟨_, rfl⟩
         · obtain ⟨g, hg⟩ := ih1 (x :: r) (wrap64 (d + 1)) (by simp) (by simp at h ⊢; omega)
           rw [hg]
           cases g with
           | none => exact ⟨_, rfl⟩
           | some tr =>
             obtain ⟨t', rest'⟩ := tr
             have h1 := (grow_cnt k).1 _ _ _ _ hg
             have h2 := cntT_pos t'
             simp only [Option.bind_some]
             split
             · exact ih2 _ _ _ _ _ (by simp at h h1; omega)
             · exact ⟨_, rfl⟩
       · exact tail (x :: r)
theorem read_some (L : List S45) : ∃ r, readF L = some r := by
 cases L with
 | nil => exact ⟨_, rfl⟩
 | cons c l =>
   rw [readF]
   split
   · exact ⟨_, rfl⟩
   rename_i h64
   split
   · exact ⟨_, rfl⟩
   split
   · exact ⟨_, rfl⟩
   cases hs : seenF (c :: l) [] with
   | none => exact ⟨_, rfl⟩
   | some S =>
     simp only
     split
     · exact ⟨_, rfl⟩
     obtain ⟨g, hg⟩ := (grow_some 1000).1 (c :: l) 0 (by simp) (by omega)
     rw [hg]
     cases g with
     | none => exact ⟨_, rfl⟩
     | some tr =>
       obtain ⟨t, rest⟩ := tr
       simp only [Option.bind_some]
       split
       · exact ⟨_, rfl⟩
       · split <;> exact ⟨_, rfl⟩
theorem rd_mono : ∀ k, (∀ s a L d L' a', cellR k s a L d = some (some (L', a')) → a ≤ s.size → a < a' ∧ a' ≤ s.size) ∧ (∀ s a L d sh L' a', loopR k s a L d sh = some (some (L', a')) → a ≤ s.size → a < a' ∧ a' ≤ s.size) := by
 intro k
 induction k with
 | zero => exact ⟨fun s a L d L' a' h => by simp [cellR] at h, fun s a L d sh L' a' h => by simp [loopR] at h⟩
 | succ k ih =>
   obtain ⟨ih1, ih2⟩ := ih
   constructor
   · intro s a L d L' a' h ha
     rw [cellR] at h
     split at h
     · simp at h
     rename_i W a1 h1
     have l1 := number_le ha h1
     split at h
     · simp at h
     rename_i a2 h2
     have l2 := must_le h2
     split at h
     · simp at h
     rename_i H a3 h3
     have l3 := number_le l2.2 h3
     split at h
     · simp at h
     rename_i a4 h4
     have l4 := must_le h4
     split at h
     · simp at h
     rename_i X a5 h5
     have l5 := number_le l4.2 h5
     split at h
     · simp at h
     rename_i a6 h6
     have l6 := must_le h6
     split at h
     · simp at h
     rename_i Y a7 h7
     have l7 := number_le l6.2 h7
     split at h
     · simp at h
     rename_i c a8 h8
     have l8 := next_le h8
     split at h
     · split at h
       · simp at h
       · rename_i q a9 h9
         have l9 := number_le l8.2 h9
         simp only [Option.some.injEq, Prod.mk.injEq] at h
         obtain ⟨rfl, rfl⟩ := h
         omega
     · split at h
       · have := ih2 _ _ _ _ _ _ _ h l8.2
         omega
       · split at h
         · have := ih2 _ _ _ _ _ _ _ h l8.2
           omega
         · simp at h
   · intro s a L d sh L' a' h ha
     rw [loopR] at h
     obtain ⟨r, hr, h⟩ := Option.bind_eq_some_iff.1 h
     split at h
     · simp at h
     rename_i L1 b1
     have h1 := ih1 _ _ _ _ _ _ hr ha
     split at h
     · simp at h
     rename_i c b2 h2
     have l2 := next_le h2
     split at h
     · simp only [Option.some.injEq, Prod.mk.injEq] at h
       obtain ⟨rfl, rfl⟩ := h
       omega
     · split at h
       · have := ih2 _ _ _ _ _ _ _ h l2.2
         omega
       · simp at h
theorem rd_some : ∀ k, (∀ s a L d, a ≤ s.size → 2 * (s.size - a) + 2 ≤ k → ∃ r, cellR k s a L d = some r) ∧ (∀ s a L d sh, a ≤ s.size → 2 * (s.size - a) + 3 ≤ k → ∃ r, loopR k s a L d sh = some r) := by
 intro k
 induction k with
 | zero => exact ⟨fun s a L d _ h => by omega, fun s a L d sh _ h => by omega⟩
 | succ k ih =>
   obtain ⟨ih1, ih2⟩ := ih
   constructor
   · intro s a L d ha hk
     rw [cellR]
     split
     · exact ⟨_, rfl⟩
     rename_i W a1 h1
     have l1 := number_le ha h1
     split
     · exact ⟨_, rfl⟩
     rename_i a2 h2
     have l2 := must_le h2
     split
     · exact ⟨_, rfl⟩
     rename_i H a3 h3
     have l3 := number_le l2.2 h3
     split
     · exact ⟨_, rfl⟩
     rename_i a4 h4
     have l4 := must_le h4
     split
     · exact ⟨_, rfl⟩
     rename_i X a5 h5
     have l5 := number_le l4.2 h5
     split
     · exact ⟨_, rfl⟩
     rename_i a6 h6
     have l6 := must_le h6
     split
     · exact ⟨_, rfl⟩
     rename_i Y a7 h7
     have l7 := number_le l6.2 h7
     split
     · exact ⟨_, rfl⟩
     rename_i c a8 h8
     have l8 := next_le h8
     split
     · split <;> exact ⟨_, rfl⟩
     · split
       · exact ih2 _ _ _ _ _ l8.2 (by omega)
       · split
         · exact ih2 _ _ _ _ _ l8.2 (by omega)
         · exact ⟨_, rfl⟩
   · intro s a L d sh ha hk
     rw [loopR]
     obtain ⟨r, hr⟩ := ih1 s a L (wrap64 (d + 1)) ha (by omega)
     rw [hr]
     simp only [Option.bind_some]
     split
     · exact ⟨_, rfl⟩
     rename_i L1 b1
     have h1 := (rd_mono k).1 _ _ _ _ _ _ hr ha
     split
     · exact ⟨_, rfl⟩
     rename_i c b2 h2
     have l2 := next_le h2
     split
     · exact ⟨_, rfl⟩
     · split
       · exact ih2 _ _ _ _ _ l2.2 (by omega)
       · exact ⟨_, rfl⟩
theorem body_some (s : ByteArray) (h : s.size ≤ 2400) : ∃ r, bodyF s = some r := by
 obtain ⟨r, hr⟩ := (rd_some 5000).1 s 0 [] 0 (by omega) (by omega)
 unfold bodyF
 rw [hr]
 simp only [Option.bind_some]
 cases r with
 | none => exact ⟨_, rfl⟩
 | some p =>
   obtain ⟨L, a⟩ := p
   simp only
   split <;> exact ⟨_, rfl⟩
theorem i64_and15 (n : Int) : Go.bits .and .i64 n 15 = n % 16 := by
 have h15 : (BitVec.ofInt 64 15).toNat = 2 ^ 4 - 1 := by decide
 have key : (BitVec.ofInt 64 n &&& BitVec.ofInt 64 15).toNat = (n % ((2 ^ 64 : Nat) : Int)).toNat % 2 ^ 4 := by
   rw [BitVec.toNat_and, BitVec.toNat_ofInt, h15, Nat.and_two_pow_sub_one_eq_mod]
 show IntKind.i64.wrap ((BitVec.ofInt 64 n &&& BitVec.ofInt 64 15).toNat : Nat) = n % 16
 rw [key, IntKind.wrap_i64]
 omega
def fourT (n : Int) : ByteArray := strOfNums [bt hexD (n / 4096 % 16), bt hexD (n / 256 % 16), bt hexD (n / 16 % 16), bt hexD (n % 16)]
theorem fourT_size (n : Int) : (fourT n).size = 4 := strOfNums_size _
theorem four_eq (n : Int) : E.plan_four.f n = some (fourT n) := by
 unfold E.plan_four.f
 rw [i64_and15, i64_and15, i64_and15, i64_and15, if_pos (by omega), if_pos (by omega), if_pos (by omega), if_pos (by omega), if_pos (by omega), if_pos (by omega), if_pos (by omega), if_pos (by omega)]
 rfl
theorem sum_E (s : ByteArray) (h : s.size ≤ 100000) : E.plan_Sum.f 200000 s = some (Sm.sum (By s)) := Sm.sum_f (By s) 200000 (by rw [by_len]; omega) (by rw [by_len]; omega)
theorem by_ext {a b : ByteArray} (h : By a = By b) : a = b := (S_of a).trans ((congrArg S h).trans (S_of b).symm)
theorem by_app (a b : ByteArray) : By (a ++ b) = By a ++ By b := by simp [By]
theorem toList_by (s : ByteArray) : s.toList = By s := Lib.toList_data s
theorem by_S (l : List UInt8) : By ⟨l.toArray⟩ = l := rfl
theorem seg_all (B : List UInt8) : seg B 0 B.length = B := by simp [seg]
theorem cut_text {s : ByteArray} (h : 4 < s.size) (h4 : s[4]'h = 44) : By s = By (s.extract 0 4) ++ [44] ++ By (s.extract 5 s.size) := by
 show By s = (s.extract 0 4).data.toList ++ [44] ++ (s.extract 5 s.size).data.toList
 rw [seg_extract, seg_extract]
 have e := seg_one (By s) (a := 4) (by rw [by_len]; exact h)
 have e4 : (By s)[4]'(by rw [by_len]; exact h) = s[4]'h := rfl
 rw [e4, h4] at e
 rw [← e, seg_app _ (by omega) (by omega), seg_app _ (by omega) (by omega)]
 exact (seg_all (By s)).symm
theorem read_len {L : List S45} {t : Tr} (h : readF L = some (some t)) : L.length ≤ 64 ∧ layT t 0 0 0 = L ∧ ∃ rest, growF 1000 L 0 = some (some (t, rest)) ∧ rest = [] := by
 cases L with
 | nil => simp [readF] at h
 | cons c l =>
   rw [readF] at h
   split at h
   · simp at h
   rename_i h64
   split at h
   · simp at h
   split at h
   · simp at h
   cases hs : seenF (c :: l) [] with
   | none => rw [hs] at h; simp at h
   | some S =>
     rw [hs] at h
     simp only at h
     split at h
     · simp at h
     obtain ⟨g, hg, h⟩ := Option.bind_eq_some_iff.1 h
     cases g with
     | none => simp at h
     | some tr =>
       obtain ⟨t', rest⟩ := tr
       simp only at h
       split at h
       · simp at h
       · rename_i hr
         split at h
         · rename_i hl
           simp only [Option.some.injEq] at h
           subst h
           exact ⟨by omega, hl, rest, hg, List.length_eq_zero_iff.1 (by omega)⟩
         · simp at h
theorem text_of {L : List S45} {t : Tr} {B : List UInt8} {j : Nat} (hr : readF L = some (some t)) (hc : cellF 1000 L 0 = some (B, j)) (hok : ∀ c ∈ L, okC c) (hB : B ≠ []) (hl : B.length ≤ 100000) : plan_Text.f L = some (fourT (Sm.sum B) ++ (⟨#[44]⟩ : ByteArray) ++ ⟨B.toArray⟩, 0) := by
 unfold plan_Text.f
 rw [hr]
 simp only [Option.bind_some, Option.isSome_some, if_true]
 unfold textF
 rw [hc]
 simp only [Option.bind_some]
 rw [sum_E ⟨B.toArray⟩ hl]
 simp only [Option.bind_some]
 rw [four_eq]
 simp only [Option.bind_some]
 rw [if_pos ⟨hok, by have := (read_len hr).1; omega, hB, hl, by show (fourT _).size ≤ 1000; rw [fourT_size]; omega⟩]
 rfl
theorem parse_cases (s : ByteArray) : (∃ e : Int, e ≠ 0 ∧ plan_Parse.f s = some ([], e)) ∨ (∃ L, plan_Parse.f s = some (L, 0) ∧ plan_Text.f L = some (s, 0) ∧ layout_Check.f L = some 0) := by
 unfold plan_Parse.f
 split
 · exact .inl ⟨2, by decide, rfl⟩
 rename_i h1
 split
 · exact .inl ⟨50, by decide, rfl⟩
 rename_i h2
 split
 · exact .inl ⟨50, by decide, rfl⟩
 rename_i h3
 have h5 : 4 < s.size := by omega
 have h4 : s[4]'h5 = 44 := Classical.not_not.1 h3
 split
 · exact .inl ⟨50, by decide, rfl⟩
 have hsz : (s.extract 5 s.size).size ≤ 2043 := by rw [ByteArray.size_extract]; omega
 rw [sum_E _ (by omega)]
 simp only [Option.bind_some]
 rw [four_eq]
 simp only [Option.bind_some]
 split
 · rename_i hq
   obtain ⟨r, hr⟩ := body_some (s.extract 5 s.size) (by omega)
   unfold tailF
   rw [hr]
   simp only [Option.bind_some]
   cases r with
   | none => exact .inl ⟨50, by decide, rfl⟩
   | some L =>
     obtain ⟨rr, hrr⟩ := read_some L
     cases rr with
     | none =>
       have hck : layout_Check.f L = some 40 := by unfold layout_Check.f; rw [hrr]; rfl
       simp only
       rw [hck]
       exact .inl ⟨40, by decide, rfl⟩
     | some t =>
       have hck : layout_Check.f L = some 0 := by unfold layout_Check.f; rw [hrr]; rfl
       simp only
       rw [hck]
       refine .inr ⟨L, rfl, ?_, hck⟩
       obtain ⟨p, hp, hpr⟩ := Option.bind_eq_some_iff.1 hr
       cases p with
       | none => simp at hpr
       | some p =>
         obtain ⟨L2, a⟩ := p
         simp only at hpr
         split at hpr
         · rename_i ha
           obtain rfl := Option.some.inj (Option.some.inj hpr)
           subst ha
           obtain ⟨C, hC, G⟩ := (good_read 5000).1 _ 0 [] 0 _ _ (by omega) (by omega) (by omega) (by omega) hp
           rw [List.nil_append] at hC
           subst hC
           have hlen := (read_len hrr).1
           have hg := G.txt 1000 [] [] (by omega) (by simp)
           simp only [List.nil_append, List.append_nil, List.length_nil] at hg
           have hall : seg (By (s.extract 5 s.size)) 0 (s.extract 5 s.size).size = By (s.extract 5 s.size) := seg_all _
           rw [hall] at hg
           have hpos := G.lt
           have hne : By (s.extract 5 s.size) ≠ [] := fun e => by
             have h0 : (By (s.extract 5 s.size)).length = 0 := by rw [e]; rfl
             rw [by_len] at h0
             omega
           rw [text_of hrr hg G.ok hne (by rw [by_len]; omega)]
           rw [toList_by, toList_by] at hq
           generalize fourT (Sm.sum (By (s.extract 5 s.size))) = q at hq ⊢
           have hfin : q ++ (⟨#[44]⟩ : ByteArray) ++ ⟨(By (s.extract 5 s.size)).toArray⟩ = s := by
             apply by_ext
             rw [by_app, by_app, by_S, cut_text h5 h4, hq]
           rw [hfin]
         · simp at hpr
 · exact .inl ⟨51, by decide, rfl⟩
end Go.Proofs.YtmpnkckaohfflaaDoor.PGiv
end
section
namespace Go.Proofs.YtmpnkckaohfflaaDoor.PGiv
open Go.RowKit Go.Proofs.YtmpnkckaohfflaaDoorW.PrintWords Go.Proofs.YtmpnkckaohfflaaDoor.K Go.Proofs.YtmpnkckaohfflaaDoor.Num Go.Proofs.YtmpnkckaohfflaaDoor.Txt
set_option linter.unusedVariables false
set_option linter.unusedSimpArgs false
def sumL (kind : Int) : List Tr → Int
 | [] => 0
 | k :: r => ext kind k.w k.h + 1 + sumL kind r
mutual
def goodT : Tr → Prop
 | ⟨kind, w, h, id, kids⟩ => (1 ≤ w ∧ w ≤ 1000 ∧ 1 ≤ h ∧ h ≤ 1000) ∧ ((kind = 1 ∧ 1 ≤ id ∧ id ≤ 4611686018427387904 ∧ kids = []) ∨ ((kind = 2 ∨ kind = 3) ∧ id = 0 ∧ 2 ≤ kids.length ∧ goodL kind w h kids ∧ sumL kind kids = ext kind w h + 1))
def goodL : Int → Int → Int → List Tr → Prop
 | _, _, _, [] => True
 | kind, W, H, k :: r => k.kind ≠ kind ∧ ext (5 - kind) k.w k.h = ext (5 - kind) W H ∧ goodT k ∧ goodL kind W H r
end
theorem goodT_def (kind w h id : Int) (kids : List Tr) : goodT ⟨kind, w, h, id, kids⟩ ↔ (1 ≤ w ∧ w ≤ 1000 ∧ 1 ≤ h ∧ h ≤ 1000) ∧ ((kind = 1 ∧ 1 ≤ id ∧ id ≤ 4611686018427387904 ∧ kids = []) ∨ ((kind = 2 ∨ kind = 3) ∧ id = 0 ∧ 2 ≤ kids.length ∧ goodL kind w h kids ∧ sumL kind kids = ext kind w h + 1)) := by
 rw [goodT]
theorem goodL_snoc (kind W H : Int) (t : Tr) : ∀ ks, goodL kind W H ks → t.kind ≠ kind → ext (5 - kind) t.w t.h = ext (5 - kind) W H → goodT t → goodL kind W H (ks ++ [t])
 | [], _, h1, h2, h3 => by rw [List.nil_append, goodL, goodL]; exact ⟨h1, h2, h3, trivial⟩
 | k :: r, h, h1, h2, h3 => by
   rw [goodL] at h
   rw [List.cons_append, goodL]
   exact ⟨h.1, h.2.1, h.2.2.1, goodL_snoc kind W H t r h.2.2.2 h1 h2 h3⟩
theorem sumL_snoc (kind : Int) (t : Tr) : ∀ ks, sumL kind (ks ++ [t]) = sumL kind ks + (ext kind t.w t.h + 1)
 | [] => by simp [sumL]
 | k :: r => by
   rw [List.cons_append, sumL, sumL, sumL_snoc kind t r]
   omega
theorem good_dim {t : Tr} (h : goodT t) : 1 ≤ t.w ∧ t.w ≤ 1000 ∧ 1 ≤ t.h ∧ t.h ≤ 1000 := by
 obtain ⟨kind, w, h', id, kids⟩ := t
 exact ((goodT_def _ _ _ _ _).1 h).1
theorem ext_rng {kind W H : Int} (h : 1 ≤ W ∧ W ≤ 1000 ∧ 1 ≤ H ∧ H ≤ 1000) : 1 ≤ ext kind W H ∧ ext kind W H ≤ 1000 := by
 unfold ext
 split <;> omega
theorem sumL_rng (kind W H : Int) : ∀ ks, goodL kind W H ks → 0 ≤ sumL kind ks ∧ sumL kind ks ≤ 1001 * ks.length
 | [], _ => by simp [sumL]
 | k :: r, h => by
   rw [goodL] at h
   have h1 := sumL_rng kind W H r h.2.2.2
   have h2 := ext_rng (kind := kind) (good_dim h.2.2.1)
   rw [sumL, List.length_cons]
   push_cast
   omega
def cellOK (c : S45) : Prop := (1 ≤ c.f4 ∧ c.f4 ≤ 1000 ∧ 1 ≤ c.f5 ∧ c.f5 ≤ 1000) ∧ ((c.f1 = 1 ∧ 1 ≤ c.f6 ∧ c.f6 ≤ 4611686018427387904) ∨ (c.f1 = 2 ∨ c.f1 = 3))
def panes (l : List S45) : List Int := (l.filter fun c => c.f1 == 1).map fun c => c.f6
theorem seen_ok : ∀ (l : List S45) (S S' : List Int), seenF l S = some S' → (∀ c ∈ l, cellOK c) ∧ S'.length = (panes l).length + S.length
 | [], S, S', h => by
   rw [seenF] at h
   obtain rfl := Option.some.inj h
   simp [panes]
 | c :: r, S, S', h => by
   rw [seenF_step] at h
   split at h
   · cases h
   rename_i hb
   split at h
   · rename_i hk
     split at h
     · cases h
     rename_i hid
     have hid1 : idB c.f6 = true := by
       cases hx : idB c.f6
       · exact absurd (Or.inl hx) hid
       · rfl
     simp [idB] at hid1
     obtain ⟨h1, h2⟩ := seen_ok r _ _ h
     refine ⟨fun x hx => ?_, ?_⟩
     · rcases List.mem_cons.1 hx with rfl | hx
       · exact ⟨by omega, .inl ⟨hk, hid1.1, hid1.2⟩⟩
       · exact h1 x hx
     · rw [h2]
       simp [panes, hk]
       omega
   · rename_i hk
     split at h
     · cases h
     rename_i hid
     have hkd : kindB c.f1 = true := by
       cases hx : kindB c.f1
       · exact absurd (Or.inr hx) hid
       · rfl
     simp [kindB] at hkd
     obtain ⟨h1, h2⟩ := seen_ok r _ _ h
     refine ⟨fun x hx => ?_, ?_⟩
     · rcases List.mem_cons.1 hx with rfl | hx
       · exact ⟨by omega, .inr hkd⟩
       · exact h1 x hx
     · rw [h2]
       simp [panes, hk]
theorem grow_good : ∀ k, (∀ l d t rest, l.length ≤ 1000 → (∀ c ∈ l, cellOK c) → growF k l d = some (some (t, rest)) → goodT t ∧ (∀ c r, l = c :: r → t.kind = c.f1) ∧ (∀ c ∈ rest, cellOK c) ∧ rest.length < l.length) ∧
   (∀ c d kids sum l t rest, kids.length + l.length ≤ 1000 → cellOK c → c.f1 ≠ 1 → (∀ c ∈ l, cellOK c) → goodL c.f1 c.f4 c.f5 kids → sum = sumL c.f1 kids - 1 → growL k c d kids sum l = some (some (t, rest)) → goodT t ∧ t.kind = c.f1 ∧ (∀ c ∈ rest, cellOK c) ∧ rest.length ≤ l.length) := by
 intro k
 induction k with
 | zero => exact ⟨fun l d t rest _ _ h => by simp [growF] at h, fun c d kids sum l t rest _ _ _ _ _ _ h => by simp [growL] at h⟩
 | succ k ih =>
   obtain ⟨ih1, ih2⟩ := ih
   constructor
   · intro l d t rest hl hok h
     cases l with
     | nil => simp [growF] at h
     | cons c r =>
       have hc := hok c List.mem_cons_self
       have hr : ∀ c ∈ r, cellOK c := fun x hx => hok x (List.mem_cons_of_mem _ hx)
       rw [growF] at h
       split at h
       · rename_i hk
         simp only [Option.some.injEq, Prod.mk.injEq] at h
         obtain ⟨rfl, rfl⟩ := h
         refine ⟨(goodT_def _ _ _ _ _).2 ⟨hc.1, .inl ⟨rfl, ?_⟩⟩, fun c' r' e => by injection e with e1 _; rw [← e1]; exact hk.symm, hr, by simp⟩
         rcases hc.2 with h | h
         · exact ⟨h.2.1, h.2.2, rfl⟩
         · omega
       · rename_i hk
         obtain ⟨h1, h2, h3, h4⟩ := ih2 c d [] (-1) r t rest (by simp at hl ⊢; omega) hc hk hr (by rw [goodL]; trivial) (by simp [sumL]) h
         exact ⟨h1, fun c' r' e => by injection e with e1 _; rw [← e1]; exact h2, h3, by simp; omega⟩
   · intro c d kids sum l t rest hl hc hk hok hg hs h
     have hs1 := sumL_rng _ _ _ kids hg
     have hw5 : wrap64 (5 - c.f1) = 5 - c.f1 := IntWalk.wrap64_in _ (by rcases hc.2 with h | h <;> omega)
     have tail : ∀ (l' : List S45), l' = l → (if kids.length < 2 then some none else if sum = ext c.f1 c.f4 c.f5 then some (some ((⟨c.f1, c.f4, c.f5, 0, kids⟩ : Tr), l')) else some none) = some (some (t, rest)) → goodT t ∧ t.kind = c.f1 ∧ (∀ c ∈ rest, cellOK c) ∧ rest.length ≤ l.length := by
       intro l' hl' ht
       subst hl'
       split at ht
       · simp at ht
       split at ht
       · rename_i hsum
         simp only [Option.some.injEq, Prod.mk.injEq] at ht
         obtain ⟨rfl, rfl⟩ := ht
         refine ⟨(goodT_def _ _ _ _ _).2 ⟨hc.1, .inr ⟨?_, rfl, by omega, hg, by omega⟩⟩, rfl, hok, Nat.le_refl _⟩
         rcases hc.2 with h | h
         · exact absurd h.1 hk
         · exact h
       · simp at ht
     cases l with
     | nil =>
       rw [growL, if_neg (by simp)] at h
       exact tail [] rfl h
     | cons x r =>
       rw [growL] at h
       split at h
       · split at h
         · simp at h
         · rename_i hx
           obtain ⟨g, hgr, h⟩ := Option.bind_eq_some_iff.1 h
           cases g with
           | none => simp at h
           | some tr =>
             obtain ⟨t', rest'⟩ := tr
             obtain ⟨g1, g2, g3, g4⟩ := ih1 _ _ _ _ (by omega) hok hgr
             simp only at h
             split at h
             · rename_i he
               have hkx : t'.kind ≠ c.f1 := by
                 rw [g2 x r rfl]
                 simpa using hx
               have h1 := ext_rng (kind := c.f1) (good_dim g1)
               have hkl : (kids.length : Int) ≤ 1000 := by omega
               have hsum : wrap64 (sum + wrap64 (ext c.f1 t'.w t'.h + 1)) = sumL c.f1 (kids ++ [t']) - 1 := by
                 rw [sumL_snoc, IntWalk.wrap64_in (ext c.f1 t'.w t'.h + 1) (by omega), IntWalk.wrap64_in _ (by omega)]
                 omega
               have := ih2 c d (kids ++ [t']) _ rest' t rest (by simp at hl g4 ⊢; omega) hc hk g3 (goodL_snoc _ _ _ _ _ hg hkx (by rw [hw5] at he; exact he) g1) hsum h
               exact ⟨this.1, this.2.1, this.2.2.1, by have := this.2.2.2; omega⟩
             · simp at h
       · exact tail (x :: r) rfl h
theorem layT_head (t : Tr) (d x y : Int) : ∃ c r, layT t d x y = c :: r ∧ c.f0 = d := by
 obtain ⟨kind, w, h, id, kids⟩ := t
 rw [layT]
 split
 · exact ⟨_, _, rfl, rfl⟩
 · exact ⟨_, _, rfl, rfl⟩
theorem layL_cons (kind : Int) (k : Tr) (r : List Tr) (d x y : Int) : layL kind (k :: r) d x y = layT k d x y ++ layL kind r d (if kind = 2 then wrap64 (x + wrap64 (k.w + 1)) else x) (if kind = 2 then y else wrap64 (y + wrap64 (k.h + 1))) := by rw [layL]
theorem cntT_mem (t : Tr) : ∀ ks : List Tr, t ∈ ks → cntT t ≤ cntL ks
 | k :: r, h => by
   rw [cntL]
   rcases List.mem_cons.1 h with rfl | h
   · omega
   · have := cntT_mem t r h
     omega
end Go.Proofs.YtmpnkckaohfflaaDoor.PGiv
end
section
namespace Go.Proofs.YtmpnkckaohfflaaDoor.PGiv
open Go.RowKit Go.Proofs.YtmpnkckaohfflaaDoorW.PrintWords Go.Proofs.YtmpnkckaohfflaaDoor.K Go.Proofs.YtmpnkckaohfflaaDoor.Num Go.Proofs.YtmpnkckaohfflaaDoor.Txt
set_option linter.unusedVariables false
set_option linter.unusedSimpArgs false
theorem drop_drop {s : ByteArray} {a : Nat} {D R : List UInt8} (h : (By s).drop a = D ++ R) : (By s).drop (a + D.length) = R := by
 rw [← List.drop_drop, h, List.drop_left]
theorem panes_app (a b : List S45) : panes (a ++ b) = panes a ++ panes b := by simp [panes]
end Go.Proofs.YtmpnkckaohfflaaDoor.PGiv
end
section
namespace Go.Proofs.YtmpnkckaohfflaaDoor.M
end Go.Proofs.YtmpnkckaohfflaaDoor.M
end
section
namespace Go.Proofs.YtmpnkckaohfflaaDoor.PGiv
open Go.RowKit Go.Proofs.YtmpnkckaohfflaaDoorW.PrintWords Go.Proofs.YtmpnkckaohfflaaDoor.K Go.Proofs.YtmpnkckaohfflaaDoor.Num Go.Proofs.YtmpnkckaohfflaaDoor.Txt Go.Proofs.YtmpnkckaohfflaaDoor.M
set_option linter.unusedVariables false
set_option linter.unusedSimpArgs false
theorem num_lit {s : ByteArray} {a E u : Nat} (hE : digEnd (s.size - a) s a = E) (hd : (s.extract a E).data.toList = Lib.decDigits u) (hu : u ≤ 4611686018427387904) : rdNumber s a = some ((u : Int), E) := by
 unfold rdNumber
 rw [hE, hd, numOf_dec u hu]
 rfl
theorem dec80 : Lib.decDigits 80 = [56, 48] := by
 rw [dec_big 80 (by decide), Lib.decDigits_one (by decide)]
 decide
theorem dec24 : Lib.decDigits 24 = [50, 52] := by
 rw [dec_big 24 (by decide), Lib.decDigits_one (by decide)]
 decide
def sureS : ByteArray := ⟨#[56, 48, 120, 50, 52, 44, 48, 44, 48, 44, 49]⟩
theorem sure_body : bodyF sureS = some (some [⟨0, 1, 0, 0, 80, 24, 1⟩]) := by
 have h1 : rdNumber sureS 0 = some (80, 2) := num_lit (u := 80) (by decide) (by rw [dec80]; decide) (by decide)
 have h2 : rdMust sureS 2 120 = some 3 := by decide
 have h3 : rdNumber sureS 3 = some (24, 5) := num_lit (u := 24) (by decide) (by rw [dec24]; decide) (by decide)
 have h4 : rdMust sureS 5 44 = some 6 := by decide
 have h5 : rdNumber sureS 6 = some (0, 7) := num_lit (u := 0) (by decide) (by rw [Lib.decDigits_one (by decide)]; decide) (by decide)
 have h6 : rdMust sureS 7 44 = some 8 := by decide
 have h7 : rdNumber sureS 8 = some (0, 9) := num_lit (u := 0) (by decide) (by rw [Lib.decDigits_one (by decide)]; decide) (by decide)
 have h8 : rdNext sureS 9 = some (44, 10) := by decide
 have h9 : rdNumber sureS 10 = some (1, 11) := num_lit (u := 1) (by decide) (by rw [Lib.decDigits_one (by decide)]; decide) (by decide)
 unfold bodyF
 rw [show (5000 : Nat) = 4999 + 1 from rfl, cellR]
 rw [h1]
 simp only
 rw [h2]
 simp only
 rw [h3]
 simp only
 rw [h4]
 simp only
 rw [h5]
 simp only
 rw [h6]
 simp only
 rw [h7]
 simp only
 rw [h8]
 simp only [if_true]
 rw [h9]
 rfl
theorem sure_read : readF [⟨0, 1, 0, 0, 80, 24, 1⟩] = some (some ⟨1, 80, 24, 1, []⟩) := by kernel_rfl
def sureT : ByteArray := ⟨#[98, 50, 53, 101, 44, 56, 48, 120, 50, 52, 44, 48, 44, 48, 44, 49]⟩
theorem sure_parse : plan_Parse.f sureT = some ([⟨0, 1, 0, 0, 80, 24, 1⟩], 0) := by
 have hex : sureT.extract 5 sureT.size = sureS := by decide
 have hq : (sureT.extract 0 4).toList = (fourT (Sm.sum (By sureS))).toList := by
   rw [toList_by, toList_by]
   decide
 have hck : layout_Check.f [⟨0, 1, 0, 0, 80, 24, 1⟩] = some 0 := by unfold layout_Check.f; rw [sure_read]; rfl
 unfold plan_Parse.f
 rw [if_neg (by decide), dif_neg (by decide), if_neg (by decide), if_neg (by decide), hex, sum_E sureS (by decide)]
 simp only [Option.bind_some]
 rw [four_eq]
 simp only [Option.bind_some]
 rw [if_pos hq]
 unfold tailF
 rw [hex, sure_body]
 simp only [Option.bind_some]
 rw [hck]
 rfl
end Go.Proofs.YtmpnkckaohfflaaDoor.PGiv
end
section
namespace Go.Proofs.YtmpnkckaohfflaaDoor.PGiv
open Go.RowKit Go.Proofs.YtmpnkckaohfflaaDoorW.PrintWords Go.Proofs.YtmpnkckaohfflaaDoor.K Go.Proofs.YtmpnkckaohfflaaDoor.Num Go.Proofs.YtmpnkckaohfflaaDoor.Txt Go.Proofs.YtmpnkckaohfflaaDoor.M
set_option linter.unusedVariables false
set_option linter.unusedSimpArgs false
theorem read_good {L : List S45} {t : Tr} (h : readF L = some (some t)) : goodT t ∧ (∀ c ∈ L, cellOK c) ∧ (panes L).length ≤ 32 ∧ L.length ≤ 64 ∧ layT t 0 0 0 = L ∧ cntT t ≤ 64 := by
 cases L with
 | nil => simp [readF] at h
 | cons c l =>
   rw [readF] at h
   split at h
   · simp at h
   rename_i h64
   split at h
   · simp at h
   split at h
   · simp at h
   cases hs : seenF (c :: l) [] with
   | none => rw [hs] at h; simp at h
   | some S =>
     rw [hs] at h
     simp only at h
     split at h
     · simp at h
     rename_i h32
     obtain ⟨g, hg, h⟩ := Option.bind_eq_some_iff.1 h
     cases g with
     | none => simp at h
     | some tr =>
       obtain ⟨t', rest⟩ := tr
       simp only at h
       split at h
       · simp at h
       · split at h
         · rename_i hl
           simp only [Option.some.injEq] at h
           subst h
           obtain ⟨h1, h2⟩ := seen_ok _ _ _ hs
           obtain ⟨g1, _⟩ := (grow_good 1000).1 _ _ _ _ (by omega) h1 hg
           have hcn := (grow_cnt 1000).1 _ _ _ _ hg
           exact ⟨g1, h1, by simp at h2; omega, by omega, hl, by omega⟩
         · simp at h
theorem bt_at (s : ByteArray) (i : Nat) (h : i < s.size) : bt s (i : Int) = (s[i].toNat : Int) := by
 unfold bt
 rw [dif_pos (by simpa using h)]
 rfl
end Go.Proofs.YtmpnkckaohfflaaDoor.PGiv
end
