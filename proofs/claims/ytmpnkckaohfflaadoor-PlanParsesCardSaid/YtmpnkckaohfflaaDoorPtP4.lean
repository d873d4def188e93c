/- Of the texts of this claim, what it needs, put together by a program of this claim's author. Conditions: as each theorem says. -/
import Derived.Test.YtmpnkckaohfflaaDoorPtP3
section
namespace Go.Proofs.YtmpnkckaohfflaaDoor.L
open Go.Proofs.YtmpnkckaohfflaaDoor.K Go.RowKit Go.Proofs.YtmpnkckaohfflaaDoorW.PrintWords Go.Proofs.YtmpnkckaohfflaaDoorW.PrintLast Go.Proofs.YtmpnkckaohfflaaDoorW.PrintMore
attribute [local go_sem] max2_int min2_int max_two min_two max_three min_three max_four min_four
set_option linter.unusedVariables false
set_option linter.unusedSimpArgs false
mutual
def mullionref04_sizes.j0 : Nat → Bool → Int → Int → Int → Int → List (S72) → Option (Bool)
 | 0, _, _, _, _, _, _ => none
 | k + 1, x23, x131000, x131001, x131002, x131003, x131004 => if x23 = true then (some false) else (if x131000 = 1 then (if (x131004.length : Int) = 0 then (if x131003 ≥ 1 then (some (decide (x131003 ≤ 4611686018427387904))) else (some false)) else (some false)) else (if (x131004.length : Int) < 2 then (mullionref04_sizes.j1 k true x131000 x131001 x131002 x131003 x131004) else (mullionref04_sizes.j1 k (x131003 != 0) x131000 x131001 x131002 x131003 x131004)))
def mullionref04_sizes.j1 : Nat → Bool → Int → Int → Int → Int → List (S72) → Option (Bool)
 | 0, _, _, _, _, _, _ => none
 | k + 1, x49, x131000, x131001, x131002, x131003, x131004 => if x49 = true then (some false) else (mullionref04_sizes.l0 k (wrap64 ((x131004.length : Int) - 1)) 0 x131000 x131001 x131002 x131003 x131004)
def mullionref04_sizes.l0 : Nat → Int → Int → Int → Int → Int → Int → List (S72) → Option (Bool)
 | 0, _, _, _, _, _, _, _ => none
 | k + 1, x3, x4, x131000, x131001, x131002, x131003, x131004 => if x4 < (x131004.length : Int) then (if 0 ≤ x4 then (if ((rd_T72 x131004 x4).f0) = x131000 then (mullionref04_sizes.j3 k x3 x4 true x131000 x131001 x131002 x131003 x131004 ((rd_T72 x131004 x4).f0) ((rd_T72 x131004 x4).f1) ((rd_T72 x131004 x4).f2) ((rd_T72 x131004 x4).f3) ((rd_T72 x131004 x4).f4)) else (if ((rd_T72 x131004 x4).f1) > x131001 then (mullionref04_sizes.j3 k x3 x4 true x131000 x131001 x131002 x131003 x131004 ((rd_T72 x131004 x4).f0) ((rd_T72 x131004 x4).f1) ((rd_T72 x131004 x4).f2) ((rd_T72 x131004 x4).f3) ((rd_T72 x131004 x4).f4)) else (if ((rd_T72 x131004 x4).f2) > x131002 then (mullionref04_sizes.j3 k x3 x4 true x131000 x131001 x131002 x131003 x131004 ((rd_T72 x131004 x4).f0) ((rd_T72 x131004 x4).f1) ((rd_T72 x131004 x4).f2) ((rd_T72 x131004 x4).f3) ((rd_T72 x131004 x4).f4)) else ((mullionref04_sizes.f k ((rd_T72 x131004 x4).f0) ((rd_T72 x131004 x4).f1) ((rd_T72 x131004 x4).f2) ((rd_T72 x131004 x4).f3) ((rd_T72 x131004 x4).f4)).bind fun t134 => (mullionref04_sizes.j3 k x3 x4 (!t134) x131000 x131001 x131002 x131003 x131004 ((rd_T72 x131004 x4).f0) ((rd_T72 x131004 x4).f1) ((rd_T72 x131004 x4).f2) ((rd_T72 x131004 x4).f3) ((rd_T72 x131004 x4).f4)))))) else (none)) else ((mullionref04_extent.f x131000 x131001 x131002 x131003 x131004 x131000).bind fun t131 => (some (x3 == t131)))
def mullionref04_sizes.j3 : Nat → Int → Int → Bool → Int → Int → Int → Int → List (S72) → Int → Int → Int → Int → List (S72) → Option (Bool)
 | 0, _, _, _, _, _, _, _, _, _, _, _, _, _ => none
 | k + 1, x3, x4, x89, x131000, x131001, x131002, x131003, x131004, x134000, x134001, x134002, x134003, x134004 => if x89 = true then (some false) else (if x131000 = 2 then (if x134002 = x131002 then (if x131000 = 3 then (if x134001 = x131001 then ((mullionref04_extent.f x134000 x134001 x134002 x134003 x134004 x131000).bind fun t135 => (mullionref04_sizes.l0 k (wrap64 (x3 + t135)) (wrap64 (x4 + 1)) x131000 x131001 x131002 x131003 x131004)) else (some false)) else ((mullionref04_extent.f x134000 x134001 x134002 x134003 x134004 x131000).bind fun t136 => (mullionref04_sizes.l0 k (wrap64 (x3 + t136)) (wrap64 (x4 + 1)) x131000 x131001 x131002 x131003 x131004))) else (some false)) else (if x131000 = 3 then (if x134001 = x131001 then ((mullionref04_extent.f x134000 x134001 x134002 x134003 x134004 x131000).bind fun t137 => (mullionref04_sizes.l0 k (wrap64 (x3 + t137)) (wrap64 (x4 + 1)) x131000 x131001 x131002 x131003 x131004)) else (some false)) else ((mullionref04_extent.f x134000 x134001 x134002 x134003 x134004 x131000).bind fun t138 => (mullionref04_sizes.l0 k (wrap64 (x3 + t138)) (wrap64 (x4 + 1)) x131000 x131001 x131002 x131003 x131004))))
def mullionref04_sizes.f : Nat → Int → Int → Int → Int → List (S72) → Option (Bool)
 | 0, _, _, _, _, _ => none
 | k + 1, a0_0, a0_1, a0_2, a0_3, l0_4 => if a0_1 < 1 then (mullionref04_sizes.j0 k true a0_0 a0_1 a0_2 a0_3 l0_4) else (if a0_2 < 1 then (mullionref04_sizes.j0 k true a0_0 a0_1 a0_2 a0_3 l0_4) else (if a0_0 < 1 then (mullionref04_sizes.j0 k true a0_0 a0_1 a0_2 a0_3 l0_4) else (mullionref04_sizes.j0 k (decide (a0_0 > 3)) a0_0 a0_1 a0_2 a0_3 l0_4)))
end
theorem mullionref04_sizes.mono_l : ∀ k, (∀ y0 y1 y2 y3 y4, LeO (mullionref04_sizes.f k y0 y1 y2 y3 y4) (mullionref04_sizes.f (k + 1) y0 y1 y2 y3 y4)) ∧ (∀ y0 y1 y2 y3 y4 y5, LeO (mullionref04_sizes.j0 k y0 y1 y2 y3 y4 y5) (mullionref04_sizes.j0 (k + 1) y0 y1 y2 y3 y4 y5)) ∧ (∀ y0 y1 y2 y3 y4 y5, LeO (mullionref04_sizes.j1 k y0 y1 y2 y3 y4 y5) (mullionref04_sizes.j1 (k + 1) y0 y1 y2 y3 y4 y5)) ∧ (∀ y0 y1 y2 y3 y4 y5 y6, LeO (mullionref04_sizes.l0 k y0 y1 y2 y3 y4 y5 y6) (mullionref04_sizes.l0 (k + 1) y0 y1 y2 y3 y4 y5 y6)) ∧ (∀ y0 y1 y2 y3 y4 y5 y6 y7 y8 y9 y10 y11 y12, LeO (mullionref04_sizes.j3 k y0 y1 y2 y3 y4 y5 y6 y7 y8 y9 y10 y11 y12) (mullionref04_sizes.j3 (k + 1) y0 y1 y2 y3 y4 y5 y6 y7 y8 y9 y10 y11 y12))
 | 0 => ⟨fun _ _ _ _ _ r h => by simp [mullionref04_sizes.f] at h, fun _ _ _ _ _ _ r h => by simp [mullionref04_sizes.j0] at h, fun _ _ _ _ _ _ r h => by simp [mullionref04_sizes.j1] at h, fun _ _ _ _ _ _ _ r h => by simp [mullionref04_sizes.l0] at h, fun _ _ _ _ _ _ _ _ _ _ _ _ _ r h => by simp [mullionref04_sizes.j3] at h⟩
 | k + 1 => by
   obtain ⟨ih0, ih1, ih2, ih3, ih4⟩ := mullionref04_sizes.mono_l k
   refine ⟨?_, ?_, ?_, ?_, ?_⟩
   · intro y0 y1 y2 y3 y4
     unfold mullionref04_sizes.f
     repeat' first
     | (with_reducible exact ih0 _ _ _ _ _)
     | (with_reducible exact ih1 _ _ _ _ _ _)
     | (with_reducible exact ih2 _ _ _ _ _ _)
     | (with_reducible exact ih3 _ _ _ _ _ _ _)
     | (with_reducible exact ih4 _ _ _ _ _ _ _ _ _ _ _ _ _)
     | (with_reducible exact LeO.refl _)
     | (with_reducible exact LeO.none _)
     | (with_reducible refine LeO.ite ?_ ?_)
     | (with_reducible refine LeO.bind ?_ (fun _ => ?_))
     | exact ih0 _ _ _ _ _
     | exact ih1 _ _ _ _ _ _
     | exact ih2 _ _ _ _ _ _
     | exact ih3 _ _ _ _ _ _ _
     | exact ih4 _ _ _ _ _ _ _ _ _ _ _ _ _
     | exact LeO.none _
     | refine LeO.ite ?_ ?_
     | refine LeO.bind ?_ (fun _ => ?_)
   · intro y0 y1 y2 y3 y4 y5
     unfold mullionref04_sizes.j0
     repeat' first
     | (with_reducible exact ih0 _ _ _ _ _)
     | (with_reducible exact ih1 _ _ _ _ _ _)
     | (with_reducible exact ih2 _ _ _ _ _ _)
     | (with_reducible exact ih3 _ _ _ _ _ _ _)
     | (with_reducible exact ih4 _ _ _ _ _ _ _ _ _ _ _ _ _)
     | (with_reducible exact LeO.refl _)
     | (with_reducible exact LeO.none _)
     | (with_reducible refine LeO.ite ?_ ?_)
     | (with_reducible refine LeO.bind ?_ (fun _ => ?_))
     | exact ih0 _ _ _ _ _
     | exact ih1 _ _ _ _ _ _
     | exact ih2 _ _ _ _ _ _
     | exact ih3 _ _ _ _ _ _ _
     | exact ih4 _ _ _ _ _ _ _ _ _ _ _ _ _
     | exact LeO.none _
     | refine LeO.ite ?_ ?_
     | refine LeO.bind ?_ (fun _ => ?_)
   · intro y0 y1 y2 y3 y4 y5
     unfold mullionref04_sizes.j1
     repeat' first
     | (with_reducible exact ih0 _ _ _ _ _)
     | (with_reducible exact ih1 _ _ _ _ _ _)
     | (with_reducible exact ih2 _ _ _ _ _ _)
     | (with_reducible exact ih3 _ _ _ _ _ _ _)
     | (with_reducible exact ih4 _ _ _ _ _ _ _ _ _ _ _ _ _)
     | (with_reducible exact LeO.refl _)
     | (with_reducible exact LeO.none _)
     | (with_reducible refine LeO.ite ?_ ?_)
     | (with_reducible refine LeO.bind ?_ (fun _ => ?_))
     | exact ih0 _ _ _ _ _
     | exact ih1 _ _ _ _ _ _
     | exact ih2 _ _ _ _ _ _
     | exact ih3 _ _ _ _ _ _ _
     | exact ih4 _ _ _ _ _ _ _ _ _ _ _ _ _
     | exact LeO.none _
     | refine LeO.ite ?_ ?_
     | refine LeO.bind ?_ (fun _ => ?_)
   · intro y0 y1 y2 y3 y4 y5 y6
     unfold mullionref04_sizes.l0
     repeat' first
     | (with_reducible exact ih0 _ _ _ _ _)
     | (with_reducible exact ih1 _ _ _ _ _ _)
     | (with_reducible exact ih2 _ _ _ _ _ _)
     | (with_reducible exact ih3 _ _ _ _ _ _ _)
     | (with_reducible exact ih4 _ _ _ _ _ _ _ _ _ _ _ _ _)
     | (with_reducible exact LeO.refl _)
     | (with_reducible exact LeO.none _)
     | (with_reducible refine LeO.ite ?_ ?_)
     | (with_reducible refine LeO.bind ?_ (fun _ => ?_))
     | exact ih0 _ _ _ _ _
     | exact ih1 _ _ _ _ _ _
     | exact ih2 _ _ _ _ _ _
     | exact ih3 _ _ _ _ _ _ _
     | exact ih4 _ _ _ _ _ _ _ _ _ _ _ _ _
     | exact LeO.none _
     | refine LeO.ite ?_ ?_
     | refine LeO.bind ?_ (fun _ => ?_)
   · intro y0 y1 y2 y3 y4 y5 y6 y7 y8 y9 y10 y11 y12
     unfold mullionref04_sizes.j3
     repeat' first
     | (with_reducible exact ih0 _ _ _ _ _)
     | (with_reducible exact ih1 _ _ _ _ _ _)
     | (with_reducible exact ih2 _ _ _ _ _ _)
     | (with_reducible exact ih3 _ _ _ _ _ _ _)
     | (with_reducible exact ih4 _ _ _ _ _ _ _ _ _ _ _ _ _)
     | (with_reducible exact LeO.refl _)
     | (with_reducible exact LeO.none _)
     | (with_reducible refine LeO.ite ?_ ?_)
     | (with_reducible refine LeO.bind ?_ (fun _ => ?_))
     | exact ih0 _ _ _ _ _
     | exact ih1 _ _ _ _ _ _
     | exact ih2 _ _ _ _ _ _
     | exact ih3 _ _ _ _ _ _ _
     | exact ih4 _ _ _ _ _ _ _ _ _ _ _ _ _
     | exact LeO.none _
     | refine LeO.ite ?_ ?_
     | refine LeO.bind ?_ (fun _ => ?_)
theorem mullionref04_sizes.mono : ∀ a0 a1 a2 a3 a4 k, LeO (mullionref04_sizes.f k a0 a1 a2 a3 a4) (mullionref04_sizes.f (k + 1) a0 a1 a2 a3 a4) := by
 intro a0 a1 a2 a3 a4 k
 obtain ⟨ih0, ih1, ih2, ih3, ih4⟩ := mullionref04_sizes.mono_l k
 exact ih0 a0 a1 a2 a3 a4
set_option maxHeartbeats 8000000 in
set_option maxRecDepth 100000 in
theorem mullionref04_sizes.calls (k : Nat) : ∀ (a0_0 : Int) (a0_1 : Int) (a0_2 : Int) (a0_3 : Int) (A0_4 : Option Addr) (c0_4 : Nat) (l0_4 : List (S72)) (r : Bool) (w : World) (hr0_4 : Kd.C k72 w A0_4 l0_4.length l0_4) (hc0_4 : l0_4.length ≤ c0_4) (h : mullionref04_sizes.f k a0_0 a0_1 a0_2 a0_3 l0_4 = some r),
   Calls Tryd.prog 58 #[.agg #[.int .i64 a0_0, .int .i64 a0_1, .int .i64 a0_2, .int .i64 a0_3, .slice A0_4 l0_4.length c0_4]] w fun e w' => e = .returned (.bool r) ∧ Below w.heap.size w w' := by
 induction k using Nat.strongRecOn with
 | _ k ih =>
 intro a0_0 a0_1 a0_2 a0_3 A0_4 c0_4 l0_4 r w hr0_4 hc0_4 h
 cases k with
 | zero => exact absurd h (by simp [mullionref04_sizes.f])
 | succ k =>
 simp only [mullionref04_sizes.f] at h
 have hu72 := Tryd.underlying72
 have HR0_4 := Aside0.mk hr0_4
 have HC0_4 := Aside0.mk hc0_4
 clear hr0_4 hc0_4
 have HB := Aside0.mk (Below.refl w.heap.size w)
 have H : (if a0_1 < 1 then (mullionref04_sizes.j0 k true a0_0 a0_1 a0_2 a0_3 l0_4) else (if a0_2 < 1 then (mullionref04_sizes.j0 k true a0_0 a0_1 a0_2 a0_3 l0_4) else (if a0_0 < 1 then (mullionref04_sizes.j0 k true a0_0 a0_1 a0_2 a0_3 l0_4) else (mullionref04_sizes.j0 k (decide (a0_0 > 3)) a0_0 a0_1 a0_2 a0_3 l0_4)))) = some r := h
 clear h
 have HC2 := Aside0.mk H
 clear H
 go_enter Tryd.func58, Tryd.ntmps58
 go_upto_region 1 with (first | ((with_reducible refine gate_dst (N := 1) rfl ?_); refine box_event ?hg (N := 1) ?hd (cs := #[.int .i64 a0_0, .int .i64 a0_1, .int .i64 a0_2, .int .i64 a0_3, .slice A0_4 l0_4.length c0_4]) (t := 72) ?hr ?_; (case hd => rfl); (case hg => rfl); (case hr => first | (go_simp; done) | (go_simp; rfl)); intro gb130 hg w3 hbox hb; have n0_ := Aside0.mk (below_step (by repeat (first | (with_reducible first | exact HB.out | apply below_alloc | apply pw_below_drewN | apply below_drew1) | exact HB.out)) hb); have n1_ := Aside0.mk (hbox); have n2_ := Aside0.mk ((by rw [hg]; exact (below_size (by repeat (first | (with_reducible first | exact HB.out | apply below_alloc | apply pw_below_drewN | apply below_drew1) | exact HB.out))) : w.heap.size ≤ gb130)); have n3_ := Aside0.mk ((by rw [hg]; exact (below_size (by repeat (first | (with_reducible first | exact HB.out | apply below_alloc | apply pw_below_drewN | apply below_drew1) | exact HB.out))) : w.heap.size ≤ gb130)); clear HB; have HB := n0_; have BK130 := n1_; have GW130 := n2_; have GE130 := n3_; clear n0_ n1_ n2_ n3_; clear hb hbox hg))
 (try simp only [Act.put, List.setIfInBounds_toArray, List.set_cons_zero, List.set_cons_succ])
 go_cut [23] (fun v23 wc => ∃ (kq : Nat) (x23_1 : Bool), v23 = .bool x23_1 ∧ Aside0 (mullionref04_sizes.j0 kq x23_1 a0_0 a0_1 a0_2 a0_3 l0_4 = some r) ∧ Aside0 (kq ≤ k) ∧ Aside0 (wc.heap[gb130]? = some (.cells #[.int .i64 a0_0, .int .i64 a0_1, .int .i64 a0_2, .int .i64 a0_3, (.slice A0_4 l0_4.length c0_4)] 72 (0, 0))) ∧ Aside0 (Below w.heap.size w wc))
 case first =>
   have H := HC2.out
   clear HC2
   by_cases c4 : a0_1 < 1
   · rw [if_pos c4] at H
     have c4b0 : decide (a0_1 < 1) = true := decide_eq_true c4
     clear c4
     (first | rw [c4b0] | (simp only [i64_w, i32_w]; rw [c4b0]) | skip)
     have H' := Aside0.mk H
     clear H
     have hcz5_0 : w3.cell? ⟨gb130, 0, none⟩ = some (.int .i64 a0_0) := (blk_cell BK130.out 0).trans rfl
     have hcz5_1 : w3.cell? ⟨gb130, 1, none⟩ = some (.int .i64 a0_1) := (blk_cell BK130.out 1).trans rfl
     have hcz5_2 : w3.cell? ⟨gb130, 2, none⟩ = some (.int .i64 a0_2) := (blk_cell BK130.out 2).trans rfl
     have hcz5_3 : w3.cell? ⟨gb130, 3, none⟩ = some (.int .i64 a0_3) := (blk_cell BK130.out 3).trans rfl
     have hcz5_4 : w3.cell? ⟨gb130, 4, none⟩ = some (.slice A0_4 l0_4.length c0_4) := (blk_cell BK130.out 4).trans rfl
     have hfz5_0 := blk_frozen BK130.out 0
     have hfz5_1 := blk_frozen BK130.out 1
     have hfz5_2 := blk_frozen BK130.out 2
     have hfz5_3 := blk_frozen BK130.out 3
     have hfz5_4 := blk_frozen BK130.out 4
     go_wp2
     go_meet
     case rel => exact ⟨_, (true), (by first | rfl | (simp; done) | (simp [*]; done)), H', ⟨by first | omega | exact Nat.le_refl _⟩, ⟨by (with_reducible repeat (first | refine blk_drewN ?_ _ | refine blk_drew ?_ | refine blk_alloc ?_ _)); exact BK130.out⟩, ⟨by repeat (first | (with_reducible first | exact HB.out | apply below_alloc | apply pw_below_drewN | apply below_drew1 | refine below_set ?_ GE130.out) | exact HB.out)⟩⟩
   · rw [if_neg c4] at H
     have c4b0 : decide (a0_1 < 1) = false := decide_eq_false c4
     clear c4
     (first | rw [c4b0] | (simp only [i64_w, i32_w]; rw [c4b0]) | skip)
     by_cases c6 : a0_2 < 1
     · rw [if_pos c6] at H
       have c6b0 : decide (a0_2 < 1) = true := decide_eq_true c6
       clear c6
       have H' := Aside0.mk H
       clear H
       have hcz7_0 : w3.cell? ⟨gb130, 0, none⟩ = some (.int .i64 a0_0) := (blk_cell BK130.out 0).trans rfl
       have hcz7_1 : w3.cell? ⟨gb130, 1, none⟩ = some (.int .i64 a0_1) := (blk_cell BK130.out 1).trans rfl
       have hcz7_2 : w3.cell? ⟨gb130, 2, none⟩ = some (.int .i64 a0_2) := (blk_cell BK130.out 2).trans rfl
       have hcz7_3 : w3.cell? ⟨gb130, 3, none⟩ = some (.int .i64 a0_3) := (blk_cell BK130.out 3).trans rfl
       have hcz7_4 : w3.cell? ⟨gb130, 4, none⟩ = some (.slice A0_4 l0_4.length c0_4) := (blk_cell BK130.out 4).trans rfl
       have hfz7_0 := blk_frozen BK130.out 0
       have hfz7_1 := blk_frozen BK130.out 1
       have hfz7_2 := blk_frozen BK130.out 2
       have hfz7_3 := blk_frozen BK130.out 3
       have hfz7_4 := blk_frozen BK130.out 4
       go_wp2
       go_meet
       case rel => exact ⟨_, (true), (by first | rfl | (simp; done) | (simp [*]; done)), H', ⟨by first | omega | exact Nat.le_refl _⟩, ⟨by (with_reducible repeat (first | refine blk_drewN ?_ _ | refine blk_drew ?_ | refine blk_alloc ?_ _)); exact BK130.out⟩, ⟨by repeat (first | (with_reducible first | exact HB.out | apply below_alloc | apply pw_below_drewN | apply below_drew1 | refine below_set ?_ GE130.out) | exact HB.out)⟩⟩
     · rw [if_neg c6] at H
       have c6b0 : decide (a0_2 < 1) = false := decide_eq_false c6
       clear c6
       by_cases c8 : a0_0 < 1
       · rw [if_pos c8] at H
         have c8b0 : decide (a0_0 < 1) = true := decide_eq_true c8
         clear c8
         have H' := Aside0.mk H
         clear H
         have hcz9_0 : w3.cell? ⟨gb130, 0, none⟩ = some (.int .i64 a0_0) := (blk_cell BK130.out 0).trans rfl
         have hcz9_1 : w3.cell? ⟨gb130, 1, none⟩ = some (.int .i64 a0_1) := (blk_cell BK130.out 1).trans rfl
         have hcz9_2 : w3.cell? ⟨gb130, 2, none⟩ = some (.int .i64 a0_2) := (blk_cell BK130.out 2).trans rfl
         have hcz9_3 : w3.cell? ⟨gb130, 3, none⟩ = some (.int .i64 a0_3) := (blk_cell BK130.out 3).trans rfl
         have hcz9_4 : w3.cell? ⟨gb130, 4, none⟩ = some (.slice A0_4 l0_4.length c0_4) := (blk_cell BK130.out 4).trans rfl
         have hfz9_0 := blk_frozen BK130.out 0
         have hfz9_1 := blk_frozen BK130.out 1
         have hfz9_2 := blk_frozen BK130.out 2
         have hfz9_3 := blk_frozen BK130.out 3
         have hfz9_4 := blk_frozen BK130.out 4
         go_wp2
         go_meet
         case rel => exact ⟨_, (true), (by first | rfl | (simp; done) | (simp [*]; done)), H', ⟨by first | omega | exact Nat.le_refl _⟩, ⟨by (with_reducible repeat (first | refine blk_drewN ?_ _ | refine blk_drew ?_ | refine blk_alloc ?_ _)); exact BK130.out⟩, ⟨by repeat (first | (with_reducible first | exact HB.out | apply below_alloc | apply pw_below_drewN | apply below_drew1 | refine below_set ?_ GE130.out) | exact HB.out)⟩⟩
       · rw [if_neg c8] at H
         have c8b0 : decide (a0_0 < 1) = false := decide_eq_false c8
         clear c8
         have H' := Aside0.mk H
         clear H
         have hcz10_0 : w3.cell? ⟨gb130, 0, none⟩ = some (.int .i64 a0_0) := (blk_cell BK130.out 0).trans rfl
         have hcz10_1 : w3.cell? ⟨gb130, 1, none⟩ = some (.int .i64 a0_1) := (blk_cell BK130.out 1).trans rfl
         have hcz10_2 : w3.cell? ⟨gb130, 2, none⟩ = some (.int .i64 a0_2) := (blk_cell BK130.out 2).trans rfl
         have hcz10_3 : w3.cell? ⟨gb130, 3, none⟩ = some (.int .i64 a0_3) := (blk_cell BK130.out 3).trans rfl
         have hcz10_4 : w3.cell? ⟨gb130, 4, none⟩ = some (.slice A0_4 l0_4.length c0_4) := (blk_cell BK130.out 4).trans rfl
         have hfz10_0 := blk_frozen BK130.out 0
         have hfz10_1 := blk_frozen BK130.out 1
         have hfz10_2 := blk_frozen BK130.out 2
         have hfz10_3 := blk_frozen BK130.out 3
         have hfz10_4 := blk_frozen BK130.out 4
         go_wp2
         go_meet
         case rel => exact ⟨_, (decide (a0_0 > 3)), (by first | rfl | (simp; done) | (simp [*]; done)), H', ⟨by first | omega | exact Nat.le_refl _⟩, ⟨by (with_reducible repeat (first | refine blk_drewN ?_ _ | refine blk_drew ?_ | refine blk_alloc ?_ _)); exact BK130.out⟩, ⟨by repeat (first | (with_reducible first | exact HB.out | apply below_alloc | apply pw_below_drewN | apply below_drew1 | refine below_set ?_ GE130.out) | exact HB.out)⟩⟩
 case rest =>
   clear HC2
   try clear p2
   try clear c4
   try clear c4b0
   try clear c5
   try clear c6
   try clear c6b0
   try clear c8
   try clear c8b0
   try clear hcz10_0
   try clear hcz10_1
   try clear hcz10_2
   try clear hcz10_3
   try clear hcz10_4
   try clear hcz5_0
   try clear hcz5_1
   try clear hcz5_2
   try clear hcz5_3
   try clear hcz5_4
   try clear hcz7_0
   try clear hcz7_1
   try clear hcz7_2
   try clear hcz7_3
   try clear hcz7_4
   try clear hcz9_0
   try clear hcz9_1
   try clear hcz9_2
   try clear hcz9_3
   try clear hcz9_4
   try clear hfz10_0
   try clear hfz10_1
   try clear hfz10_2
   try clear hfz10_3
   try clear hfz10_4
   try clear hfz5_0
   try clear hfz5_1
   try clear hfz5_2
   try clear hfz5_3
   try clear hfz5_4
   try clear hfz7_0
   try clear hfz7_1
   try clear hfz7_2
   try clear hfz7_3
   try clear hfz7_4
   try clear hfz9_0
   try clear hfz9_1
   try clear hfz9_2
   try clear hfz9_3
   try clear hfz9_4
   obtain ⟨kq, x23_1, rfl, HA, HJ1, BK130, HB⟩ := hcut
   cases kq with
   | zero => exact absurd HA.out (by simp [mullionref04_sizes.j0])
   | succ kj1 =>
     have H := HA.out
     clear HA
     simp only [mullionref04_sizes.j0] at H
     by_cases c11 : x23_1 = true
     · subst c11
       have H1 : (some false) = some r := by rw [if_pos rfl] at H; exact H
       clear H
       have H := H1
       clear H1
       obtain rfl := Option.some.inj H
       go_wp2
       go_ret
       exact ⟨by first | rfl | (simp [errW_none, errW_some] <;> rfl) | (simp [*, errW_none, errW_some] <;> rfl), by repeat (first | (with_reducible first | exact HB.out | apply below_alloc | apply pw_below_drewN | apply below_drew1 | refine below_set ?_ GE130.out) | exact HB.out)⟩
     · replace c11 := Bool.eq_false_iff.mpr c11
       subst c11
       have H1 : (if a0_0 = 1 then (if (l0_4.length : Int) = 0 then (if a0_3 ≥ 1 then (some (decide (a0_3 ≤ 4611686018427387904))) else (some false)) else (some false)) else (if (l0_4.length : Int) < 2 then (mullionref04_sizes.j1 kj1 true a0_0 a0_1 a0_2 a0_3 l0_4) else (mullionref04_sizes.j1 kj1 (a0_3 != 0) a0_0 a0_1 a0_2 a0_3 l0_4))) = some r := by rw [if_neg (show ¬ (false = true) by decide)] at H; exact H
       clear H
       have H := H1
       clear H1
       by_cases c12 : a0_0 = 1
       · rw [if_pos c12] at H
         have c12b0 : (a0_0 == 1) = true := beq_iff_eq.mpr c12
         have c12b1 : (a0_0 != 1) = false := bne_eq_false_iff_eq.mpr c12
         clear c12
         by_cases c13 : (l0_4.length : Int) = 0
         · rw [if_pos c13] at H
           have c13b0 : ((l0_4.length : Int) == 0) = true := beq_iff_eq.mpr c13
           have c13b1 : ((l0_4.length : Int) != 0) = false := bne_eq_false_iff_eq.mpr c13
           clear c13
           by_cases c14 : a0_3 ≥ 1
           · rw [if_pos c14] at H
             have c14b0 : decide (1 ≤ a0_3) = true := decide_eq_true c14
             clear c14
             obtain rfl := Option.some.inj H
             have hcz15_0 : wc.cell? ⟨gb130, 0, none⟩ = some (.int .i64 a0_0) := (blk_cell BK130.out 0).trans rfl
             have hcz15_1 : wc.cell? ⟨gb130, 1, none⟩ = some (.int .i64 a0_1) := (blk_cell BK130.out 1).trans rfl
             have hcz15_2 : wc.cell? ⟨gb130, 2, none⟩ = some (.int .i64 a0_2) := (blk_cell BK130.out 2).trans rfl
             have hcz15_3 : wc.cell? ⟨gb130, 3, none⟩ = some (.int .i64 a0_3) := (blk_cell BK130.out 3).trans rfl
             have hcz15_4 : wc.cell? ⟨gb130, 4, none⟩ = some (.slice A0_4 l0_4.length c0_4) := (blk_cell BK130.out 4).trans rfl
             have hfz15_0 := blk_frozen BK130.out 0
             have hfz15_1 := blk_frozen BK130.out 1
             have hfz15_2 := blk_frozen BK130.out 2
             have hfz15_3 := blk_frozen BK130.out 3
             have hfz15_4 := blk_frozen BK130.out 4
             go_wp2
             go_ret
             exact ⟨by first | rfl | (simp [errW_none, errW_some] <;> rfl) | (simp [*, errW_none, errW_some] <;> rfl), by repeat (first | (with_reducible first | exact HB.out | apply below_alloc | apply pw_below_drewN | apply below_drew1 | refine below_set ?_ GE130.out) | exact HB.out)⟩
           · rw [if_neg c14] at H
             have c14b0 : decide (1 ≤ a0_3) = false := decide_eq_false c14
             clear c14
             obtain rfl := Option.some.inj H
             have hcz16_0 : wc.cell? ⟨gb130, 0, none⟩ = some (.int .i64 a0_0) := (blk_cell BK130.out 0).trans rfl
             have hcz16_1 : wc.cell? ⟨gb130, 1, none⟩ = some (.int .i64 a0_1) := (blk_cell BK130.out 1).trans rfl
             have hcz16_2 : wc.cell? ⟨gb130, 2, none⟩ = some (.int .i64 a0_2) := (blk_cell BK130.out 2).trans rfl
             have hcz16_3 : wc.cell? ⟨gb130, 3, none⟩ = some (.int .i64 a0_3) := (blk_cell BK130.out 3).trans rfl
             have hcz16_4 : wc.cell? ⟨gb130, 4, none⟩ = some (.slice A0_4 l0_4.length c0_4) := (blk_cell BK130.out 4).trans rfl
             have hfz16_0 := blk_frozen BK130.out 0
             have hfz16_1 := blk_frozen BK130.out 1
             have hfz16_2 := blk_frozen BK130.out 2
             have hfz16_3 := blk_frozen BK130.out 3
             have hfz16_4 := blk_frozen BK130.out 4
             go_wp2
             go_ret
             exact ⟨by first | rfl | (simp [errW_none, errW_some] <;> rfl) | (simp [*, errW_none, errW_some] <;> rfl), by repeat (first | (with_reducible first | exact HB.out | apply below_alloc | apply pw_below_drewN | apply below_drew1 | refine below_set ?_ GE130.out) | exact HB.out)⟩
         · rw [if_neg c13] at H
           have c13b0 : ((l0_4.length : Int) == 0) = false := beq_eq_false_iff_ne.mpr c13
           have c13b1 : ((l0_4.length : Int) != 0) = true := bne_iff_ne.mpr c13
           have c13b2 : ¬ (l0_4 = []) := fun h_ => c13 (by rw [h_]; rfl)
           obtain rfl := Option.some.inj H
           have hcz17_0 : wc.cell? ⟨gb130, 0, none⟩ = some (.int .i64 a0_0) := (blk_cell BK130.out 0).trans rfl
           have hcz17_1 : wc.cell? ⟨gb130, 1, none⟩ = some (.int .i64 a0_1) := (blk_cell BK130.out 1).trans rfl
           have hcz17_2 : wc.cell? ⟨gb130, 2, none⟩ = some (.int .i64 a0_2) := (blk_cell BK130.out 2).trans rfl
           have hcz17_3 : wc.cell? ⟨gb130, 3, none⟩ = some (.int .i64 a0_3) := (blk_cell BK130.out 3).trans rfl
           have hcz17_4 : wc.cell? ⟨gb130, 4, none⟩ = some (.slice A0_4 l0_4.length c0_4) := (blk_cell BK130.out 4).trans rfl
           have hfz17_0 := blk_frozen BK130.out 0
           have hfz17_1 := blk_frozen BK130.out 1
           have hfz17_2 := blk_frozen BK130.out 2
           have hfz17_3 := blk_frozen BK130.out 3
           have hfz17_4 := blk_frozen BK130.out 4
           go_wp2
           go_ret
           exact ⟨by first | rfl | (simp [errW_none, errW_some] <;> rfl) | (simp [*, errW_none, errW_some] <;> rfl), by repeat (first | (with_reducible first | exact HB.out | apply below_alloc | apply pw_below_drewN | apply below_drew1 | refine below_set ?_ GE130.out) | exact HB.out)⟩
       · rw [if_neg c12] at H
         have c12b0 : (a0_0 == 1) = false := beq_eq_false_iff_ne.mpr c12
         have c12b1 : (a0_0 != 1) = true := bne_iff_ne.mpr c12
         have HC18 := Aside0.mk H
         clear H
         have hcz19_0 : wc.cell? ⟨gb130, 0, none⟩ = some (.int .i64 a0_0) := (blk_cell BK130.out 0).trans rfl
         have hcz19_1 : wc.cell? ⟨gb130, 1, none⟩ = some (.int .i64 a0_1) := (blk_cell BK130.out 1).trans rfl
         have hcz19_2 : wc.cell? ⟨gb130, 2, none⟩ = some (.int .i64 a0_2) := (blk_cell BK130.out 2).trans rfl
         have hcz19_3 : wc.cell? ⟨gb130, 3, none⟩ = some (.int .i64 a0_3) := (blk_cell BK130.out 3).trans rfl
         have hcz19_4 : wc.cell? ⟨gb130, 4, none⟩ = some (.slice A0_4 l0_4.length c0_4) := (blk_cell BK130.out 4).trans rfl
         have hfz19_0 := blk_frozen BK130.out 0
         have hfz19_1 := blk_frozen BK130.out 1
         have hfz19_2 := blk_frozen BK130.out 2
         have hfz19_3 := blk_frozen BK130.out 3
         have hfz19_4 := blk_frozen BK130.out 4
         go_upto_region 5 with (fail)
         go_cut [49] (fun v49 wc => ∃ (kq : Nat) (x49_17 : Bool), v49 = .bool x49_17 ∧ Aside0 (mullionref04_sizes.j1 kq x49_17 a0_0 a0_1 a0_2 a0_3 l0_4 = some r) ∧ Aside0 (kq ≤ kj1) ∧ Aside0 (wc.heap[gb130]? = some (.cells #[.int .i64 a0_0, .int .i64 a0_1, .int .i64 a0_2, .int .i64 a0_3, (.slice A0_4 l0_4.length c0_4)] 72 (0, 0))) ∧ Aside0 (Below w.heap.size w wc))
         case first =>
           have H := HC18.out
           clear HC18
           by_cases c20 : (l0_4.length : Int) < 2
           · rw [if_pos c20] at H
             have c20b0 : decide ((l0_4.length : Int) < 2) = true := decide_eq_true c20
             have c20b1 : decide (l0_4.length < 2) = true := decide_eq_true (by omega)
             clear c20
             (first | rw [c20b0] | (simp only [i64_w, i32_w]; rw [c20b0]) | skip)
             have H' := Aside0.mk H
             clear H
             have hcz21_0 : wc.cell? ⟨gb130, 0, none⟩ = some (.int .i64 a0_0) := (blk_cell BK130.out 0).trans rfl
             have hcz21_1 : wc.cell? ⟨gb130, 1, none⟩ = some (.int .i64 a0_1) := (blk_cell BK130.out 1).trans rfl
             have hcz21_2 : wc.cell? ⟨gb130, 2, none⟩ = some (.int .i64 a0_2) := (blk_cell BK130.out 2).trans rfl
             have hcz21_3 : wc.cell? ⟨gb130, 3, none⟩ = some (.int .i64 a0_3) := (blk_cell BK130.out 3).trans rfl
             have hcz21_4 : wc.cell? ⟨gb130, 4, none⟩ = some (.slice A0_4 l0_4.length c0_4) := (blk_cell BK130.out 4).trans rfl
             have hfz21_0 := blk_frozen BK130.out 0
             have hfz21_1 := blk_frozen BK130.out 1
             have hfz21_2 := blk_frozen BK130.out 2
             have hfz21_3 := blk_frozen BK130.out 3
             have hfz21_4 := blk_frozen BK130.out 4
             go_wp2
             go_meet
             case rel => exact ⟨_, (true), (by first | rfl | (simp; done) | (simp [*]; done)), H', ⟨by have := HJ1.out; first | omega | exact Nat.le_refl _⟩, ⟨by (with_reducible repeat (first | refine blk_drewN ?_ _ | refine blk_drew ?_ | refine blk_alloc ?_ _)); exact BK130.out⟩, ⟨by repeat (first | (with_reducible first | exact HB.out | apply below_alloc | apply pw_below_drewN | apply below_drew1 | refine below_set ?_ GE130.out) | exact HB.out)⟩⟩
           · rw [if_neg c20] at H
             have c20b0 : decide ((l0_4.length : Int) < 2) = false := decide_eq_false c20
             have c20b1 : decide (l0_4.length < 2) = false := decide_eq_false (by omega)
             clear c20
             (first | rw [c20b0] | (simp only [i64_w, i32_w]; rw [c20b0]) | skip)
             have H' := Aside0.mk H
             clear H
             have hcz22_0 : wc.cell? ⟨gb130, 0, none⟩ = some (.int .i64 a0_0) := (blk_cell BK130.out 0).trans rfl
             have hcz22_1 : wc.cell? ⟨gb130, 1, none⟩ = some (.int .i64 a0_1) := (blk_cell BK130.out 1).trans rfl
             have hcz22_2 : wc.cell? ⟨gb130, 2, none⟩ = some (.int .i64 a0_2) := (blk_cell BK130.out 2).trans rfl
             have hcz22_3 : wc.cell? ⟨gb130, 3, none⟩ = some (.int .i64 a0_3) := (blk_cell BK130.out 3).trans rfl
             have hcz22_4 : wc.cell? ⟨gb130, 4, none⟩ = some (.slice A0_4 l0_4.length c0_4) := (blk_cell BK130.out 4).trans rfl
             have hfz22_0 := blk_frozen BK130.out 0
             have hfz22_1 := blk_frozen BK130.out 1
             have hfz22_2 := blk_frozen BK130.out 2
             have hfz22_3 := blk_frozen BK130.out 3
             have hfz22_4 := blk_frozen BK130.out 4
             go_wp2
             go_meet
             case rel => exact ⟨_, ((a0_3 != 0)), (by first | rfl | (simp; done) | (simp [*]; done)), H', ⟨by have := HJ1.out; first | omega | exact Nat.le_refl _⟩, ⟨by (with_reducible repeat (first | refine blk_drewN ?_ _ | refine blk_drew ?_ | refine blk_alloc ?_ _)); exact BK130.out⟩, ⟨by repeat (first | (with_reducible first | exact HB.out | apply below_alloc | apply pw_below_drewN | apply below_drew1 | refine below_set ?_ GE130.out) | exact HB.out)⟩⟩
         case rest =>
           clear HC18
           try clear c1
           try clear c2
           try clear p2
           try clear c4
           try clear c4b0
           try clear c5
           try clear c6
           try clear c6b0
           try clear c8
           try clear c8b0
           try clear c11
           try clear c12
           try clear c12b0
           try clear c12b1
           try clear c13
           try clear c13b0
           try clear c13b1
           try clear c13b2
           try clear c14
           try clear c14b0
           try clear c20
           try clear c20b0
           try clear c20b1
           try clear hcz10_0
           try clear hcz10_1
           try clear hcz10_2
           try clear hcz10_3
           try clear hcz10_4
           try clear hcz15_0
           try clear hcz15_1
           try clear hcz15_2
           try clear hcz15_3
           try clear hcz15_4
           try clear hcz16_0
           try clear hcz16_1
           try clear hcz16_2
           try clear hcz16_3
           try clear hcz16_4
           try clear hcz17_0
           try clear hcz17_1
           try clear hcz17_2
           try clear hcz17_3
           try clear hcz17_4
           try clear hcz19_0
           try clear hcz19_1
           try clear hcz19_2
           try clear hcz19_3
           try clear hcz19_4
           try clear hcz21_0
           try clear hcz21_1
           try clear hcz21_2
           try clear hcz21_3
           try clear hcz21_4
           try clear hcz22_0
           try clear hcz22_1
           try clear hcz22_2
           try clear hcz22_3
           try clear hcz22_4
           try clear hcz5_0
           try clear hcz5_1
           try clear hcz5_2
           try clear hcz5_3
           try clear hcz5_4
           try clear hcz7_0
           try clear hcz7_1
           try clear hcz7_2
           try clear hcz7_3
           try clear hcz7_4
           try clear hcz9_0
           try clear hcz9_1
           try clear hcz9_2
           try clear hcz9_3
           try clear hcz9_4
           try clear hfz10_0
           try clear hfz10_1
           try clear hfz10_2
           try clear hfz10_3
           try clear hfz10_4
           try clear hfz15_0
           try clear hfz15_1
           try clear hfz15_2
           try clear hfz15_3
           try clear hfz15_4
           try clear hfz16_0
           try clear hfz16_1
           try clear hfz16_2
           try clear hfz16_3
           try clear hfz16_4
           try clear hfz17_0
           try clear hfz17_1
           try clear hfz17_2
           try clear hfz17_3
           try clear hfz17_4
           try clear hfz19_0
           try clear hfz19_1
           try clear hfz19_2
           try clear hfz19_3
           try clear hfz19_4
           try clear hfz21_0
           try clear hfz21_1
           try clear hfz21_2
           try clear hfz21_3
           try clear hfz21_4
           try clear hfz22_0
           try clear hfz22_1
           try clear hfz22_2
           try clear hfz22_3
           try clear hfz22_4
           try clear hfz5_0
           try clear hfz5_1
           try clear hfz5_2
           try clear hfz5_3
           try clear hfz5_4
           try clear hfz7_0
           try clear hfz7_1
           try clear hfz7_2
           try clear hfz7_3
           try clear hfz7_4
           try clear hfz9_0
           try clear hfz9_1
           try clear hfz9_2
           try clear hfz9_3
           try clear hfz9_4
           try clear p2
           obtain ⟨kq, x49_17, rfl, HA, HJ17, BK130, HB⟩ := hcut
           cases kq with
           | zero => exact absurd HA.out (by simp [mullionref04_sizes.j1])
           | succ kj17 =>
             have H := HA.out
             clear HA
             simp only [mullionref04_sizes.j1] at H
             by_cases c23 : x49_17 = true
             · subst c23
               have H1 : (some false) = some r := by rw [if_pos rfl] at H; exact H
               clear H
               have H := H1
               clear H1
               obtain rfl := Option.some.inj H
               go_wp2
               go_ret
               exact ⟨by first | rfl | (simp [errW_none, errW_some] <;> rfl) | (simp [*, errW_none, errW_some] <;> rfl), by repeat (first | (with_reducible first | exact HB.out | apply below_alloc | apply pw_below_drewN | apply below_drew1 | refine below_set ?_ GE130.out) | exact HB.out)⟩
             · replace c23 := Bool.eq_false_iff.mpr c23
               subst c23
               have H1 : (mullionref04_sizes.l0 kj17 (wrap64 ((l0_4.length : Int) - 1)) 0 a0_0 a0_1 a0_2 a0_3 l0_4) = some r := by rw [if_neg (show ¬ (false = true) by decide)] at H; exact H
               clear H
               have H := H1
               clear H1
               have H' := Aside0.mk H
               clear H
               have hcz24_0 : wc.cell? ⟨gb130, 0, none⟩ = some (.int .i64 a0_0) := (blk_cell BK130.out 0).trans rfl
               have hcz24_1 : wc.cell? ⟨gb130, 1, none⟩ = some (.int .i64 a0_1) := (blk_cell BK130.out 1).trans rfl
               have hcz24_2 : wc.cell? ⟨gb130, 2, none⟩ = some (.int .i64 a0_2) := (blk_cell BK130.out 2).trans rfl
               have hcz24_3 : wc.cell? ⟨gb130, 3, none⟩ = some (.int .i64 a0_3) := (blk_cell BK130.out 3).trans rfl
               have hcz24_4 : wc.cell? ⟨gb130, 4, none⟩ = some (.slice A0_4 l0_4.length c0_4) := (blk_cell BK130.out 4).trans rfl
               have hfz24_0 := blk_frozen BK130.out 0
               have hfz24_1 := blk_frozen BK130.out 1
               have hfz24_2 := blk_frozen BK130.out 2
               have hfz24_3 := blk_frozen BK130.out 3
               have hfz24_4 := blk_frozen BK130.out 4
               go_wp2
               go_loopg [3, 4] kj17 (fun kq v3 v4 w' => ∃ (x3_3 : Int) (x4_3 : Int), v3 = .int .i64 x3_3 ∧ v4 = .int .i64 x4_3 ∧ Aside0 (mullionref04_sizes.l0 kq x3_3 x4_3 a0_0 a0_1 a0_2 a0_3 l0_4 = some r) ∧ Aside0 (kq ≤ kj17) ∧ Aside0 (w'.heap[gb130]? = some (.cells #[.int .i64 a0_0, .int .i64 a0_1, .int .i64 a0_2, .int .i64 a0_3, (.slice A0_4 l0_4.length c0_4)] 72 (0, 0))) ∧ Aside0 (Below w.heap.size w w'))
               case atStart => exact ⟨(wrap64 ((l0_4.length : Int) - 1)), (0), (by first | rfl | (simp; done) | (simp [*]; done)), (by first | rfl | (simp; done) | (simp [*]; done)), H', ⟨Nat.le_refl _⟩, ⟨by (with_reducible repeat (first | refine blk_drewN ?_ _ | refine blk_drew ?_ | refine blk_alloc ?_ _)); exact BK130.out⟩, ⟨by repeat (first | (with_reducible first | exact HB.out | apply below_alloc | apply pw_below_drewN | apply below_drew1 | refine below_set ?_ GE130.out) | exact HB.out)⟩⟩
               case round =>
                 clear H'
                 try clear c1
                 try clear c2
                 try clear p2
                 try clear c4
                 try clear c4b0
                 try clear c5
                 try clear c6
                 try clear c6b0
                 try clear p6
                 try clear c8
                 try clear c8b0
                 try clear c11
                 try clear c12
                 try clear c12b0
                 try clear c12b1
                 try clear c13
                 try clear c13b0
                 try clear c13b1
                 try clear c13b2
                 try clear c14
                 try clear c14b0
                 try clear c20
                 try clear c20b0
                 try clear c20b1
                 try clear c23
                 try clear hcz10_0
                 try clear hcz10_1
                 try clear hcz10_2
                 try clear hcz10_3
                 try clear hcz10_4
                 try clear hcz15_0
                 try clear hcz15_1
                 try clear hcz15_2
                 try clear hcz15_3
                 try clear hcz15_4
                 try clear hcz16_0
                 try clear hcz16_1
                 try clear hcz16_2
                 try clear hcz16_3
                 try clear hcz16_4
                 try clear hcz17_0
                 try clear hcz17_1
                 try clear hcz17_2
                 try clear hcz17_3
                 try clear hcz17_4
                 try clear hcz19_0
                 try clear hcz19_1
                 try clear hcz19_2
                 try clear hcz19_3
                 try clear hcz19_4
                 try clear hcz21_0
                 try clear hcz21_1
                 try clear hcz21_2
                 try clear hcz21_3
                 try clear hcz21_4
                 try clear hcz22_0
                 try clear hcz22_1
                 try clear hcz22_2
                 try clear hcz22_3
                 try clear hcz22_4
                 try clear hcz24_0
                 try clear hcz24_1
                 try clear hcz24_2
                 try clear hcz24_3
                 try clear hcz24_4
                 try clear hcz5_0
                 try clear hcz5_1
                 try clear hcz5_2
                 try clear hcz5_3
                 try clear hcz5_4
                 try clear hcz7_0
                 try clear hcz7_1
                 try clear hcz7_2
                 try clear hcz7_3
                 try clear hcz7_4
                 try clear hcz9_0
                 try clear hcz9_1
                 try clear hcz9_2
                 try clear hcz9_3
                 try clear hcz9_4
                 try clear hfz10_0
                 try clear hfz10_1
                 try clear hfz10_2
                 try clear hfz10_3
                 try clear hfz10_4
                 try clear hfz15_0
                 try clear hfz15_1
                 try clear hfz15_2
                 try clear hfz15_3
                 try clear hfz15_4
                 try clear hfz16_0
                 try clear hfz16_1
                 try clear hfz16_2
                 try clear hfz16_3
                 try clear hfz16_4
                 try clear hfz17_0
                 try clear hfz17_1
                 try clear hfz17_2
                 try clear hfz17_3
                 try clear hfz17_4
                 try clear hfz19_0
                 try clear hfz19_1
                 try clear hfz19_2
                 try clear hfz19_3
                 try clear hfz19_4
                 try clear hfz21_0
                 try clear hfz21_1
                 try clear hfz21_2
                 try clear hfz21_3
                 try clear hfz21_4
                 try clear hfz22_0
                 try clear hfz22_1
                 try clear hfz22_2
                 try clear hfz22_3
                 try clear hfz22_4
                 try clear hfz24_0
                 try clear hfz24_1
                 try clear hfz24_2
                 try clear hfz24_3
                 try clear hfz24_4
                 try clear hfz5_0
                 try clear hfz5_1
                 try clear hfz5_2
                 try clear hfz5_3
                 try clear hfz5_4
                 try clear hfz7_0
                 try clear hfz7_1
                 try clear hfz7_2
                 try clear hfz7_3
                 try clear hfz7_4
                 try clear hfz9_0
                 try clear hfz9_1
                 try clear hfz9_2
                 try clear hfz9_3
                 try clear hfz9_4
                 try clear p2
                 obtain ⟨x3_3, x4_3, rfl, rfl, HA, HK3, BK130, HB⟩ := hrel
                 cases gk with
                 | zero => exact absurd HA.out (by simp [mullionref04_sizes.l0])
                 | succ k3 =>
                   have H := HA.out
                   clear HA
                   simp only [mullionref04_sizes.l0] at H
                   by_cases c25 : x4_3 < (l0_4.length : Int)
                   · rw [if_pos c25] at H
                     have c25b0 : decide (x4_3 < (l0_4.length : Int)) = true := decide_eq_true c25
                     clear c25
                     by_cases c26 : 0 ≤ x4_3
                     · rw [if_pos c26] at H
                       have c26b0 : decide (0 ≤ x4_3) = true := decide_eq_true c26
                       clear c26
                       have HC27 := Aside0.mk H
                       clear H
                       have hcz28_0 : wr.cell? ⟨gb130, 0, none⟩ = some (.int .i64 a0_0) := (blk_cell BK130.out 0).trans rfl
                       have hcz28_1 : wr.cell? ⟨gb130, 1, none⟩ = some (.int .i64 a0_1) := (blk_cell BK130.out 1).trans rfl
                       have hcz28_2 : wr.cell? ⟨gb130, 2, none⟩ = some (.int .i64 a0_2) := (blk_cell BK130.out 2).trans rfl
                       have hcz28_3 : wr.cell? ⟨gb130, 3, none⟩ = some (.int .i64 a0_3) := (blk_cell BK130.out 3).trans rfl
                       have hcz28_4 : wr.cell? ⟨gb130, 4, none⟩ = some (.slice A0_4 l0_4.length c0_4) := (blk_cell BK130.out 4).trans rfl
                       have hfz28_0 := blk_frozen BK130.out 0
                       have hfz28_1 := blk_frozen BK130.out 1
                       have hfz28_2 := blk_frozen BK130.out 2
                       have hfz28_3 := blk_frozen BK130.out 3
                       have hfz28_4 := blk_frozen BK130.out 4
                       have p132 : 0 ≤ (x4_3 : Int) := of_decide_eq_true (by first | (with_reducible assumption) | assumption)
                       have q132 : x4_3 < (l0_4.length : Int) := of_decide_eq_true (by first | (with_reducible assumption) | assumption)
                       obtain ⟨ad132, A132_4, c132_4, e132, hx132_0, hx132_1, hx132_2, hx132_3, hx132_4, hl132_4, hi132_4⟩ := at_T72 HR0_4.out x4_3 p132 q132
                       cases e132
                       replace hx132_0 := (HB.out.cell (World.block_lt_of_cell? w _ hx132_0)).trans hx132_0
                       replace hx132_1 := (HB.out.cell (World.block_lt_of_cell? w _ hx132_1)).trans hx132_1
                       replace hx132_2 := (HB.out.cell (World.block_lt_of_cell? w _ hx132_2)).trans hx132_2
                       replace hx132_3 := (HB.out.cell (World.block_lt_of_cell? w _ hx132_3)).trans hx132_3
                       replace hx132_4 := (HB.out.cell (World.block_lt_of_cell? w _ hx132_4)).trans hx132_4
                       have HR132_4 := Aside0.mk hi132_4
                       have HC132_4 := Aside0.mk hl132_4
                       clear hi132_4 hl132_4
                       replace p132 := eq_true p132
                       replace q132 := eq_true q132
                       go_upto_region 12 with (first | ((with_reducible refine gate_dst (N := 5) rfl ?_); refine box_event ?hg (N := 5) ?hd (cs := #[.int .i64 0, .int .i64 0, .int .i64 0, .int .i64 0, .slice none 0 0]) (t := 72) ?hr ?_; (case hd => rfl); (case hg => rfl); (case hr => first | (go_simp; done) | (go_simp; rfl)); intro gb133 hg w29 hbox hb; have n0_ := Aside0.mk (blk_below (g := gb130) (o := .cells #[.int .i64 a0_0, .int .i64 a0_1, .int .i64 a0_2, .int .i64 a0_3, .slice (some ad132) l0_4.length c0_4] 72 (0, 0)) (by (with_reducible repeat (first | refine blk_drewN ?_ _ | refine blk_drew ?_ | refine blk_alloc ?_ _)); exact BK130.out) hb); have n1_ := Aside0.mk (below_step (by repeat (first | (with_reducible first | exact HB.out | apply below_alloc | apply pw_below_drewN | apply below_drew1 | refine below_set ?_ GE130.out) | exact HB.out)) hb); have n2_ := Aside0.mk (hbox); have n3_ := Aside0.mk ((by rw [hg]; exact (below_size (by repeat (first | (with_reducible first | exact HB.out | apply below_alloc | apply pw_below_drewN | apply below_drew1 | refine below_set ?_ GE130.out) | exact HB.out))) : w.heap.size ≤ gb133)); have n4_ := Aside0.mk ((by rw [hg]; exact (below_size (by repeat (first | (with_reducible first | exact HB.out | apply below_alloc | apply pw_below_drewN | apply below_drew1 | refine below_set ?_ GE130.out) | exact HB.out))) : w.heap.size ≤ gb133)); have n5_ := Aside0.mk ((by rw [hg]; exact Nat.ne_of_lt (blk_lt (g := gb130) (o := .cells #[.int .i64 a0_0, .int .i64 a0_1, .int .i64 a0_2, .int .i64 a0_3, .slice (some ad132) l0_4.length c0_4] 72 (0, 0)) (by (with_reducible repeat (first | refine blk_drewN ?_ _ | refine blk_drew ?_ | refine blk_alloc ?_ _)); exact BK130.out)) : gb130 ≠ gb133)); have n6_ := Aside0.mk ((by rw [hg]; exact Nat.ne_of_gt (blk_lt (g := gb130) (o := .cells #[.int .i64 a0_0, .int .i64 a0_1, .int .i64 a0_2, .int .i64 a0_3, .slice (some ad132) l0_4.length c0_4] 72 (0, 0)) (by (with_reducible repeat (first | refine blk_drewN ?_ _ | refine blk_drew ?_ | refine blk_alloc ?_ _)); exact BK130.out)) : gb133 ≠ gb130)); clear BK130; clear HB; have BK130 := n0_; have HB := n1_; have BK133 := n2_; have GW133 := n3_; have GE133 := n4_; have NB130_133 := n5_; have NB133_130 := n6_; clear n0_ n1_ n2_ n3_ n4_ n5_ n6_; clear hb hbox hg; have hnb30 := NB133_130.out; have hnc30 := NB130_133.out; have hcz31_0 : w29.cell? ⟨gb133, 0, none⟩ = some (.int .i64 0) := (blk_cell BK133.out 0).trans rfl; have hcz31_1 : w29.cell? ⟨gb133, 1, none⟩ = some (.int .i64 0) := (blk_cell BK133.out 1).trans rfl; have hcz31_2 : w29.cell? ⟨gb133, 2, none⟩ = some (.int .i64 0) := (blk_cell BK133.out 2).trans rfl; have hcz31_3 : w29.cell? ⟨gb133, 3, none⟩ = some (.int .i64 0) := (blk_cell BK133.out 3).trans rfl; have hcz31_4 : w29.cell? ⟨gb133, 4, none⟩ = some (.slice none 0 0) := (blk_cell BK133.out 4).trans rfl; have hfz31_0 := blk_frozen BK133.out 0; have hfz31_1 := blk_frozen BK133.out 1; have hfz31_2 := blk_frozen BK133.out 2; have hfz31_3 := blk_frozen BK133.out 3; have hfz31_4 := blk_frozen BK133.out 4))
                       (try simp only [Act.put, List.setIfInBounds_toArray, List.set_cons_zero, List.set_cons_succ])
                       go_cut [89] (fun v89 wc => ∃ (kq : Nat) (x89_26 : Bool), v89 = .bool x89_26 ∧ Aside0 (mullionref04_sizes.j3 kq x3_3 x4_3 x89_26 a0_0 a0_1 a0_2 a0_3 l0_4 ((rd_T72 l0_4 x4_3).f0) ((rd_T72 l0_4 x4_3).f1) ((rd_T72 l0_4 x4_3).f2) ((rd_T72 l0_4 x4_3).f3) ((rd_T72 l0_4 x4_3).f4) = some r) ∧ Aside0 (kq ≤ k3) ∧ Aside0 (wc.heap[gb130]? = some (.cells #[.int .i64 a0_0, .int .i64 a0_1, .int .i64 a0_2, .int .i64 a0_3, (.slice (some ad132) l0_4.length c0_4)] 72 (0, 0))) ∧ Aside0 (wc.heap[gb133]? = some (.cells #[.int .i64 ((rd_T72 l0_4 x4_3).f0), .int .i64 ((rd_T72 l0_4 x4_3).f1), .int .i64 ((rd_T72 l0_4 x4_3).f2), .int .i64 ((rd_T72 l0_4 x4_3).f3), (.slice A132_4 ((rd_T72 l0_4 x4_3).f4).length c132_4)] 72 (0, 0))) ∧ Aside0 (Below w.heap.size w wc))
                       case first =>
                         have H := HC27.out
                         clear HC27
                         by_cases c32 : ((rd_T72 l0_4 x4_3).f0) = a0_0
                         · rw [if_pos c32] at H
                           have c32b0 : (((rd_T72 l0_4 x4_3).f0) == a0_0) = true := beq_iff_eq.mpr c32
                           have c32b1 : (((rd_T72 l0_4 x4_3).f0) != a0_0) = false := bne_eq_false_iff_eq.mpr c32
                           clear c32
                           (first | rw [c32b0] | (simp only [i64_w, i32_w]; rw [c32b0]) | skip)
                           have H' := Aside0.mk H
                           clear H
                           have hnb33 := NB133_130.out
                           have hnc33 := NB130_133.out
                           have hcz34_0 : w29.cell? ⟨gb133, 0, none⟩ = some (.int .i64 0) := (blk_cell BK133.out 0).trans rfl
                           have hcz34_1 : w29.cell? ⟨gb133, 1, none⟩ = some (.int .i64 0) := (blk_cell BK133.out 1).trans rfl
                           have hcz34_2 : w29.cell? ⟨gb133, 2, none⟩ = some (.int .i64 0) := (blk_cell BK133.out 2).trans rfl
                           have hcz34_3 : w29.cell? ⟨gb133, 3, none⟩ = some (.int .i64 0) := (blk_cell BK133.out 3).trans rfl
                           have hcz34_4 : w29.cell? ⟨gb133, 4, none⟩ = some (.slice none 0 0) := (blk_cell BK133.out 4).trans rfl
                           have hfz34_0 := blk_frozen BK133.out 0
                           have hfz34_1 := blk_frozen BK133.out 1
                           have hfz34_2 := blk_frozen BK133.out 2
                           have hfz34_3 := blk_frozen BK133.out 3
                           have hfz34_4 := blk_frozen BK133.out 4
                           have hcz35_0 : w29.cell? ⟨gb130, 0, none⟩ = some (.int .i64 a0_0) := (blk_cell BK130.out 0).trans rfl
                           have hcz35_1 : w29.cell? ⟨gb130, 1, none⟩ = some (.int .i64 a0_1) := (blk_cell BK130.out 1).trans rfl
                           have hcz35_2 : w29.cell? ⟨gb130, 2, none⟩ = some (.int .i64 a0_2) := (blk_cell BK130.out 2).trans rfl
                           have hcz35_3 : w29.cell? ⟨gb130, 3, none⟩ = some (.int .i64 a0_3) := (blk_cell BK130.out 3).trans rfl
                           have hcz35_4 : w29.cell? ⟨gb130, 4, none⟩ = some (.slice (some ad132) l0_4.length c0_4) := (blk_cell BK130.out 4).trans rfl
                           have hfz35_0 := blk_frozen BK130.out 0
                           have hfz35_1 := blk_frozen BK130.out 1
                           have hfz35_2 := blk_frozen BK130.out 2
                           have hfz35_3 := blk_frozen BK130.out 3
                           have hfz35_4 := blk_frozen BK130.out 4
                           go_wp2
                           go_meet
                           case rel => exact ⟨_, (true), (by first | rfl | (simp; done) | (simp [*]; done)), H', ⟨by have := HJ1.out; have := HJ17.out; have := HK3.out; first | omega | exact Nat.le_refl _⟩, ⟨by (with_reducible repeat (first | refine blk_drewN ?_ _ | refine blk_drew ?_ | refine blk_alloc ?_ _)); refine blk_far ?_ NB130_133.out _; (with_reducible repeat (first | refine blk_drewN ?_ _ | refine blk_drew ?_ | refine blk_alloc ?_ _)); refine blk_far ?_ NB130_133.out _; (with_reducible repeat (first | refine blk_drewN ?_ _ | refine blk_drew ?_ | refine blk_alloc ?_ _)); refine blk_far ?_ NB130_133.out _; (with_reducible repeat (first | refine blk_drewN ?_ _ | refine blk_drew ?_ | refine blk_alloc ?_ _)); refine blk_far ?_ NB130_133.out _; (with_reducible repeat (first | refine blk_drewN ?_ _ | refine blk_drew ?_ | refine blk_alloc ?_ _)); refine blk_far ?_ NB130_133.out _; (with_reducible repeat (first | refine blk_drewN ?_ _ | refine blk_drew ?_ | refine blk_alloc ?_ _)); exact BK130.out⟩, ⟨by (with_reducible repeat (first | refine blk_drewN ?_ _ | refine blk_drew ?_ | refine blk_alloc ?_ _)); refine blk_put (cs := #[.int .i64 ((rd_T72 l0_4 x4_3).f0), .int .i64 ((rd_T72 l0_4 x4_3).f1), .int .i64 ((rd_T72 l0_4 x4_3).f2), .int .i64 ((rd_T72 l0_4 x4_3).f3), .slice none 0 0]) ?_ 4 _ rfl; (with_reducible repeat (first | refine blk_drewN ?_ _ | refine blk_drew ?_ | refine blk_alloc ?_ _)); refine blk_put (cs := #[.int .i64 ((rd_T72 l0_4 x4_3).f0), .int .i64 ((rd_T72 l0_4 x4_3).f1), .int .i64 ((rd_T72 l0_4 x4_3).f2), .int .i64 0, .slice none 0 0]) ?_ 3 _ rfl; (with_reducible repeat (first | refine blk_drewN ?_ _ | refine blk_drew ?_ | refine blk_alloc ?_ _)); refine blk_put (cs := #[.int .i64 ((rd_T72 l0_4 x4_3).f0), .int .i64 ((rd_T72 l0_4 x4_3).f1), .int .i64 0, .int .i64 0, .slice none 0 0]) ?_ 2 _ rfl; (with_reducible repeat (first | refine blk_drewN ?_ _ | refine blk_drew ?_ | refine blk_alloc ?_ _)); refine blk_put (cs := #[.int .i64 ((rd_T72 l0_4 x4_3).f0), .int .i64 0, .int .i64 0, .int .i64 0, .slice none 0 0]) ?_ 1 _ rfl; (with_reducible repeat (first | refine blk_drewN ?_ _ | refine blk_drew ?_ | refine blk_alloc ?_ _)); refine blk_put (cs := #[.int .i64 0, .int .i64 0, .int .i64 0, .int .i64 0, .slice none 0 0]) ?_ 0 _ rfl; (with_reducible repeat (first | refine blk_drewN ?_ _ | refine blk_drew ?_ | refine blk_alloc ?_ _)); exact BK133.out⟩, ⟨by repeat (first | (with_reducible first | exact HB.out | apply below_alloc | apply pw_below_drewN | apply below_drew1 | refine below_set ?_ GE130.out | refine below_set ?_ GE133.out) | exact HB.out)⟩⟩
                         · rw [if_neg c32] at H
                           have c32b0 : (((rd_T72 l0_4 x4_3).f0) == a0_0) = false := beq_eq_false_iff_ne.mpr c32
                           have c32b1 : (((rd_T72 l0_4 x4_3).f0) != a0_0) = true := bne_iff_ne.mpr c32
                           (first | rw [c32b0] | (simp only [i64_w, i32_w]; rw [c32b0]) | skip)
                           by_cases c36 : ((rd_T72 l0_4 x4_3).f1) > a0_1
                           · rw [if_pos c36] at H
                             have c36b0 : decide (a0_1 < ((rd_T72 l0_4 x4_3).f1)) = true := decide_eq_true c36
                             clear c36
                             have H' := Aside0.mk H
                             clear H
                             have hnb37 := NB133_130.out
                             have hnc37 := NB130_133.out
                             have hcz38_0 : w29.cell? ⟨gb133, 0, none⟩ = some (.int .i64 0) := (blk_cell BK133.out 0).trans rfl
                             have hcz38_1 : w29.cell? ⟨gb133, 1, none⟩ = some (.int .i64 0) := (blk_cell BK133.out 1).trans rfl
                             have hcz38_2 : w29.cell? ⟨gb133, 2, none⟩ = some (.int .i64 0) := (blk_cell BK133.out 2).trans rfl
                             have hcz38_3 : w29.cell? ⟨gb133, 3, none⟩ = some (.int .i64 0) := (blk_cell BK133.out 3).trans rfl
                             have hcz38_4 : w29.cell? ⟨gb133, 4, none⟩ = some (.slice none 0 0) := (blk_cell BK133.out 4).trans rfl
                             have hfz38_0 := blk_frozen BK133.out 0
                             have hfz38_1 := blk_frozen BK133.out 1
                             have hfz38_2 := blk_frozen BK133.out 2
                             have hfz38_3 := blk_frozen BK133.out 3
                             have hfz38_4 := blk_frozen BK133.out 4
                             have hcz39_0 : w29.cell? ⟨gb130, 0, none⟩ = some (.int .i64 a0_0) := (blk_cell BK130.out 0).trans rfl
                             have hcz39_1 : w29.cell? ⟨gb130, 1, none⟩ = some (.int .i64 a0_1) := (blk_cell BK130.out 1).trans rfl
                             have hcz39_2 : w29.cell? ⟨gb130, 2, none⟩ = some (.int .i64 a0_2) := (blk_cell BK130.out 2).trans rfl
                             have hcz39_3 : w29.cell? ⟨gb130, 3, none⟩ = some (.int .i64 a0_3) := (blk_cell BK130.out 3).trans rfl
                             have hcz39_4 : w29.cell? ⟨gb130, 4, none⟩ = some (.slice (some ad132) l0_4.length c0_4) := (blk_cell BK130.out 4).trans rfl
                             have hfz39_0 := blk_frozen BK130.out 0
                             have hfz39_1 := blk_frozen BK130.out 1
                             have hfz39_2 := blk_frozen BK130.out 2
                             have hfz39_3 := blk_frozen BK130.out 3
                             have hfz39_4 := blk_frozen BK130.out 4
                             go_wp2
                             go_meet
                             case rel => exact ⟨_, (true), (by first | rfl | (simp; done) | (simp [*]; done)), H', ⟨by have := HJ1.out; have := HJ17.out; have := HK3.out; first | omega | exact Nat.le_refl _⟩, ⟨by (with_reducible repeat (first | refine blk_drewN ?_ _ | refine blk_drew ?_ | refine blk_alloc ?_ _)); refine blk_far ?_ NB130_133.out _; (with_reducible repeat (first | refine blk_drewN ?_ _ | refine blk_drew ?_ | refine blk_alloc ?_ _)); refine blk_far ?_ NB130_133.out _; (with_reducible repeat (first | refine blk_drewN ?_ _ | refine blk_drew ?_ | refine blk_alloc ?_ _)); refine blk_far ?_ NB130_133.out _; (with_reducible repeat (first | refine blk_drewN ?_ _ | refine blk_drew ?_ | refine blk_alloc ?_ _)); refine blk_far ?_ NB130_133.out _; (with_reducible repeat (first | refine blk_drewN ?_ _ | refine blk_drew ?_ | refine blk_alloc ?_ _)); refine blk_far ?_ NB130_133.out _; (with_reducible repeat (first | refine blk_drewN ?_ _ | refine blk_drew ?_ | refine blk_alloc ?_ _)); exact BK130.out⟩, ⟨by (with_reducible repeat (first | refine blk_drewN ?_ _ | refine blk_drew ?_ | refine blk_alloc ?_ _)); refine blk_put (cs := #[.int .i64 ((rd_T72 l0_4 x4_3).f0), .int .i64 ((rd_T72 l0_4 x4_3).f1), .int .i64 ((rd_T72 l0_4 x4_3).f2), .int .i64 ((rd_T72 l0_4 x4_3).f3), .slice none 0 0]) ?_ 4 _ rfl; (with_reducible repeat (first | refine blk_drewN ?_ _ | refine blk_drew ?_ | refine blk_alloc ?_ _)); refine blk_put (cs := #[.int .i64 ((rd_T72 l0_4 x4_3).f0), .int .i64 ((rd_T72 l0_4 x4_3).f1), .int .i64 ((rd_T72 l0_4 x4_3).f2), .int .i64 0, .slice none 0 0]) ?_ 3 _ rfl; (with_reducible repeat (first | refine blk_drewN ?_ _ | refine blk_drew ?_ | refine blk_alloc ?_ _)); refine blk_put (cs := #[.int .i64 ((rd_T72 l0_4 x4_3).f0), .int .i64 ((rd_T72 l0_4 x4_3).f1), .int .i64 0, .int .i64 0, .slice none 0 0]) ?_ 2 _ rfl; (with_reducible repeat (first | refine blk_drewN ?_ _ | refine blk_drew ?_ | refine blk_alloc ?_ _)); refine blk_put (cs := #[.int .i64 ((rd_T72 l0_4 x4_3).f0), .int .i64 0, .int .i64 0, .int .i64 0, .slice none 0 0]) ?_ 1 _ rfl; (with_reducible repeat (first | refine blk_drewN ?_ _ | refine blk_drew ?_ | refine blk_alloc ?_ _)); refine blk_put (cs := #[.int .i64 0, .int .i64 0, .int .i64 0, .int .i64 0, .slice none 0 0]) ?_ 0 _ rfl; (with_reducible repeat (first | refine blk_drewN ?_ _ | refine blk_drew ?_ | refine blk_alloc ?_ _)); exact BK133.out⟩, ⟨by repeat (first | (with_reducible first | exact HB.out | apply below_alloc | apply pw_below_drewN | apply below_drew1 | refine below_set ?_ GE130.out | refine below_set ?_ GE133.out) | exact HB.out)⟩⟩
                           · rw [if_neg c36] at H
                             have c36b0 : decide (a0_1 < ((rd_T72 l0_4 x4_3).f1)) = false := decide_eq_false c36
                             clear c36
                             by_cases c40 : ((rd_T72 l0_4 x4_3).f2) > a0_2
                             · rw [if_pos c40] at H
                               have c40b0 : decide (a0_2 < ((rd_T72 l0_4 x4_3).f2)) = true := decide_eq_true c40
                               clear c40
                               have H' := Aside0.mk H
                               clear H
                               have hnb41 := NB133_130.out
                               have hnc41 := NB130_133.out
                               have hcz42_0 : w29.cell? ⟨gb133, 0, none⟩ = some (.int .i64 0) := (blk_cell BK133.out 0).trans rfl
                               have hcz42_1 : w29.cell? ⟨gb133, 1, none⟩ = some (.int .i64 0) := (blk_cell BK133.out 1).trans rfl
                               have hcz42_2 : w29.cell? ⟨gb133, 2, none⟩ = some (.int .i64 0) := (blk_cell BK133.out 2).trans rfl
                               have hcz42_3 : w29.cell? ⟨gb133, 3, none⟩ = some (.int .i64 0) := (blk_cell BK133.out 3).trans rfl
                               have hcz42_4 : w29.cell? ⟨gb133, 4, none⟩ = some (.slice none 0 0) := (blk_cell BK133.out 4).trans rfl
                               have hfz42_0 := blk_frozen BK133.out 0
                               have hfz42_1 := blk_frozen BK133.out 1
                               have hfz42_2 := blk_frozen BK133.out 2
                               have hfz42_3 := blk_frozen BK133.out 3
                               have hfz42_4 := blk_frozen BK133.out 4
                               have hcz43_0 : w29.cell? ⟨gb130, 0, none⟩ = some (.int .i64 a0_0) := (blk_cell BK130.out 0).trans rfl
                               have hcz43_1 : w29.cell? ⟨gb130, 1, none⟩ = some (.int .i64 a0_1) := (blk_cell BK130.out 1).trans rfl
                               have hcz43_2 : w29.cell? ⟨gb130, 2, none⟩ = some (.int .i64 a0_2) := (blk_cell BK130.out 2).trans rfl
                               have hcz43_3 : w29.cell? ⟨gb130, 3, none⟩ = some (.int .i64 a0_3) := (blk_cell BK130.out 3).trans rfl
                               have hcz43_4 : w29.cell? ⟨gb130, 4, none⟩ = some (.slice (some ad132) l0_4.length c0_4) := (blk_cell BK130.out 4).trans rfl
                               have hfz43_0 := blk_frozen BK130.out 0
                               have hfz43_1 := blk_frozen BK130.out 1
                               have hfz43_2 := blk_frozen BK130.out 2
                               have hfz43_3 := blk_frozen BK130.out 3
                               have hfz43_4 := blk_frozen BK130.out 4
                               go_wp2
                               go_meet
                               case rel => exact ⟨_, (true), (by first | rfl | (simp; done) | (simp [*]; done)), H', ⟨by have := HJ1.out; have := HJ17.out; have := HK3.out; first | omega | exact Nat.le_refl _⟩, ⟨by (with_reducible repeat (first | refine blk_drewN ?_ _ | refine blk_drew ?_ | refine blk_alloc ?_ _)); refine blk_far ?_ NB130_133.out _; (with_reducible repeat (first | refine blk_drewN ?_ _ | refine blk_drew ?_ | refine blk_alloc ?_ _)); refine blk_far ?_ NB130_133.out _; (with_reducible repeat (first | refine blk_drewN ?_ _ | refine blk_drew ?_ | refine blk_alloc ?_ _)); refine blk_far ?_ NB130_133.out _; (with_reducible repeat (first | refine blk_drewN ?_ _ | refine blk_drew ?_ | refine blk_alloc ?_ _)); refine blk_far ?_ NB130_133.out _; (with_reducible repeat (first | refine blk_drewN ?_ _ | refine blk_drew ?_ | refine blk_alloc ?_ _)); refine blk_far ?_ NB130_133.out _; (with_reducible repeat (first | refine blk_drewN ?_ _ | refine blk_drew ?_ | refine blk_alloc ?_ _)); exact BK130.out⟩, ⟨by (with_reducible repeat (first | refine blk_drewN ?_ _ | refine blk_drew ?_ | refine blk_alloc ?_ _)); refine blk_put (cs := #[.int .i64 ((rd_T72 l0_4 x4_3).f0), .int .i64 ((rd_T72 l0_4 x4_3).f1), .int .i64 ((rd_T72 l0_4 x4_3).f2), .int .i64 ((rd_T72 l0_4 x4_3).f3), .slice none 0 0]) ?_ 4 _ rfl; (with_reducible repeat (first | refine blk_drewN ?_ _ | refine blk_drew ?_ | refine blk_alloc ?_ _)); refine blk_put (cs := #[.int .i64 ((rd_T72 l0_4 x4_3).f0), .int .i64 ((rd_T72 l0_4 x4_3).f1), .int .i64 ((rd_T72 l0_4 x4_3).f2), .int .i64 0, .slice none 0 0]) ?_ 3 _ rfl; (with_reducible repeat (first | refine blk_drewN ?_ _ | refine blk_drew ?_ | refine blk_alloc ?_ _)); refine blk_put (cs := #[.int .i64 ((rd_T72 l0_4 x4_3).f0), .int .i64 ((rd_T72 l0_4 x4_3).f1), .int .i64 0, .int .i64 0, .slice none 0 0]) ?_ 2 _ rfl; (with_reducible repeat (first | refine blk_drewN ?_ _ | refine blk_drew ?_ | refine blk_alloc ?_ _)); refine blk_put (cs := #[.int .i64 ((rd_T72 l0_4 x4_3).f0), .int .i64 0, .int .i64 0, .int .i64 0, .slice none 0 0]) ?_ 1 _ rfl; (with_reducible repeat (first | refine blk_drewN ?_ _ | refine blk_drew ?_ | refine blk_alloc ?_ _)); refine blk_put (cs := #[.int .i64 0, .int .i64 0, .int .i64 0, .int .i64 0, .slice none 0 0]) ?_ 0 _ rfl; (with_reducible repeat (first | refine blk_drewN ?_ _ | refine blk_drew ?_ | refine blk_alloc ?_ _)); exact BK133.out⟩, ⟨by repeat (first | (with_reducible first | exact HB.out | apply below_alloc | apply pw_below_drewN | apply below_drew1 | refine below_set ?_ GE130.out | refine below_set ?_ GE133.out) | exact HB.out)⟩⟩
                             · rw [if_neg c40] at H
                               have c40b0 : decide (a0_2 < ((rd_T72 l0_4 x4_3).f2)) = false := decide_eq_false c40
                               clear c40
                               replace H := Option.bind_eq_some_iff.mp H
                               obtain ⟨t134, A440, H⟩ := H
                               replace H : (mullionref04_sizes.j3 k3 x3_3 x4_3 (!t134) a0_0 a0_1 a0_2 a0_3 l0_4 ((rd_T72 l0_4 x4_3).f0) ((rd_T72 l0_4 x4_3).f1) ((rd_T72 l0_4 x4_3).f2) ((rd_T72 l0_4 x4_3).f3) ((rd_T72 l0_4 x4_3).f4)) = some r := H
                               have A44 := Aside0.mk A440
                               clear A440
                               have H' := Aside0.mk H
                               clear H
                               have hnb45 := NB133_130.out
                               have hnc45 := NB130_133.out
                               have hcz46_0 : w29.cell? ⟨gb133, 0, none⟩ = some (.int .i64 0) := (blk_cell BK133.out 0).trans rfl
                               have hcz46_1 : w29.cell? ⟨gb133, 1, none⟩ = some (.int .i64 0) := (blk_cell BK133.out 1).trans rfl
                               have hcz46_2 : w29.cell? ⟨gb133, 2, none⟩ = some (.int .i64 0) := (blk_cell BK133.out 2).trans rfl
                               have hcz46_3 : w29.cell? ⟨gb133, 3, none⟩ = some (.int .i64 0) := (blk_cell BK133.out 3).trans rfl
                               have hcz46_4 : w29.cell? ⟨gb133, 4, none⟩ = some (.slice none 0 0) := (blk_cell BK133.out 4).trans rfl
                               have hfz46_0 := blk_frozen BK133.out 0
                               have hfz46_1 := blk_frozen BK133.out 1
                               have hfz46_2 := blk_frozen BK133.out 2
                               have hfz46_3 := blk_frozen BK133.out 3
                               have hfz46_4 := blk_frozen BK133.out 4
                               have hcz47_0 : w29.cell? ⟨gb130, 0, none⟩ = some (.int .i64 a0_0) := (blk_cell BK130.out 0).trans rfl
                               have hcz47_1 : w29.cell? ⟨gb130, 1, none⟩ = some (.int .i64 a0_1) := (blk_cell BK130.out 1).trans rfl
                               have hcz47_2 : w29.cell? ⟨gb130, 2, none⟩ = some (.int .i64 a0_2) := (blk_cell BK130.out 2).trans rfl
                               have hcz47_3 : w29.cell? ⟨gb130, 3, none⟩ = some (.int .i64 a0_3) := (blk_cell BK130.out 3).trans rfl
                               have hcz47_4 : w29.cell? ⟨gb130, 4, none⟩ = some (.slice (some ad132) l0_4.length c0_4) := (blk_cell BK130.out 4).trans rfl
                               have hfz47_0 := blk_frozen BK130.out 0
                               have hfz47_1 := blk_frozen BK130.out 1
                               have hfz47_2 := blk_frozen BK130.out 2
                               have hfz47_3 := blk_frozen BK130.out 3
                               have hfz47_4 := blk_frozen BK130.out 4
                               go_wp2_with (first | (go_at_call 58; (with_reducible refine (ih k3 (by have := HJ1.out; have := HJ17.out; have := HK3.out; omega) ((rd_T72 l0_4 x4_3).f0) ((rd_T72 l0_4 x4_3).f1) ((rd_T72 l0_4 x4_3).f2) ((rd_T72 l0_4 x4_3).f3) _ _ ((rd_T72 l0_4 x4_3).f4) t134 _ ?side1 ?side2 A44.out).mono ?_); (case side1 => exact Kd.C_below HR132_4.out (by repeat (first | (with_reducible first | exact HB.out | apply below_alloc | apply pw_below_drewN | apply below_drew1 | refine below_set ?_ GE130.out | refine below_set ?_ GE133.out) | exact HB.out))); (case side2 => exact HC132_4.out); rintro e w48 ⟨rfl, hb⟩; have n0_ := Aside0.mk (blk_below (g := gb130) (o := .cells #[.int .i64 a0_0, .int .i64 a0_1, .int .i64 a0_2, .int .i64 a0_3, .slice (some ad132) l0_4.length c0_4] 72 (0, 0)) (by (with_reducible repeat (first | refine blk_drewN ?_ _ | refine blk_drew ?_ | refine blk_alloc ?_ _)); refine blk_far ?_ NB130_133.out _; (with_reducible repeat (first | refine blk_drewN ?_ _ | refine blk_drew ?_ | refine blk_alloc ?_ _)); refine blk_far ?_ NB130_133.out _; (with_reducible repeat (first | refine blk_drewN ?_ _ | refine blk_drew ?_ | refine blk_alloc ?_ _)); refine blk_far ?_ NB130_133.out _; (with_reducible repeat (first | refine blk_drewN ?_ _ | refine blk_drew ?_ | refine blk_alloc ?_ _)); refine blk_far ?_ NB130_133.out _; (with_reducible repeat (first | refine blk_drewN ?_ _ | refine blk_drew ?_ | refine blk_alloc ?_ _)); refine blk_far ?_ NB130_133.out _; (with_reducible repeat (first | refine blk_drewN ?_ _ | refine blk_drew ?_ | refine blk_alloc ?_ _)); exact BK130.out) hb); have n1_ := Aside0.mk (blk_below (g := gb133) (o := .cells #[.int .i64 ((rd_T72 l0_4 x4_3).f0), .int .i64 ((rd_T72 l0_4 x4_3).f1), .int .i64 ((rd_T72 l0_4 x4_3).f2), .int .i64 ((rd_T72 l0_4 x4_3).f3), .slice A132_4 ((rd_T72 l0_4 x4_3).f4).length c132_4] 72 (0, 0)) (by (with_reducible repeat (first | refine blk_drewN ?_ _ | refine blk_drew ?_ | refine blk_alloc ?_ _)); refine blk_put (cs := #[.int .i64 ((rd_T72 l0_4 x4_3).f0), .int .i64 ((rd_T72 l0_4 x4_3).f1), .int .i64 ((rd_T72 l0_4 x4_3).f2), .int .i64 ((rd_T72 l0_4 x4_3).f3), .slice none 0 0]) ?_ 4 _ rfl; (with_reducible repeat (first | refine blk_drewN ?_ _ | refine blk_drew ?_ | refine blk_alloc ?_ _)); refine blk_put (cs := #[.int .i64 ((rd_T72 l0_4 x4_3).f0), .int .i64 ((rd_T72 l0_4 x4_3).f1), .int .i64 ((rd_T72 l0_4 x4_3).f2), .int .i64 0, .slice none 0 0]) ?_ 3 _ rfl; (with_reducible repeat (first | refine blk_drewN ?_ _ | refine blk_drew ?_ | refine blk_alloc ?_ _)); refine blk_put (cs := #[.int .i64 ((rd_T72 l0_4 x4_3).f0), .int .i64 ((rd_T72 l0_4 x4_3).f1), .int .i64 0, .int .i64 0, .slice none 0 0]) ?_ 2 _ rfl; (with_reducible repeat (first | refine blk_drewN ?_ _ | refine blk_drew ?_ | refine blk_alloc ?_ _)); refine blk_put (cs := #[.int .i64 ((rd_T72 l0_4 x4_3).f0), .int .i64 0, .int .i64 0, .int .i64 0, .slice none 0 0]) ?_ 1 _ rfl; (with_reducible repeat (first | refine blk_drewN ?_ _ | refine blk_drew ?_ | refine blk_alloc ?_ _)); refine blk_put (cs := #[.int .i64 0, .int .i64 0, .int .i64 0, .int .i64 0, .slice none 0 0]) ?_ 0 _ rfl; (with_reducible repeat (first | refine blk_drewN ?_ _ | refine blk_drew ?_ | refine blk_alloc ?_ _)); exact BK133.out) hb); have n2_ := Aside0.mk (below_step (by repeat (first | (with_reducible first | exact HB.out | apply below_alloc | apply pw_below_drewN | apply below_drew1 | refine below_set ?_ GE130.out | refine below_set ?_ GE133.out) | exact HB.out)) hb); clear BK130; clear BK133; clear HB; have BK130 := n0_; have BK133 := n1_; have HB := n2_; clear n0_ n1_ n2_; (try clear hb); (try clear hb2); (try clear hk); (try clear hi)))
                               go_meet
                               case rel => exact ⟨_, (!t134), (by first | rfl | (simp; done) | (simp [*]; done)), H', ⟨by have := HJ1.out; have := HJ17.out; have := HK3.out; first | omega | exact Nat.le_refl _⟩, ⟨by (with_reducible repeat (first | refine blk_drewN ?_ _ | refine blk_drew ?_ | refine blk_alloc ?_ _)); exact BK130.out⟩, ⟨by (with_reducible repeat (first | refine blk_drewN ?_ _ | refine blk_drew ?_ | refine blk_alloc ?_ _)); exact BK133.out⟩, ⟨by repeat (first | (with_reducible first | exact HB.out | apply below_alloc | apply pw_below_drewN | apply below_drew1 | refine below_set ?_ GE130.out | refine below_set ?_ GE133.out) | exact HB.out)⟩⟩
                       case rest =>
                         clear HC27
                         try clear c1
                         try clear p1
                         try clear q1
                         try clear hx1
                         try clear c2
                         try clear p2
                         try clear c3
                         try clear c4
                         try clear c4b0
                         try clear c5
                         try clear c6
                         try clear c6b0
                         try clear p6
                         try clear c8
                         try clear c8b0
                         try clear c11
                         try clear c12
                         try clear c12b0
                         try clear c12b1
                         try clear c13
                         try clear c13b0
                         try clear c13b1
                         try clear c13b2
                         try clear p13
                         try clear q13
                         try clear hx13
                         try clear c14
                         try clear c14b0
                         try clear c20
                         try clear c20b0
                         try clear c20b1
                         try clear c23
                         try clear c25
                         try clear c25b0
                         try clear c26
                         try clear c26b0
                         try clear c30
                         try clear c32
                         try clear c32b0
                         try clear c32b1
                         try clear c33
                         try clear c36
                         try clear c36b0
                         try clear c37
                         try clear c40
                         try clear c40b0
                         try clear c41
                         try clear c45
                         try clear hcz10_0
                         try clear hcz10_1
                         try clear hcz10_2
                         try clear hcz10_3
                         try clear hcz10_4
                         try clear hcz15_0
                         try clear hcz15_1
                         try clear hcz15_2
                         try clear hcz15_3
                         try clear hcz15_4
                         try clear hcz16_0
                         try clear hcz16_1
                         try clear hcz16_2
                         try clear hcz16_3
                         try clear hcz16_4
                         try clear hcz17_0
                         try clear hcz17_1
                         try clear hcz17_2
                         try clear hcz17_3
                         try clear hcz17_4
                         try clear hcz19_0
                         try clear hcz19_1
                         try clear hcz19_2
                         try clear hcz19_3
                         try clear hcz19_4
                         try clear hcz21_0
                         try clear hcz21_1
                         try clear hcz21_2
                         try clear hcz21_3
                         try clear hcz21_4
                         try clear hcz22_0
                         try clear hcz22_1
                         try clear hcz22_2
                         try clear hcz22_3
                         try clear hcz22_4
                         try clear hcz24_0
                         try clear hcz24_1
                         try clear hcz24_2
                         try clear hcz24_3
                         try clear hcz24_4
                         try clear hcz28_0
                         try clear hcz28_1
                         try clear hcz28_2
                         try clear hcz28_3
                         try clear hcz28_4
                         try clear hcz31_0
                         try clear hcz31_1
                         try clear hcz31_2
                         try clear hcz31_3
                         try clear hcz31_4
                         try clear hcz34_0
                         try clear hcz34_1
                         try clear hcz34_2
                         try clear hcz34_3
                         try clear hcz34_4
                         try clear hcz35_0
                         try clear hcz35_1
                         try clear hcz35_2
                         try clear hcz35_3
                         try clear hcz35_4
                         try clear hcz38_0
                         try clear hcz38_1
                         try clear hcz38_2
                         try clear hcz38_3
                         try clear hcz38_4
                         try clear hcz39_0
                         try clear hcz39_1
                         try clear hcz39_2
                         try clear hcz39_3
                         try clear hcz39_4
                         try clear hcz42_0
                         try clear hcz42_1
                         try clear hcz42_2
                         try clear hcz42_3
                         try clear hcz42_4
                         try clear hcz43_0
                         try clear hcz43_1
                         try clear hcz43_2
                         try clear hcz43_3
                         try clear hcz43_4
                         try clear hcz46_0
                         try clear hcz46_1
                         try clear hcz46_2
                         try clear hcz46_3
                         try clear hcz46_4
                         try clear hcz47_0
                         try clear hcz47_1
                         try clear hcz47_2
                         try clear hcz47_3
                         try clear hcz47_4
                         try clear hcz5_0
                         try clear hcz5_1
                         try clear hcz5_2
                         try clear hcz5_3
                         try clear hcz5_4
                         try clear hcz7_0
                         try clear hcz7_1
                         try clear hcz7_2
                         try clear hcz7_3
                         try clear hcz7_4
                         try clear hcz9_0
                         try clear hcz9_1
                         try clear hcz9_2
                         try clear hcz9_3
                         try clear hcz9_4
                         try clear hfz10_0
                         try clear hfz10_1
                         try clear hfz10_2
                         try clear hfz10_3
                         try clear hfz10_4
                         try clear hfz15_0
                         try clear hfz15_1
                         try clear hfz15_2
                         try clear hfz15_3
                         try clear hfz15_4
                         try clear hfz16_0
                         try clear hfz16_1
                         try clear hfz16_2
                         try clear hfz16_3
                         try clear hfz16_4
                         try clear hfz17_0
                         try clear hfz17_1
                         try clear hfz17_2
                         try clear hfz17_3
                         try clear hfz17_4
                         try clear hfz19_0
                         try clear hfz19_1
                         try clear hfz19_2
                         try clear hfz19_3
                         try clear hfz19_4
                         try clear hfz21_0
                         try clear hfz21_1
                         try clear hfz21_2
                         try clear hfz21_3
                         try clear hfz21_4
                         try clear hfz22_0
                         try clear hfz22_1
                         try clear hfz22_2
                         try clear hfz22_3
                         try clear hfz22_4
                         try clear hfz24_0
                         try clear hfz24_1
                         try clear hfz24_2
                         try clear hfz24_3
                         try clear hfz24_4
                         try clear hfz28_0
                         try clear hfz28_1
                         try clear hfz28_2
                         try clear hfz28_3
                         try clear hfz28_4
                         try clear hfz31_0
                         try clear hfz31_1
                         try clear hfz31_2
                         try clear hfz31_3
                         try clear hfz31_4
                         try clear hfz34_0
                         try clear hfz34_1
                         try clear hfz34_2
                         try clear hfz34_3
                         try clear hfz34_4
                         try clear hfz35_0
                         try clear hfz35_1
                         try clear hfz35_2
                         try clear hfz35_3
                         try clear hfz35_4
                         try clear hfz38_0
                         try clear hfz38_1
                         try clear hfz38_2
                         try clear hfz38_3
                         try clear hfz38_4
                         try clear hfz39_0
                         try clear hfz39_1
                         try clear hfz39_2
                         try clear hfz39_3
                         try clear hfz39_4
                         try clear hfz42_0
                         try clear hfz42_1
                         try clear hfz42_2
                         try clear hfz42_3
                         try clear hfz42_4
                         try clear hfz43_0
                         try clear hfz43_1
                         try clear hfz43_2
                         try clear hfz43_3
                         try clear hfz43_4
                         try clear hfz46_0
                         try clear hfz46_1
                         try clear hfz46_2
                         try clear hfz46_3
                         try clear hfz46_4
                         try clear hfz47_0
                         try clear hfz47_1
                         try clear hfz47_2
                         try clear hfz47_3
                         try clear hfz47_4
                         try clear hfz5_0
                         try clear hfz5_1
                         try clear hfz5_2
                         try clear hfz5_3
                         try clear hfz5_4
                         try clear hfz7_0
                         try clear hfz7_1
                         try clear hfz7_2
                         try clear hfz7_3
                         try clear hfz7_4
                         try clear hfz9_0
                         try clear hfz9_1
                         try clear hfz9_2
                         try clear hfz9_3
                         try clear hfz9_4
                         try clear hx132_0
                         try clear hx132_1
                         try clear hx132_2
                         try clear hx132_3
                         try clear hx132_4
                         try clear p132
                         try clear p2
                         try clear p6
                         try clear q132
                         obtain ⟨kq, x89_26, rfl, HA, HJ26, BK130, BK133, HB⟩ := hcut
                         cases kq with
                         | zero => exact absurd HA.out (by simp [mullionref04_sizes.j3])
                         | succ kj26 =>
                           have H := HA.out
                           clear HA
                           simp only [mullionref04_sizes.j3] at H
                           by_cases c49 : x89_26 = true
                           · subst c49
                             have H1 : (some false) = some r := by rw [if_pos rfl] at H; exact H
                             clear H
                             have H := H1
                             clear H1
                             obtain rfl := Option.some.inj H
                             go_wp2
                             go_ret
                             exact ⟨by first | rfl | (simp [errW_none, errW_some] <;> rfl) | (simp [*, errW_none, errW_some] <;> rfl), by repeat (first | (with_reducible first | exact HB.out | apply below_alloc | apply pw_below_drewN | apply below_drew1 | refine below_set ?_ GE130.out | refine below_set ?_ GE133.out) | exact HB.out)⟩
                           · replace c49 := Bool.eq_false_iff.mpr c49
                             subst c49
                             have H1 : (if a0_0 = 2 then (if ((rd_T72 l0_4 x4_3).f2) = a0_2 then (if a0_0 = 3 then (if ((rd_T72 l0_4 x4_3).f1) = a0_1 then ((mullionref04_extent.f ((rd_T72 l0_4 x4_3).f0) ((rd_T72 l0_4 x4_3).f1) ((rd_T72 l0_4 x4_3).f2) ((rd_T72 l0_4 x4_3).f3) ((rd_T72 l0_4 x4_3).f4) a0_0).bind fun t135 => (mullionref04_sizes.l0 kj26 (wrap64 (x3_3 + t135)) (wrap64 (x4_3 + 1)) a0_0 a0_1 a0_2 a0_3 l0_4)) else (some false)) else ((mullionref04_extent.f ((rd_T72 l0_4 x4_3).f0) ((rd_T72 l0_4 x4_3).f1) ((rd_T72 l0_4 x4_3).f2) ((rd_T72 l0_4 x4_3).f3) ((rd_T72 l0_4 x4_3).f4) a0_0).bind fun t136 => (mullionref04_sizes.l0 kj26 (wrap64 (x3_3 + t136)) (wrap64 (x4_3 + 1)) a0_0 a0_1 a0_2 a0_3 l0_4))) else (some false)) else (if a0_0 = 3 then (if ((rd_T72 l0_4 x4_3).f1) = a0_1 then ((mullionref04_extent.f ((rd_T72 l0_4 x4_3).f0) ((rd_T72 l0_4 x4_3).f1) ((rd_T72 l0_4 x4_3).f2) ((rd_T72 l0_4 x4_3).f3) ((rd_T72 l0_4 x4_3).f4) a0_0).bind fun t137 => (mullionref04_sizes.l0 kj26 (wrap64 (x3_3 + t137)) (wrap64 (x4_3 + 1)) a0_0 a0_1 a0_2 a0_3 l0_4)) else (some false)) else ((mullionref04_extent.f ((rd_T72 l0_4 x4_3).f0) ((rd_T72 l0_4 x4_3).f1) ((rd_T72 l0_4 x4_3).f2) ((rd_T72 l0_4 x4_3).f3) ((rd_T72 l0_4 x4_3).f4) a0_0).bind fun t138 => (mullionref04_sizes.l0 kj26 (wrap64 (x3_3 + t138)) (wrap64 (x4_3 + 1)) a0_0 a0_1 a0_2 a0_3 l0_4)))) = some r := by rw [if_neg (show ¬ (false = true) by decide)] at H; exact H
                             clear H
                             have H := H1
                             clear H1
                             by_cases c50 : a0_0 = 2
                             · rw [if_pos c50] at H
                               have c50b0 : (a0_0 == 2) = true := beq_iff_eq.mpr c50
                               have c50b1 : (a0_0 != 2) = false := bne_eq_false_iff_eq.mpr c50
                               clear c50
                               by_cases c51 : ((rd_T72 l0_4 x4_3).f2) = a0_2
                               · rw [if_pos c51] at H
                                 have c51b0 : (((rd_T72 l0_4 x4_3).f2) == a0_2) = true := beq_iff_eq.mpr c51
                                 have c51b1 : (((rd_T72 l0_4 x4_3).f2) != a0_2) = false := bne_eq_false_iff_eq.mpr c51
                                 clear c51
                                 by_cases c52 : a0_0 = 3
                                 · rw [if_pos c52] at H
                                   have c52b0 : (a0_0 == 3) = true := beq_iff_eq.mpr c52
                                   have c52b1 : (a0_0 != 3) = false := bne_eq_false_iff_eq.mpr c52
                                   clear c52
                                   by_cases c53 : ((rd_T72 l0_4 x4_3).f1) = a0_1
                                   · rw [if_pos c53] at H
                                     have c53b0 : (((rd_T72 l0_4 x4_3).f1) == a0_1) = true := beq_iff_eq.mpr c53
                                     have c53b1 : (((rd_T72 l0_4 x4_3).f1) != a0_1) = false := bne_eq_false_iff_eq.mpr c53
                                     clear c53
                                     replace H := Option.bind_eq_some_iff.mp H
                                     obtain ⟨t135, A540, H⟩ := H
                                     replace H : (mullionref04_sizes.l0 kj26 (wrap64 (x3_3 + t135)) (wrap64 (x4_3 + 1)) a0_0 a0_1 a0_2 a0_3 l0_4) = some r := H
                                     have A54 := Aside0.mk A540
                                     clear A540
                                     have H' := Aside0.mk H
                                     clear H
                                     have hnb55 := NB130_133.out
                                     have hnc55 := NB133_130.out
                                     have hcz56_0 : wc.cell? ⟨gb130, 0, none⟩ = some (.int .i64 a0_0) := (blk_cell BK130.out 0).trans rfl
                                     have hcz56_1 : wc.cell? ⟨gb130, 1, none⟩ = some (.int .i64 a0_1) := (blk_cell BK130.out 1).trans rfl
                                     have hcz56_2 : wc.cell? ⟨gb130, 2, none⟩ = some (.int .i64 a0_2) := (blk_cell BK130.out 2).trans rfl
                                     have hcz56_3 : wc.cell? ⟨gb130, 3, none⟩ = some (.int .i64 a0_3) := (blk_cell BK130.out 3).trans rfl
                                     have hcz56_4 : wc.cell? ⟨gb130, 4, none⟩ = some (.slice (some ad132) l0_4.length c0_4) := (blk_cell BK130.out 4).trans rfl
                                     have hfz56_0 := blk_frozen BK130.out 0
                                     have hfz56_1 := blk_frozen BK130.out 1
                                     have hfz56_2 := blk_frozen BK130.out 2
                                     have hfz56_3 := blk_frozen BK130.out 3
                                     have hfz56_4 := blk_frozen BK130.out 4
                                     have hcz57_0 : wc.cell? ⟨gb133, 0, none⟩ = some (.int .i64 ((rd_T72 l0_4 x4_3).f0)) := (blk_cell BK133.out 0).trans rfl
                                     have hcz57_1 : wc.cell? ⟨gb133, 1, none⟩ = some (.int .i64 ((rd_T72 l0_4 x4_3).f1)) := (blk_cell BK133.out 1).trans rfl
                                     have hcz57_2 : wc.cell? ⟨gb133, 2, none⟩ = some (.int .i64 ((rd_T72 l0_4 x4_3).f2)) := (blk_cell BK133.out 2).trans rfl
                                     have hcz57_3 : wc.cell? ⟨gb133, 3, none⟩ = some (.int .i64 ((rd_T72 l0_4 x4_3).f3)) := (blk_cell BK133.out 3).trans rfl
                                     have hcz57_4 : wc.cell? ⟨gb133, 4, none⟩ = some (.slice A132_4 ((rd_T72 l0_4 x4_3).f4).length c132_4) := (blk_cell BK133.out 4).trans rfl
                                     have hfz57_0 := blk_frozen BK133.out 0
                                     have hfz57_1 := blk_frozen BK133.out 1
                                     have hfz57_2 := blk_frozen BK133.out 2
                                     have hfz57_3 := blk_frozen BK133.out 3
                                     have hfz57_4 := blk_frozen BK133.out 4
                                     go_wp2_with (first | ((with_reducible refine gate_callee (f := 70) rfl ?_); refine goesL_ (some 116) rfl rfl Tryd.func70 (by kernel_rfl) rfl #[.agg #[.int .i64 ((rd_T72 l0_4 x4_3).f0), .int .i64 ((rd_T72 l0_4 x4_3).f1), .int .i64 ((rd_T72 l0_4 x4_3).f2), .int .i64 ((rd_T72 l0_4 x4_3).f3), .slice A132_4 ((rd_T72 l0_4 x4_3).f4).length c132_4], .int .i64 a0_0] rfl (by (try simp only [List.map_toArray, List.map_cons, List.map_nil]); first | done | rfl | (simp only [List.length_drop, List.length_take]; rfl)) ?_; (with_reducible refine (mullionref04_extent.calls ((rd_T72 l0_4 x4_3).f0) ((rd_T72 l0_4 x4_3).f1) ((rd_T72 l0_4 x4_3).f2) ((rd_T72 l0_4 x4_3).f3) _ _ ((rd_T72 l0_4 x4_3).f4) a0_0 t135 _ ?side1 ?side2 A54.out).mono ?_); (case side1 => repeat (first | exact (Kd.C_below HR132_4.out HB.out) | (with_reducible refine Kd.C_alloc ?_ _) | (with_reducible refine Kd.C_drewN ?_ _) | (with_reducible refine Kd.C_drew ?_))); (case side2 => exact HC132_4.out); rintro e w58 ⟨rfl, hb⟩; refine ⟨_, rfl, ?_⟩; have n0_ := Aside0.mk (blk_below (g := gb130) (o := .cells #[.int .i64 a0_0, .int .i64 a0_1, .int .i64 a0_2, .int .i64 a0_3, .slice (some ad132) l0_4.length c0_4] 72 (0, 0)) (by (with_reducible repeat (first | refine blk_drewN ?_ _ | refine blk_drew ?_ | refine blk_alloc ?_ _)); exact BK130.out) hb); have n1_ := Aside0.mk (blk_below (g := gb133) (o := .cells #[.int .i64 ((rd_T72 l0_4 x4_3).f0), .int .i64 ((rd_T72 l0_4 x4_3).f1), .int .i64 ((rd_T72 l0_4 x4_3).f2), .int .i64 ((rd_T72 l0_4 x4_3).f3), .slice A132_4 ((rd_T72 l0_4 x4_3).f4).length c132_4] 72 (0, 0)) (by (with_reducible repeat (first | refine blk_drewN ?_ _ | refine blk_drew ?_ | refine blk_alloc ?_ _)); exact BK133.out) hb); have n2_ := Aside0.mk (below_step (by repeat (first | (with_reducible first | exact HB.out | apply below_alloc | apply pw_below_drewN | apply below_drew1 | refine below_set ?_ GE130.out | refine below_set ?_ GE133.out) | exact HB.out)) hb); clear BK130; clear BK133; clear HB; have BK130 := n0_; have BK133 := n1_; have HB := n2_; clear n0_ n1_ n2_; (try clear hb); (try clear hb2); (try clear hk); (try clear hi)))
                                     go_roundg kj26
                                     case measure => have := HJ1.out; have := HJ17.out; have := HK3.out; have := HJ26.out; omega
                                     case rel => exact ⟨(wrap64 (x3_3 + t135)), (wrap64 (x4_3 + 1)), (by first | rfl | (simp; done) | (simp [*]; done)), (by first | rfl | (simp; done) | (simp [*]; done)), H', ⟨by have := HJ1.out; have := HJ17.out; have := HK3.out; have := HJ26.out; omega⟩, ⟨by (with_reducible repeat (first | refine blk_drewN ?_ _ | refine blk_drew ?_ | refine blk_alloc ?_ _)); exact BK130.out⟩, ⟨by repeat (first | (with_reducible first | exact HB.out | apply below_alloc | apply pw_below_drewN | apply below_drew1 | refine below_set ?_ GE130.out | refine below_set ?_ GE133.out) | exact HB.out)⟩⟩
                                   · rw [if_neg c53] at H
                                     have c53b0 : (((rd_T72 l0_4 x4_3).f1) == a0_1) = false := beq_eq_false_iff_ne.mpr c53
                                     have c53b1 : (((rd_T72 l0_4 x4_3).f1) != a0_1) = true := bne_iff_ne.mpr c53
                                     obtain rfl := Option.some.inj H
                                     have hnb59 := NB130_133.out
                                     have hnc59 := NB133_130.out
                                     have hcz60_0 : wc.cell? ⟨gb130, 0, none⟩ = some (.int .i64 a0_0) := (blk_cell BK130.out 0).trans rfl
                                     have hcz60_1 : wc.cell? ⟨gb130, 1, none⟩ = some (.int .i64 a0_1) := (blk_cell BK130.out 1).trans rfl
                                     have hcz60_2 : wc.cell? ⟨gb130, 2, none⟩ = some (.int .i64 a0_2) := (blk_cell BK130.out 2).trans rfl
                                     have hcz60_3 : wc.cell? ⟨gb130, 3, none⟩ = some (.int .i64 a0_3) := (blk_cell BK130.out 3).trans rfl
                                     have hcz60_4 : wc.cell? ⟨gb130, 4, none⟩ = some (.slice (some ad132) l0_4.length c0_4) := (blk_cell BK130.out 4).trans rfl
                                     have hfz60_0 := blk_frozen BK130.out 0
                                     have hfz60_1 := blk_frozen BK130.out 1
                                     have hfz60_2 := blk_frozen BK130.out 2
                                     have hfz60_3 := blk_frozen BK130.out 3
                                     have hfz60_4 := blk_frozen BK130.out 4
                                     have hcz61_0 : wc.cell? ⟨gb133, 0, none⟩ = some (.int .i64 ((rd_T72 l0_4 x4_3).f0)) := (blk_cell BK133.out 0).trans rfl
                                     have hcz61_1 : wc.cell? ⟨gb133, 1, none⟩ = some (.int .i64 ((rd_T72 l0_4 x4_3).f1)) := (blk_cell BK133.out 1).trans rfl
                                     have hcz61_2 : wc.cell? ⟨gb133, 2, none⟩ = some (.int .i64 ((rd_T72 l0_4 x4_3).f2)) := (blk_cell BK133.out 2).trans rfl
                                     have hcz61_3 : wc.cell? ⟨gb133, 3, none⟩ = some (.int .i64 ((rd_T72 l0_4 x4_3).f3)) := (blk_cell BK133.out 3).trans rfl
                                     have hcz61_4 : wc.cell? ⟨gb133, 4, none⟩ = some (.slice A132_4 ((rd_T72 l0_4 x4_3).f4).length c132_4) := (blk_cell BK133.out 4).trans rfl
                                     have hfz61_0 := blk_frozen BK133.out 0
                                     have hfz61_1 := blk_frozen BK133.out 1
                                     have hfz61_2 := blk_frozen BK133.out 2
                                     have hfz61_3 := blk_frozen BK133.out 3
                                     have hfz61_4 := blk_frozen BK133.out 4
                                     go_wp2
                                     go_ret
                                     exact ⟨by first | rfl | (simp [errW_none, errW_some] <;> rfl) | (simp [*, errW_none, errW_some] <;> rfl), by repeat (first | (with_reducible first | exact HB.out | apply below_alloc | apply pw_below_drewN | apply below_drew1 | refine below_set ?_ GE130.out | refine below_set ?_ GE133.out) | exact HB.out)⟩
                                 · rw [if_neg c52] at H
                                   have c52b0 : (a0_0 == 3) = false := beq_eq_false_iff_ne.mpr c52
                                   have c52b1 : (a0_0 != 3) = true := bne_iff_ne.mpr c52
                                   replace H := Option.bind_eq_some_iff.mp H
                                   obtain ⟨t136, A620, H⟩ := H
                                   replace H : (mullionref04_sizes.l0 kj26 (wrap64 (x3_3 + t136)) (wrap64 (x4_3 + 1)) a0_0 a0_1 a0_2 a0_3 l0_4) = some r := H
                                   have A62 := Aside0.mk A620
                                   clear A620
                                   have H' := Aside0.mk H
                                   clear H
                                   have hnb63 := NB130_133.out
                                   have hnc63 := NB133_130.out
                                   have hcz64_0 : wc.cell? ⟨gb130, 0, none⟩ = some (.int .i64 a0_0) := (blk_cell BK130.out 0).trans rfl
                                   have hcz64_1 : wc.cell? ⟨gb130, 1, none⟩ = some (.int .i64 a0_1) := (blk_cell BK130.out 1).trans rfl
                                   have hcz64_2 : wc.cell? ⟨gb130, 2, none⟩ = some (.int .i64 a0_2) := (blk_cell BK130.out 2).trans rfl
                                   have hcz64_3 : wc.cell? ⟨gb130, 3, none⟩ = some (.int .i64 a0_3) := (blk_cell BK130.out 3).trans rfl
                                   have hcz64_4 : wc.cell? ⟨gb130, 4, none⟩ = some (.slice (some ad132) l0_4.length c0_4) := (blk_cell BK130.out 4).trans rfl
                                   have hfz64_0 := blk_frozen BK130.out 0
                                   have hfz64_1 := blk_frozen BK130.out 1
                                   have hfz64_2 := blk_frozen BK130.out 2
                                   have hfz64_3 := blk_frozen BK130.out 3
                                   have hfz64_4 := blk_frozen BK130.out 4
                                   have hcz65_0 : wc.cell? ⟨gb133, 0, none⟩ = some (.int .i64 ((rd_T72 l0_4 x4_3).f0)) := (blk_cell BK133.out 0).trans rfl
                                   have hcz65_1 : wc.cell? ⟨gb133, 1, none⟩ = some (.int .i64 ((rd_T72 l0_4 x4_3).f1)) := (blk_cell BK133.out 1).trans rfl
                                   have hcz65_2 : wc.cell? ⟨gb133, 2, none⟩ = some (.int .i64 ((rd_T72 l0_4 x4_3).f2)) := (blk_cell BK133.out 2).trans rfl
                                   have hcz65_3 : wc.cell? ⟨gb133, 3, none⟩ = some (.int .i64 ((rd_T72 l0_4 x4_3).f3)) := (blk_cell BK133.out 3).trans rfl
                                   have hcz65_4 : wc.cell? ⟨gb133, 4, none⟩ = some (.slice A132_4 ((rd_T72 l0_4 x4_3).f4).length c132_4) := (blk_cell BK133.out 4).trans rfl
                                   have hfz65_0 := blk_frozen BK133.out 0
                                   have hfz65_1 := blk_frozen BK133.out 1
                                   have hfz65_2 := blk_frozen BK133.out 2
                                   have hfz65_3 := blk_frozen BK133.out 3
                                   have hfz65_4 := blk_frozen BK133.out 4
                                   go_wp2_with (first | ((with_reducible refine gate_callee (f := 70) rfl ?_); refine goesL_ (some 116) rfl rfl Tryd.func70 (by kernel_rfl) rfl #[.agg #[.int .i64 ((rd_T72 l0_4 x4_3).f0), .int .i64 ((rd_T72 l0_4 x4_3).f1), .int .i64 ((rd_T72 l0_4 x4_3).f2), .int .i64 ((rd_T72 l0_4 x4_3).f3), .slice A132_4 ((rd_T72 l0_4 x4_3).f4).length c132_4], .int .i64 a0_0] rfl (by (try simp only [List.map_toArray, List.map_cons, List.map_nil]); first | done | rfl | (simp only [List.length_drop, List.length_take]; rfl)) ?_; (with_reducible refine (mullionref04_extent.calls ((rd_T72 l0_4 x4_3).f0) ((rd_T72 l0_4 x4_3).f1) ((rd_T72 l0_4 x4_3).f2) ((rd_T72 l0_4 x4_3).f3) _ _ ((rd_T72 l0_4 x4_3).f4) a0_0 t136 _ ?side1 ?side2 A62.out).mono ?_); (case side1 => repeat (first | exact (Kd.C_below HR132_4.out HB.out) | (with_reducible refine Kd.C_alloc ?_ _) | (with_reducible refine Kd.C_drewN ?_ _) | (with_reducible refine Kd.C_drew ?_))); (case side2 => exact HC132_4.out); rintro e w66 ⟨rfl, hb⟩; refine ⟨_, rfl, ?_⟩; have n0_ := Aside0.mk (blk_below (g := gb130) (o := .cells #[.int .i64 a0_0, .int .i64 a0_1, .int .i64 a0_2, .int .i64 a0_3, .slice (some ad132) l0_4.length c0_4] 72 (0, 0)) (by (with_reducible repeat (first | refine blk_drewN ?_ _ | refine blk_drew ?_ | refine blk_alloc ?_ _)); exact BK130.out) hb); have n1_ := Aside0.mk (blk_below (g := gb133) (o := .cells #[.int .i64 ((rd_T72 l0_4 x4_3).f0), .int .i64 ((rd_T72 l0_4 x4_3).f1), .int .i64 ((rd_T72 l0_4 x4_3).f2), .int .i64 ((rd_T72 l0_4 x4_3).f3), .slice A132_4 ((rd_T72 l0_4 x4_3).f4).length c132_4] 72 (0, 0)) (by (with_reducible repeat (first | refine blk_drewN ?_ _ | refine blk_drew ?_ | refine blk_alloc ?_ _)); exact BK133.out) hb); have n2_ := Aside0.mk (below_step (by repeat (first | (with_reducible first | exact HB.out | apply below_alloc | apply pw_below_drewN | apply below_drew1 | refine below_set ?_ GE130.out | refine below_set ?_ GE133.out) | exact HB.out)) hb); clear BK130; clear BK133; clear HB; have BK130 := n0_; have BK133 := n1_; have HB := n2_; clear n0_ n1_ n2_; (try clear hb); (try clear hb2); (try clear hk); (try clear hi)))
                                   go_roundg kj26
                                   case measure => have := HJ1.out; have := HJ17.out; have := HK3.out; have := HJ26.out; omega
                                   case rel => exact ⟨(wrap64 (x3_3 + t136)), (wrap64 (x4_3 + 1)), (by first | rfl | (simp; done) | (simp [*]; done)), (by first | rfl | (simp; done) | (simp [*]; done)), H', ⟨by have := HJ1.out; have := HJ17.out; have := HK3.out; have := HJ26.out; omega⟩, ⟨by (with_reducible repeat (first | refine blk_drewN ?_ _ | refine blk_drew ?_ | refine blk_alloc ?_ _)); exact BK130.out⟩, ⟨by repeat (first | (with_reducible first | exact HB.out | apply below_alloc | apply pw_below_drewN | apply below_drew1 | refine below_set ?_ GE130.out | refine below_set ?_ GE133.out) | exact HB.out)⟩⟩
                               · rw [if_neg c51] at H
                                 have c51b0 : (((rd_T72 l0_4 x4_3).f2) == a0_2) = false := beq_eq_false_iff_ne.mpr c51
                                 have c51b1 : (((rd_T72 l0_4 x4_3).f2) != a0_2) = true := bne_iff_ne.mpr c51
                                 obtain rfl := Option.some.inj H
                                 have hnb67 := NB130_133.out
                                 have hnc67 := NB133_130.out
                                 have hcz68_0 : wc.cell? ⟨gb130, 0, none⟩ = some (.int .i64 a0_0) := (blk_cell BK130.out 0).trans rfl
                                 have hcz68_1 : wc.cell? ⟨gb130, 1, none⟩ = some (.int .i64 a0_1) := (blk_cell BK130.out 1).trans rfl
                                 have hcz68_2 : wc.cell? ⟨gb130, 2, none⟩ = some (.int .i64 a0_2) := (blk_cell BK130.out 2).trans rfl
                                 have hcz68_3 : wc.cell? ⟨gb130, 3, none⟩ = some (.int .i64 a0_3) := (blk_cell BK130.out 3).trans rfl
                                 have hcz68_4 : wc.cell? ⟨gb130, 4, none⟩ = some (.slice (some ad132) l0_4.length c0_4) := (blk_cell BK130.out 4).trans rfl
                                 have hfz68_0 := blk_frozen BK130.out 0
                                 have hfz68_1 := blk_frozen BK130.out 1
                                 have hfz68_2 := blk_frozen BK130.out 2
                                 have hfz68_3 := blk_frozen BK130.out 3
                                 have hfz68_4 := blk_frozen BK130.out 4
                                 have hcz69_0 : wc.cell? ⟨gb133, 0, none⟩ = some (.int .i64 ((rd_T72 l0_4 x4_3).f0)) := (blk_cell BK133.out 0).trans rfl
                                 have hcz69_1 : wc.cell? ⟨gb133, 1, none⟩ = some (.int .i64 ((rd_T72 l0_4 x4_3).f1)) := (blk_cell BK133.out 1).trans rfl
                                 have hcz69_2 : wc.cell? ⟨gb133, 2, none⟩ = some (.int .i64 ((rd_T72 l0_4 x4_3).f2)) := (blk_cell BK133.out 2).trans rfl
                                 have hcz69_3 : wc.cell? ⟨gb133, 3, none⟩ = some (.int .i64 ((rd_T72 l0_4 x4_3).f3)) := (blk_cell BK133.out 3).trans rfl
                                 have hcz69_4 : wc.cell? ⟨gb133, 4, none⟩ = some (.slice A132_4 ((rd_T72 l0_4 x4_3).f4).length c132_4) := (blk_cell BK133.out 4).trans rfl
                                 have hfz69_0 := blk_frozen BK133.out 0
                                 have hfz69_1 := blk_frozen BK133.out 1
                                 have hfz69_2 := blk_frozen BK133.out 2
                                 have hfz69_3 := blk_frozen BK133.out 3
                                 have hfz69_4 := blk_frozen BK133.out 4
                                 go_wp2
                                 go_ret
                                 exact ⟨by first | rfl | (simp [errW_none, errW_some] <;> rfl) | (simp [*, errW_none, errW_some] <;> rfl), by repeat (first | (with_reducible first | exact HB.out | apply below_alloc | apply pw_below_drewN | apply below_drew1 | refine below_set ?_ GE130.out | refine below_set ?_ GE133.out) | exact HB.out)⟩
                             · rw [if_neg c50] at H
                               have c50b0 : (a0_0 == 2) = false := beq_eq_false_iff_ne.mpr c50
                               have c50b1 : (a0_0 != 2) = true := bne_iff_ne.mpr c50
                               by_cases c70 : a0_0 = 3
                               · rw [if_pos c70] at H
                                 have c70b0 : (a0_0 == 3) = true := beq_iff_eq.mpr c70
                                 have c70b1 : (a0_0 != 3) = false := bne_eq_false_iff_eq.mpr c70
                                 clear c70
                                 by_cases c71 : ((rd_T72 l0_4 x4_3).f1) = a0_1
                                 · rw [if_pos c71] at H
                                   have c71b0 : (((rd_T72 l0_4 x4_3).f1) == a0_1) = true := beq_iff_eq.mpr c71
                                   have c71b1 : (((rd_T72 l0_4 x4_3).f1) != a0_1) = false := bne_eq_false_iff_eq.mpr c71
                                   clear c71
                                   replace H := Option.bind_eq_some_iff.mp H
                                   obtain ⟨t137, A720, H⟩ := H
                                   replace H : (mullionref04_sizes.l0 kj26 (wrap64 (x3_3 + t137)) (wrap64 (x4_3 + 1)) a0_0 a0_1 a0_2 a0_3 l0_4) = some r := H
                                   have A72 := Aside0.mk A720
                                   clear A720
                                   have H' := Aside0.mk H
                                   clear H
                                   have hnb73 := NB130_133.out
                                   have hnc73 := NB133_130.out
                                   have hcz74_0 : wc.cell? ⟨gb130, 0, none⟩ = some (.int .i64 a0_0) := (blk_cell BK130.out 0).trans rfl
                                   have hcz74_1 : wc.cell? ⟨gb130, 1, none⟩ = some (.int .i64 a0_1) := (blk_cell BK130.out 1).trans rfl
                                   have hcz74_2 : wc.cell? ⟨gb130, 2, none⟩ = some (.int .i64 a0_2) := (blk_cell BK130.out 2).trans rfl
                                   have hcz74_3 : wc.cell? ⟨gb130, 3, none⟩ = some (.int .i64 a0_3) := (blk_cell BK130.out 3).trans rfl
                                   have hcz74_4 : wc.cell? ⟨gb130, 4, none⟩ = some (.slice (some ad132) l0_4.length c0_4) := (blk_cell BK130.out 4).trans rfl
                                   have hfz74_0 := blk_frozen BK130.out 0
                                   have hfz74_1 := blk_frozen BK130.out 1
                                   have hfz74_2 := blk_frozen BK130.out 2
                                   have hfz74_3 := blk_frozen BK130.out 3
                                   have hfz74_4 := blk_frozen BK130.out 4
                                   have hcz75_0 : wc.cell? ⟨gb133, 0, none⟩ = some (.int .i64 ((rd_T72 l0_4 x4_3).f0)) := (blk_cell BK133.out 0).trans rfl
                                   have hcz75_1 : wc.cell? ⟨gb133, 1, none⟩ = some (.int .i64 ((rd_T72 l0_4 x4_3).f1)) := (blk_cell BK133.out 1).trans rfl
                                   have hcz75_2 : wc.cell? ⟨gb133, 2, none⟩ = some (.int .i64 ((rd_T72 l0_4 x4_3).f2)) := (blk_cell BK133.out 2).trans rfl
                                   have hcz75_3 : wc.cell? ⟨gb133, 3, none⟩ = some (.int .i64 ((rd_T72 l0_4 x4_3).f3)) := (blk_cell BK133.out 3).trans rfl
                                   have hcz75_4 : wc.cell? ⟨gb133, 4, none⟩ = some (.slice A132_4 ((rd_T72 l0_4 x4_3).f4).length c132_4) := (blk_cell BK133.out 4).trans rfl
                                   have hfz75_0 := blk_frozen BK133.out 0
                                   have hfz75_1 := blk_frozen BK133.out 1
                                   have hfz75_2 := blk_frozen BK133.out 2
                                   have hfz75_3 := blk_frozen BK133.out 3
                                   have hfz75_4 := blk_frozen BK133.out 4
                                   go_wp2_with (first | ((with_reducible refine gate_callee (f := 70) rfl ?_); refine goesL_ (some 116) rfl rfl Tryd.func70 (by kernel_rfl) rfl #[.agg #[.int .i64 ((rd_T72 l0_4 x4_3).f0), .int .i64 ((rd_T72 l0_4 x4_3).f1), .int .i64 ((rd_T72 l0_4 x4_3).f2), .int .i64 ((rd_T72 l0_4 x4_3).f3), .slice A132_4 ((rd_T72 l0_4 x4_3).f4).length c132_4], .int .i64 a0_0] rfl (by (try simp only [List.map_toArray, List.map_cons, List.map_nil]); first | done | rfl | (simp only [List.length_drop, List.length_take]; rfl)) ?_; (with_reducible refine (mullionref04_extent.calls ((rd_T72 l0_4 x4_3).f0) ((rd_T72 l0_4 x4_3).f1) ((rd_T72 l0_4 x4_3).f2) ((rd_T72 l0_4 x4_3).f3) _ _ ((rd_T72 l0_4 x4_3).f4) a0_0 t137 _ ?side1 ?side2 A72.out).mono ?_); (case side1 => repeat (first | exact (Kd.C_below HR132_4.out HB.out) | (with_reducible refine Kd.C_alloc ?_ _) | (with_reducible refine Kd.C_drewN ?_ _) | (with_reducible refine Kd.C_drew ?_))); (case side2 => exact HC132_4.out); rintro e w76 ⟨rfl, hb⟩; refine ⟨_, rfl, ?_⟩; have n0_ := Aside0.mk (blk_below (g := gb130) (o := .cells #[.int .i64 a0_0, .int .i64 a0_1, .int .i64 a0_2, .int .i64 a0_3, .slice (some ad132) l0_4.length c0_4] 72 (0, 0)) (by (with_reducible repeat (first | refine blk_drewN ?_ _ | refine blk_drew ?_ | refine blk_alloc ?_ _)); exact BK130.out) hb); have n1_ := Aside0.mk (blk_below (g := gb133) (o := .cells #[.int .i64 ((rd_T72 l0_4 x4_3).f0), .int .i64 ((rd_T72 l0_4 x4_3).f1), .int .i64 ((rd_T72 l0_4 x4_3).f2), .int .i64 ((rd_T72 l0_4 x4_3).f3), .slice A132_4 ((rd_T72 l0_4 x4_3).f4).length c132_4] 72 (0, 0)) (by (with_reducible repeat (first | refine blk_drewN ?_ _ | refine blk_drew ?_ | refine blk_alloc ?_ _)); exact BK133.out) hb); have n2_ := Aside0.mk (below_step (by repeat (first | (with_reducible first | exact HB.out | apply below_alloc | apply pw_below_drewN | apply below_drew1 | refine below_set ?_ GE130.out | refine below_set ?_ GE133.out) | exact HB.out)) hb); clear BK130; clear BK133; clear HB; have BK130 := n0_; have BK133 := n1_; have HB := n2_; clear n0_ n1_ n2_; (try clear hb); (try clear hb2); (try clear hk); (try clear hi)))
                                   go_roundg kj26
                                   case measure => have := HJ1.out; have := HJ17.out; have := HK3.out; have := HJ26.out; omega
                                   case rel => exact ⟨(wrap64 (x3_3 + t137)), (wrap64 (x4_3 + 1)), (by first | rfl | (simp; done) | (simp [*]; done)), (by first | rfl | (simp; done) | (simp [*]; done)), H', ⟨by have := HJ1.out; have := HJ17.out; have := HK3.out; have := HJ26.out; omega⟩, ⟨by (with_reducible repeat (first | refine blk_drewN ?_ _ | refine blk_drew ?_ | refine blk_alloc ?_ _)); exact BK130.out⟩, ⟨by repeat (first | (with_reducible first | exact HB.out | apply below_alloc | apply pw_below_drewN | apply below_drew1 | refine below_set ?_ GE130.out | refine below_set ?_ GE133.out) | exact HB.out)⟩⟩
                                 · rw [if_neg c71] at H
                                   have c71b0 : (((rd_T72 l0_4 x4_3).f1) == a0_1) = false := beq_eq_false_iff_ne.mpr c71
                                   have c71b1 : (((rd_T72 l0_4 x4_3).f1) != a0_1) = true := bne_iff_ne.mpr c71
                                   obtain rfl := Option.some.inj H
                                   have hnb77 := NB130_133.out
                                   have hnc77 := NB133_130.out
                                   have hcz78_0 : wc.cell? ⟨gb130, 0, none⟩ = some (.int .i64 a0_0) := (blk_cell BK130.out 0).trans rfl
                                   have hcz78_1 : wc.cell? ⟨gb130, 1, none⟩ = some (.int .i64 a0_1) := (blk_cell BK130.out 1).trans rfl
                                   have hcz78_2 : wc.cell? ⟨gb130, 2, none⟩ = some (.int .i64 a0_2) := (blk_cell BK130.out 2).trans rfl
                                   have hcz78_3 : wc.cell? ⟨gb130, 3, none⟩ = some (.int .i64 a0_3) := (blk_cell BK130.out 3).trans rfl
                                   have hcz78_4 : wc.cell? ⟨gb130, 4, none⟩ = some (.slice (some ad132) l0_4.length c0_4) := (blk_cell BK130.out 4).trans rfl
                                   have hfz78_0 := blk_frozen BK130.out 0
                                   have hfz78_1 := blk_frozen BK130.out 1
                                   have hfz78_2 := blk_frozen BK130.out 2
                                   have hfz78_3 := blk_frozen BK130.out 3
                                   have hfz78_4 := blk_frozen BK130.out 4
                                   have hcz79_0 : wc.cell? ⟨gb133, 0, none⟩ = some (.int .i64 ((rd_T72 l0_4 x4_3).f0)) := (blk_cell BK133.out 0).trans rfl
                                   have hcz79_1 : wc.cell? ⟨gb133, 1, none⟩ = some (.int .i64 ((rd_T72 l0_4 x4_3).f1)) := (blk_cell BK133.out 1).trans rfl
                                   have hcz79_2 : wc.cell? ⟨gb133, 2, none⟩ = some (.int .i64 ((rd_T72 l0_4 x4_3).f2)) := (blk_cell BK133.out 2).trans rfl
                                   have hcz79_3 : wc.cell? ⟨gb133, 3, none⟩ = some (.int .i64 ((rd_T72 l0_4 x4_3).f3)) := (blk_cell BK133.out 3).trans rfl
                                   have hcz79_4 : wc.cell? ⟨gb133, 4, none⟩ = some (.slice A132_4 ((rd_T72 l0_4 x4_3).f4).length c132_4) := (blk_cell BK133.out 4).trans rfl
                                   have hfz79_0 := blk_frozen BK133.out 0
                                   have hfz79_1 := blk_frozen BK133.out 1
                                   have hfz79_2 := blk_frozen BK133.out 2
                                   have hfz79_3 := blk_frozen BK133.out 3
                                   have hfz79_4 := blk_frozen BK133.out 4
                                   go_wp2
                                   go_ret
                                   exact ⟨by first | rfl | (simp [errW_none, errW_some] <;> rfl) | (simp [*, errW_none, errW_some] <;> rfl), by repeat (first | (with_reducible first | exact HB.out | apply below_alloc | apply pw_below_drewN | apply below_drew1 | refine below_set ?_ GE130.out | refine below_set ?_ GE133.out) | exact HB.out)⟩
                               · rw [if_neg c70] at H
                                 have c70b0 : (a0_0 == 3) = false := beq_eq_false_iff_ne.mpr c70
                                 have c70b1 : (a0_0 != 3) = true := bne_iff_ne.mpr c70
                                 replace H := Option.bind_eq_some_iff.mp H
                                 obtain ⟨t138, A800, H⟩ := H
                                 replace H : (mullionref04_sizes.l0 kj26 (wrap64 (x3_3 + t138)) (wrap64 (x4_3 + 1)) a0_0 a0_1 a0_2 a0_3 l0_4) = some r := H
                                 have A80 := Aside0.mk A800
                                 clear A800
                                 have H' := Aside0.mk H
                                 clear H
                                 have hnb81 := NB130_133.out
                                 have hnc81 := NB133_130.out
                                 have hcz82_0 : wc.cell? ⟨gb130, 0, none⟩ = some (.int .i64 a0_0) := (blk_cell BK130.out 0).trans rfl
                                 have hcz82_1 : wc.cell? ⟨gb130, 1, none⟩ = some (.int .i64 a0_1) := (blk_cell BK130.out 1).trans rfl
                                 have hcz82_2 : wc.cell? ⟨gb130, 2, none⟩ = some (.int .i64 a0_2) := (blk_cell BK130.out 2).trans rfl
                                 have hcz82_3 : wc.cell? ⟨gb130, 3, none⟩ = some (.int .i64 a0_3) := (blk_cell BK130.out 3).trans rfl
                                 have hcz82_4 : wc.cell? ⟨gb130, 4, none⟩ = some (.slice (some ad132) l0_4.length c0_4) := (blk_cell BK130.out 4).trans rfl
                                 have hfz82_0 := blk_frozen BK130.out 0
                                 have hfz82_1 := blk_frozen BK130.out 1
                                 have hfz82_2 := blk_frozen BK130.out 2
                                 have hfz82_3 := blk_frozen BK130.out 3
                                 have hfz82_4 := blk_frozen BK130.out 4
                                 have hcz83_0 : wc.cell? ⟨gb133, 0, none⟩ = some (.int .i64 ((rd_T72 l0_4 x4_3).f0)) := (blk_cell BK133.out 0).trans rfl
                                 have hcz83_1 : wc.cell? ⟨gb133, 1, none⟩ = some (.int .i64 ((rd_T72 l0_4 x4_3).f1)) := (blk_cell BK133.out 1).trans rfl
                                 have hcz83_2 : wc.cell? ⟨gb133, 2, none⟩ = some (.int .i64 ((rd_T72 l0_4 x4_3).f2)) := (blk_cell BK133.out 2).trans rfl
                                 have hcz83_3 : wc.cell? ⟨gb133, 3, none⟩ = some (.int .i64 ((rd_T72 l0_4 x4_3).f3)) := (blk_cell BK133.out 3).trans rfl
                                 have hcz83_4 : wc.cell? ⟨gb133, 4, none⟩ = some (.slice A132_4 ((rd_T72 l0_4 x4_3).f4).length c132_4) := (blk_cell BK133.out 4).trans rfl
                                 have hfz83_0 := blk_frozen BK133.out 0
                                 have hfz83_1 := blk_frozen BK133.out 1
                                 have hfz83_2 := blk_frozen BK133.out 2
                                 have hfz83_3 := blk_frozen BK133.out 3
                                 have hfz83_4 := blk_frozen BK133.out 4
                                 go_wp2_with (first | ((with_reducible refine gate_callee (f := 70) rfl ?_); refine goesL_ (some 116) rfl rfl Tryd.func70 (by kernel_rfl) rfl #[.agg #[.int .i64 ((rd_T72 l0_4 x4_3).f0), .int .i64 ((rd_T72 l0_4 x4_3).f1), .int .i64 ((rd_T72 l0_4 x4_3).f2), .int .i64 ((rd_T72 l0_4 x4_3).f3), .slice A132_4 ((rd_T72 l0_4 x4_3).f4).length c132_4], .int .i64 a0_0] rfl (by (try simp only [List.map_toArray, List.map_cons, List.map_nil]); first | done | rfl | (simp only [List.length_drop, List.length_take]; rfl)) ?_; (with_reducible refine (mullionref04_extent.calls ((rd_T72 l0_4 x4_3).f0) ((rd_T72 l0_4 x4_3).f1) ((rd_T72 l0_4 x4_3).f2) ((rd_T72 l0_4 x4_3).f3) _ _ ((rd_T72 l0_4 x4_3).f4) a0_0 t138 _ ?side1 ?side2 A80.out).mono ?_); (case side1 => repeat (first | exact (Kd.C_below HR132_4.out HB.out) | (with_reducible refine Kd.C_alloc ?_ _) | (with_reducible refine Kd.C_drewN ?_ _) | (with_reducible refine Kd.C_drew ?_))); (case side2 => exact HC132_4.out); rintro e w84 ⟨rfl, hb⟩; refine ⟨_, rfl, ?_⟩; have n0_ := Aside0.mk (blk_below (g := gb130) (o := .cells #[.int .i64 a0_0, .int .i64 a0_1, .int .i64 a0_2, .int .i64 a0_3, .slice (some ad132) l0_4.length c0_4] 72 (0, 0)) (by (with_reducible repeat (first | refine blk_drewN ?_ _ | refine blk_drew ?_ | refine blk_alloc ?_ _)); exact BK130.out) hb); have n1_ := Aside0.mk (blk_below (g := gb133) (o := .cells #[.int .i64 ((rd_T72 l0_4 x4_3).f0), .int .i64 ((rd_T72 l0_4 x4_3).f1), .int .i64 ((rd_T72 l0_4 x4_3).f2), .int .i64 ((rd_T72 l0_4 x4_3).f3), .slice A132_4 ((rd_T72 l0_4 x4_3).f4).length c132_4] 72 (0, 0)) (by (with_reducible repeat (first | refine blk_drewN ?_ _ | refine blk_drew ?_ | refine blk_alloc ?_ _)); exact BK133.out) hb); have n2_ := Aside0.mk (below_step (by repeat (first | (with_reducible first | exact HB.out | apply below_alloc | apply pw_below_drewN | apply below_drew1 | refine below_set ?_ GE130.out | refine below_set ?_ GE133.out) | exact HB.out)) hb); clear BK130; clear BK133; clear HB; have BK130 := n0_; have BK133 := n1_; have HB := n2_; clear n0_ n1_ n2_; (try clear hb); (try clear hb2); (try clear hk); (try clear hi)))
                                 go_roundg kj26
                                 case measure => have := HJ1.out; have := HJ17.out; have := HK3.out; have := HJ26.out; omega
                                 case rel => exact ⟨(wrap64 (x3_3 + t138)), (wrap64 (x4_3 + 1)), (by first | rfl | (simp; done) | (simp [*]; done)), (by first | rfl | (simp; done) | (simp [*]; done)), H', ⟨by have := HJ1.out; have := HJ17.out; have := HK3.out; have := HJ26.out; omega⟩, ⟨by (with_reducible repeat (first | refine blk_drewN ?_ _ | refine blk_drew ?_ | refine blk_alloc ?_ _)); exact BK130.out⟩, ⟨by repeat (first | (with_reducible first | exact HB.out | apply below_alloc | apply pw_below_drewN | apply below_drew1 | refine below_set ?_ GE130.out | refine below_set ?_ GE133.out) | exact HB.out)⟩⟩
                     · rw [if_neg c26] at H
                       exact absurd H (by simp)
                   · rw [if_neg c25] at H
                     have c25b0 : decide (x4_3 < (l0_4.length : Int)) = false := decide_eq_false c25
                     clear c25
                     replace H := Option.bind_eq_some_iff.mp H
                     obtain ⟨t131, A850, H⟩ := H
                     replace H : (some (x3_3 == t131)) = some r := H
                     have A85 := Aside0.mk A850
                     clear A850
                     obtain rfl := Option.some.inj H
                     have hcz86_0 : wr.cell? ⟨gb130, 0, none⟩ = some (.int .i64 a0_0) := (blk_cell BK130.out 0).trans rfl
                     have hcz86_1 : wr.cell? ⟨gb130, 1, none⟩ = some (.int .i64 a0_1) := (blk_cell BK130.out 1).trans rfl
                     have hcz86_2 : wr.cell? ⟨gb130, 2, none⟩ = some (.int .i64 a0_2) := (blk_cell BK130.out 2).trans rfl
                     have hcz86_3 : wr.cell? ⟨gb130, 3, none⟩ = some (.int .i64 a0_3) := (blk_cell BK130.out 3).trans rfl
                     have hcz86_4 : wr.cell? ⟨gb130, 4, none⟩ = some (.slice A0_4 l0_4.length c0_4) := (blk_cell BK130.out 4).trans rfl
                     have hfz86_0 := blk_frozen BK130.out 0
                     have hfz86_1 := blk_frozen BK130.out 1
                     have hfz86_2 := blk_frozen BK130.out 2
                     have hfz86_3 := blk_frozen BK130.out 3
                     have hfz86_4 := blk_frozen BK130.out 4
                     go_wp2_with (first | ((with_reducible refine gate_callee (f := 70) rfl ?_); refine goesL_ (some 122) rfl rfl Tryd.func70 (by kernel_rfl) rfl #[.agg #[.int .i64 a0_0, .int .i64 a0_1, .int .i64 a0_2, .int .i64 a0_3, .slice A0_4 l0_4.length c0_4], .int .i64 a0_0] rfl (by (try simp only [List.map_toArray, List.map_cons, List.map_nil]); first | done | rfl | (simp only [List.length_drop, List.length_take]; rfl)) ?_; (with_reducible refine (mullionref04_extent.calls a0_0 a0_1 a0_2 a0_3 _ _ l0_4 a0_0 t131 _ ?side1 ?side2 A85.out).mono ?_); (case side1 => repeat (first | exact (Kd.C_below HR0_4.out HB.out) | (with_reducible refine Kd.C_alloc ?_ _) | (with_reducible refine Kd.C_drewN ?_ _) | (with_reducible refine Kd.C_drew ?_))); (case side2 => exact HC0_4.out); rintro e w87 ⟨rfl, hb⟩; refine ⟨_, rfl, ?_⟩; have n0_ := Aside0.mk (blk_below (g := gb130) (o := .cells #[.int .i64 a0_0, .int .i64 a0_1, .int .i64 a0_2, .int .i64 a0_3, .slice A0_4 l0_4.length c0_4] 72 (0, 0)) (by (with_reducible repeat (first | refine blk_drewN ?_ _ | refine blk_drew ?_ | refine blk_alloc ?_ _)); exact BK130.out) hb); have n1_ := Aside0.mk (below_step (by repeat (first | (with_reducible first | exact HB.out | apply below_alloc | apply pw_below_drewN | apply below_drew1 | refine below_set ?_ GE130.out) | exact HB.out)) hb); clear BK130; clear HB; have BK130 := n0_; have HB := n1_; clear n0_ n1_; (try clear hb); (try clear hb2); (try clear hk); (try clear hi)))
                     go_ret
                     exact ⟨by first | rfl | (simp [errW_none, errW_some] <;> rfl) | (simp [*, errW_none, errW_some] <;> rfl), by repeat (first | (with_reducible first | exact HB.out | apply below_alloc | apply pw_below_drewN | apply below_drew1 | refine below_set ?_ GE130.out) | exact HB.out)⟩
end Go.Proofs.YtmpnkckaohfflaaDoor.L
end
section
namespace Go.Proofs.YtmpnkckaohfflaaDoor.L
open Go.Proofs.YtmpnkckaohfflaaDoor.K Go.RowKit Go.Proofs.YtmpnkckaohfflaaDoorW.PrintWords Go.Proofs.YtmpnkckaohfflaaDoorW.PrintLast Go.Proofs.YtmpnkckaohfflaaDoorW.PrintMore
attribute [local go_sem] max2_int min2_int max_two min_two max_three min_three max_four min_four
set_option linter.unusedVariables false
set_option linter.unusedSimpArgs false
mutual
def mullionref04_twice.l0 : Nat → List Int → Int → Option (Bool)
 | 0, _, _ => none
 | k + 1, x0, x3 => if x3 < (x0.length : Int) then (mullionref04_twice.l1 k x0 x3 0) else (some false)
def mullionref04_twice.l1 : Nat → List Int → Int → Int → Option (Bool)
 | 0, _, _, _ => none
 | k + 1, x0, x3, x4 => if x4 < x3 then (if 0 ≤ x4 then (if x4 < (x0.length : Int) then (if 0 ≤ x3 then (if x3 < (x0.length : Int) then (if (rd x0 x4) = (rd x0 x3) then (some true) else (mullionref04_twice.l1 k x0 x3 (wrap64 (x4 + 1)))) else (none)) else (none)) else (none)) else (none)) else (mullionref04_twice.l0 k x0 (wrap64 (x3 + 1)))
end
def mullionref04_twice.f (k : Nat) (l0 : List Int) : Option (Bool) := mullionref04_twice.l0 k l0 0
theorem mullionref04_twice.mono_l : ∀ k, (∀ y0 y1, LeO (mullionref04_twice.l0 k y0 y1) (mullionref04_twice.l0 (k + 1) y0 y1)) ∧ (∀ y0 y1 y2, LeO (mullionref04_twice.l1 k y0 y1 y2) (mullionref04_twice.l1 (k + 1) y0 y1 y2))
 | 0 => ⟨fun _ _ r h => by simp [mullionref04_twice.l0] at h, fun _ _ _ r h => by simp [mullionref04_twice.l1] at h⟩
 | k + 1 => by
   obtain ⟨ih0, ih1⟩ := mullionref04_twice.mono_l k
   refine ⟨?_, ?_⟩
   · intro y0 y1
     unfold mullionref04_twice.l0
     repeat' first
     | (with_reducible exact ih0 _ _)
     | (with_reducible exact ih1 _ _ _)
     | (with_reducible exact LeO.refl _)
     | (with_reducible exact LeO.none _)
     | (with_reducible refine LeO.ite ?_ ?_)
     | (with_reducible refine LeO.bind ?_ (fun _ => ?_))
     | exact ih0 _ _
     | exact ih1 _ _ _
     | exact LeO.none _
     | refine LeO.ite ?_ ?_
     | refine LeO.bind ?_ (fun _ => ?_)
   · intro y0 y1 y2
     unfold mullionref04_twice.l1
     repeat' first
     | (with_reducible exact ih0 _ _)
     | (with_reducible exact ih1 _ _ _)
     | (with_reducible exact LeO.refl _)
     | (with_reducible exact LeO.none _)
     | (with_reducible refine LeO.ite ?_ ?_)
     | (with_reducible refine LeO.bind ?_ (fun _ => ?_))
     | exact ih0 _ _
     | exact ih1 _ _ _
     | exact LeO.none _
     | refine LeO.ite ?_ ?_
     | refine LeO.bind ?_ (fun _ => ?_)
theorem mullionref04_twice.mono : ∀ a0 k, LeO (mullionref04_twice.f k a0) (mullionref04_twice.f (k + 1) a0) := by
 intro a0 k
 obtain ⟨ih0, ih1⟩ := mullionref04_twice.mono_l k
 unfold mullionref04_twice.f
 repeat' first
     | (with_reducible exact ih0 _ _)
     | (with_reducible exact ih1 _ _ _)
     | (with_reducible exact LeO.refl _)
     | (with_reducible exact LeO.none _)
     | (with_reducible refine LeO.ite ?_ ?_)
     | (with_reducible refine LeO.bind ?_ (fun _ => ?_))
     | exact ih0 _ _
     | exact ih1 _ _ _
     | exact LeO.none _
     | refine LeO.ite ?_ ?_
     | refine LeO.bind ?_ (fun _ => ?_)
set_option maxHeartbeats 8000000 in
set_option maxRecDepth 100000 in
theorem mullionref04_twice.calls (k : Nat) (A0 : Option Addr) (c0 : Nat) (l0 : List Int) (r : Bool) (w : World) (hr0 : Kd.C (Kd.int .i64) w A0 l0.length l0) (hc0 : l0.length ≤ c0) (h : mullionref04_twice.f k l0 = some r) :
   Calls Tryd.prog 59 #[.slice A0 l0.length c0] w fun e w' => e = .returned (.bool r) ∧ Drawn0 w w' := by
 have HR0 := Aside0.mk hr0
 have HC0 := Aside0.mk hc0
 clear hr0 hc0
 have H : (mullionref04_twice.l0 k l0 0) = some r := h
 clear h
 have H' := Aside0.mk H
 clear H
 go_enter Tryd.func59, Tryd.ntmps59
 go_wp2
 repeat (go_quiet (fail); try go_wp2)
 go_loopg [3] k (fun kq v3 w' => ∃ (x3_1 : Int), v3 = .int .i64 x3_1 ∧ Aside0 (mullionref04_twice.l0 kq l0 x3_1 = some r) ∧ Aside0 (kq ≤ k) ∧ Drawn0 w w')
 case atStart => exact ⟨(0), (by first | rfl | (simp; done) | (simp [*]; done)), H', ⟨Nat.le_refl _⟩, by repeat (first | exact Drawn0.refl _ | apply Drawn0.step)⟩
 case round =>
   clear H'
   obtain ⟨x3_1, rfl, HA, HK1, ⟨m1, rfl⟩⟩ := hrel
   cases gk with
   | zero => exact absurd HA.out (by simp [mullionref04_twice.l0])
   | succ k1 =>
     have H := HA.out
     clear HA
     simp only [mullionref04_twice.l0] at H
     by_cases c2 : x3_1 < (l0.length : Int)
     · rw [if_pos c2] at H
       have c2b0 : decide (x3_1 < (l0.length : Int)) = true := decide_eq_true c2
       clear c2
       have H' := Aside0.mk H
       clear H
       go_wp2
       repeat (go_quiet (fail); try go_wp2)
       go_loopg [4] k1 (fun kq v4 w' => ∃ (x4_2 : Int), v4 = .int .i64 x4_2 ∧ Aside0 (mullionref04_twice.l1 kq l0 x3_1 x4_2 = some r) ∧ Aside0 (kq ≤ k1) ∧ Drawn0 w w')
       case atStart => exact ⟨(0), (by first | rfl | (simp; done) | (simp [*]; done)), H', ⟨Nat.le_refl _⟩, by repeat (first | exact Drawn0.refl _ | apply Drawn0.step)⟩
       case round =>
         clear H'
         try clear c2
         try clear c2b0
         try clear p2
         obtain ⟨x4_2, rfl, HA, HK2, ⟨m2, rfl⟩⟩ := hrel
         cases gk with
         | zero => exact absurd HA.out (by simp [mullionref04_twice.l1])
         | succ k2 =>
           have H := HA.out
           clear HA
           simp only [mullionref04_twice.l1] at H
           by_cases c3 : x4_2 < x3_1
           · rw [if_pos c3] at H
             have c3b0 : decide (x4_2 < x3_1) = true := decide_eq_true c3
             clear c3
             by_cases c4 : 0 ≤ x4_2
             · rw [if_pos c4] at H
               have c4b0 : decide (0 ≤ x4_2) = true := decide_eq_true c4
               clear c4
               by_cases c5 : x4_2 < (l0.length : Int)
               · rw [if_pos c5] at H
                 have c5b0 : decide (x4_2 < (l0.length : Int)) = true := decide_eq_true c5
                 clear c5
                 by_cases c6 : 0 ≤ x3_1
                 · rw [if_pos c6] at H
                   have c6b0 : decide (0 ≤ x3_1) = true := decide_eq_true c6
                   clear c6
                   by_cases c7 : x3_1 < (l0.length : Int)
                   · rw [if_pos c7] at H
                     have c7b0 : decide (x3_1 < (l0.length : Int)) = true := decide_eq_true c7
                     clear c7
                     by_cases c8 : (rd l0 x4_2) = (rd l0 x3_1)
                     · rw [if_pos c8] at H
                       have c8b0 : ((rd l0 x4_2) == (rd l0 x3_1)) = true := beq_iff_eq.mpr c8
                       have c8b1 : ((rd l0 x4_2) != (rd l0 x3_1)) = false := bne_eq_false_iff_eq.mpr c8
                       clear c8
                       obtain rfl := Option.some.inj H
                       have p139 : 0 ≤ (x4_2 : Int) := of_decide_eq_true (by first | (with_reducible assumption) | assumption)
                       have q139 : x4_2 < (l0.length : Int) := of_decide_eq_true (by first | (with_reducible assumption) | assumption)
                       obtain ⟨ad139, e139, hx139_0⟩ := Kd.at_int HR0.out x4_2 p139 q139
                       cases e139
                       replace p139 := eq_true p139
                       replace q139 := eq_true q139
                       have p140 : 0 ≤ (x3_1 : Int) := of_decide_eq_true (by first | (with_reducible assumption) | assumption)
                       have q140 : x3_1 < (l0.length : Int) := of_decide_eq_true (by first | (with_reducible assumption) | assumption)
                       obtain ⟨ad140, e140, hx140_0⟩ := Kd.at_int HR0.out x3_1 p140 q140
                       obtain rfl : ad139 = ad140 := (by injection e140)
                       replace p140 := eq_true p140
                       replace q140 := eq_true q140
                       go_wp2
                       repeat (go_quiet (fail); try go_wp2)
                       go_ret
                       exact ⟨by first | rfl | (simp; done) | (simp [*]; done), by repeat (first | exact Drawn0.refl _ | apply Drawn0.step)⟩
                     · rw [if_neg c8] at H
                       have c8b0 : ((rd l0 x4_2) == (rd l0 x3_1)) = false := beq_eq_false_iff_ne.mpr c8
                       have c8b1 : ((rd l0 x4_2) != (rd l0 x3_1)) = true := bne_iff_ne.mpr c8
                       have H' := Aside0.mk H
                       clear H
                       have p139 : 0 ≤ (x4_2 : Int) := of_decide_eq_true (by first | (with_reducible assumption) | assumption)
                       have q139 : x4_2 < (l0.length : Int) := of_decide_eq_true (by first | (with_reducible assumption) | assumption)
                       obtain ⟨ad139, e139, hx139_0⟩ := Kd.at_int HR0.out x4_2 p139 q139
                       cases e139
                       replace p139 := eq_true p139
                       replace q139 := eq_true q139
                       have p140 : 0 ≤ (x3_1 : Int) := of_decide_eq_true (by first | (with_reducible assumption) | assumption)
                       have q140 : x3_1 < (l0.length : Int) := of_decide_eq_true (by first | (with_reducible assumption) | assumption)
                       obtain ⟨ad140, e140, hx140_0⟩ := Kd.at_int HR0.out x3_1 p140 q140
                       obtain rfl : ad139 = ad140 := (by injection e140)
                       replace p140 := eq_true p140
                       replace q140 := eq_true q140
                       go_wp2
                       repeat (go_quiet (fail); try go_wp2)
                       go_roundg k2
                       case measure => have := HK1.out; have := HK2.out; omega
                       case rel => exact ⟨(wrap64 (x4_2 + 1)), (by first | rfl | (simp; done) | (simp [*]; done)), H', ⟨by have := HK1.out; have := HK2.out; omega⟩, by repeat (first | exact Drawn0.refl _ | apply Drawn0.step)⟩
                   · rw [if_neg c7] at H
                     exact absurd H (by simp)
                 · rw [if_neg c6] at H
                   exact absurd H (by simp)
               · rw [if_neg c5] at H
                 exact absurd H (by simp)
             · rw [if_neg c4] at H
               exact absurd H (by simp)
           · rw [if_neg c3] at H
             have c3b0 : decide (x4_2 < x3_1) = false := decide_eq_false c3
             clear c3
             have H' := Aside0.mk H
             clear H
             go_wp2
             repeat (go_quiet (fail); try go_wp2)
             go_roundg k2
             case measure => have := HK1.out; have := HK2.out; omega
             case rel => exact ⟨(wrap64 (x3_1 + 1)), (by first | rfl | (simp; done) | (simp [*]; done)), H', ⟨by have := HK1.out; have := HK2.out; omega⟩, by repeat (first | exact Drawn0.refl _ | apply Drawn0.step)⟩
     · rw [if_neg c2] at H
       have c2b0 : decide (x3_1 < (l0.length : Int)) = false := decide_eq_false c2
       clear c2
       obtain rfl := Option.some.inj H
       go_wp2
       repeat (go_quiet (fail); try go_wp2)
       go_ret
       exact ⟨by first | rfl | (simp; done) | (simp [*]; done), by repeat (first | exact Drawn0.refl _ | apply Drawn0.step)⟩
mutual
def mullionref04_lay.l0 : Nat → Int → Int → Int → List (S45) → Int → Int → Int → Int → Int → List (S72) → Option ((List (S45)))
 | 0, _, _, _, _, _, _, _, _, _, _ => none
 | k + 1, x1, x2, x3, x9, x10, x142000, x142001, x142002, x142003, x142004 => if x10 < (x142004.length : Int) then (if 0 ≤ x10 then ((mullionref04_lay.f k ((rd_T72 x142004 x10).f0) ((rd_T72 x142004 x10).f1) ((rd_T72 x142004 x10).f2) ((rd_T72 x142004 x10).f3) ((rd_T72 x142004 x10).f4) (wrap64 (x1 + 1)) x2 x3).bind fun t147 => (if x9.length + t147.length < 2513169434916 then ((some (x9 ++ t147 : List (S45))).bind fun y150 => (if x142000 = 2 then (mullionref04_lay.l0 k x1 (wrap64 ((wrap64 (x2 + ((rd_T72 x142004 x10).f1))) + 1)) x3 y150 (wrap64 (x10 + 1)) x142000 x142001 x142002 x142003 x142004) else (mullionref04_lay.l0 k x1 x2 (wrap64 ((wrap64 (x3 + ((rd_T72 x142004 x10).f2))) + 1)) y150 (wrap64 (x10 + 1)) x142000 x142001 x142002 x142003 x142004))) else (none))) else (none)) else (some x9)
def mullionref04_lay.f : Nat → Int → Int → Int → Int → List (S72) → Int → Int → Int → Option ((List (S45)))
 | 0, _, _, _, _, _, _, _, _ => none
 | k + 1, a0_0, a0_1, a0_2, a0_3, l0_4, a1, a2, a3 => mullionref04_lay.l0 k a1 a2 a3 (([(⟨a1, a0_0, a2, a3, a0_1, a0_2, a0_3⟩ : S45)] : List (S45))) 0 a0_0 a0_1 a0_2 a0_3 l0_4
end
theorem mullionref04_lay.mono_l : ∀ k, (∀ y0 y1 y2 y3 y4 y5 y6 y7, LeO (mullionref04_lay.f k y0 y1 y2 y3 y4 y5 y6 y7) (mullionref04_lay.f (k + 1) y0 y1 y2 y3 y4 y5 y6 y7)) ∧ (∀ y0 y1 y2 y3 y4 y5 y6 y7 y8 y9, LeO (mullionref04_lay.l0 k y0 y1 y2 y3 y4 y5 y6 y7 y8 y9) (mullionref04_lay.l0 (k + 1) y0 y1 y2 y3 y4 y5 y6 y7 y8 y9))
 | 0 => ⟨fun _ _ _ _ _ _ _ _ r h => by simp [mullionref04_lay.f] at h, fun _ _ _ _ _ _ _ _ _ _ r h => by simp [mullionref04_lay.l0] at h⟩
 | k + 1 => by
   obtain ⟨ih0, ih1⟩ := mullionref04_lay.mono_l k
   refine ⟨?_, ?_⟩
   · intro y0 y1 y2 y3 y4 y5 y6 y7
     unfold mullionref04_lay.f
     repeat' first
     | (with_reducible exact ih0 _ _ _ _ _ _ _ _)
     | (with_reducible exact ih1 _ _ _ _ _ _ _ _ _ _)
     | (with_reducible exact LeO.refl _)
     | (with_reducible exact LeO.none _)
     | (with_reducible refine LeO.ite ?_ ?_)
     | (with_reducible refine LeO.bind ?_ (fun _ => ?_))
     | exact ih0 _ _ _ _ _ _ _ _
     | exact ih1 _ _ _ _ _ _ _ _ _ _
     | exact LeO.none _
     | refine LeO.ite ?_ ?_
     | refine LeO.bind ?_ (fun _ => ?_)
   · intro y0 y1 y2 y3 y4 y5 y6 y7 y8 y9
     unfold mullionref04_lay.l0
     repeat' first
     | (with_reducible exact ih0 _ _ _ _ _ _ _ _)
     | (with_reducible exact ih1 _ _ _ _ _ _ _ _ _ _)
     | (with_reducible exact LeO.refl _)
     | (with_reducible exact LeO.none _)
     | (with_reducible refine LeO.ite ?_ ?_)
     | (with_reducible refine LeO.bind ?_ (fun _ => ?_))
     | exact ih0 _ _ _ _ _ _ _ _
     | exact ih1 _ _ _ _ _ _ _ _ _ _
     | exact LeO.none _
     | refine LeO.ite ?_ ?_
     | refine LeO.bind ?_ (fun _ => ?_)
theorem mullionref04_lay.mono : ∀ a0 a1 a2 a3 a4 a5 a6 a7 k, LeO (mullionref04_lay.f k a0 a1 a2 a3 a4 a5 a6 a7) (mullionref04_lay.f (k + 1) a0 a1 a2 a3 a4 a5 a6 a7) := by
 intro a0 a1 a2 a3 a4 a5 a6 a7 k
 obtain ⟨ih0, ih1⟩ := mullionref04_lay.mono_l k
 exact ih0 a0 a1 a2 a3 a4 a5 a6 a7
set_option maxHeartbeats 8000000 in
set_option maxRecDepth 100000 in
theorem mullionref04_lay.calls (k : Nat) : ∀ (a0_0 : Int) (a0_1 : Int) (a0_2 : Int) (a0_3 : Int) (A0_4 : Option Addr) (c0_4 : Nat) (l0_4 : List (S72)) (a1 : Int) (a2 : Int) (a3 : Int) (r : List (S45)) (w : World) (hr0_4 : Kd.C k72 w A0_4 l0_4.length l0_4) (hc0_4 : l0_4.length ≤ c0_4) (h : mullionref04_lay.f k a0_0 a0_1 a0_2 a0_3 l0_4 a1 a2 a3 = some r),
   Calls Tryd.prog 71 #[.agg #[.int .i64 a0_0, .int .i64 a0_1, .int .i64 a0_2, .int .i64 a0_3, .slice A0_4 l0_4.length c0_4], .int .i64 a1, .int .i64 a2, .int .i64 a3] w fun e w' => ∃ v0_ : Value, e = .returned (v0_) ∧ Kd.R k45 45 w' w.heap.size (fun _ => True) v0_ r ∧ Below w.heap.size w w' := by
 induction k using Nat.strongRecOn with
 | _ k ih =>
 intro a0_0 a0_1 a0_2 a0_3 A0_4 c0_4 l0_4 a1 a2 a3 r w hr0_4 hc0_4 h
 cases k with
 | zero => exact absurd h (by simp [mullionref04_lay.f])
 | succ k =>
 simp only [mullionref04_lay.f] at h
 have hu72 := Tryd.underlying72
 have hu45 := Tryd.underlying45
 have HR0_4 := Aside0.mk hr0_4
 have HC0_4 := Aside0.mk hc0_4
 clear hr0_4 hc0_4
 have HB := Aside0.mk (Below.refl w.heap.size w)
 have H : (mullionref04_lay.l0 k a1 a2 a3 (([(⟨a1, a0_0, a2, a3, a0_1, a0_2, a0_3⟩ : S45)] : List (S45))) 0 a0_0 a0_1 a0_2 a0_3 l0_4) = some r := h
 clear h
 obtain ⟨y142, hy142⟩ : ∃ y_ : List (S45), y_ = (([(⟨a1, a0_0, a2, a3, a0_1, a0_2, a0_3⟩ : S45)] : List (S45))) := ⟨_, rfl⟩
 replace H : (mullionref04_lay.l0 k a1 a2 a3 y142 0 a0_0 a0_1 a0_2 a0_3 l0_4) = some r := by first | (rw [hy142]; with_reducible exact H) | (have H2_ := (Option.bind_some _ _).symm.trans H; rw [hy142]; with_reducible exact H2_) | (have H2_ := (Option.bind_some _ _).symm.trans H; with_reducible exact H2_) | with_reducible exact H | (rw [hy142]; exact H) | exact H
 have Ny142 := Aside0.mk hy142
 clear hy142
 have H' := Aside0.mk H
 clear H
 go_enter Tryd.func71, Tryd.ntmps71
 go_wp2_with (first | ((with_reducible refine gate_dst (N := 4) rfl ?_); refine box_event ?hg (N := 4) ?hd (cs := #[.int .i64 a0_0, .int .i64 a0_1, .int .i64 a0_2, .int .i64 a0_3, .slice A0_4 l0_4.length c0_4]) (t := 72) ?hr ?_; (case hd => rfl); (case hg => rfl); (case hr => first | (go_simp; done) | (go_simp; rfl)); intro gb141 hg w5 hbox hb; have n0_ := Aside0.mk (below_step (by repeat (first | (with_reducible first | exact HB.out | apply below_alloc | apply pw_below_drewN | apply below_drew1) | exact HB.out)) hb); have n1_ := Aside0.mk (hbox); have n2_ := Aside0.mk ((by rw [hg]; exact (below_size (by repeat (first | (with_reducible first | exact HB.out | apply below_alloc | apply pw_below_drewN | apply below_drew1) | exact HB.out))) : w.heap.size ≤ gb141)); have n3_ := Aside0.mk ((by rw [hg]; exact (below_size (by repeat (first | (with_reducible first | exact HB.out | apply below_alloc | apply pw_below_drewN | apply below_drew1) | exact HB.out))) : w.heap.size ≤ gb141)); clear HB; have HB := n0_; have BK141 := n1_; have GW141 := n2_; have GE141 := n3_; clear n0_ n1_ n2_ n3_; clear hb hbox hg; have hcz6_0 : w5.cell? ⟨gb141, 0, none⟩ = some (.int .i64 a0_0) := (blk_cell BK141.out 0).trans rfl; have hcz6_1 : w5.cell? ⟨gb141, 1, none⟩ = some (.int .i64 a0_1) := (blk_cell BK141.out 1).trans rfl; have hcz6_2 : w5.cell? ⟨gb141, 2, none⟩ = some (.int .i64 a0_2) := (blk_cell BK141.out 2).trans rfl; have hcz6_3 : w5.cell? ⟨gb141, 3, none⟩ = some (.int .i64 a0_3) := (blk_cell BK141.out 3).trans rfl; have hcz6_4 : w5.cell? ⟨gb141, 4, none⟩ = some (.slice A0_4 l0_4.length c0_4) := (blk_cell BK141.out 4).trans rfl; have hfz6_0 := blk_frozen BK141.out 0; have hfz6_1 := blk_frozen BK141.out 1; have hfz6_2 := blk_frozen BK141.out 2; have hfz6_3 := blk_frozen BK141.out 3; have hfz6_4 := blk_frozen BK141.out 4) | ((with_reducible refine gate_dst (N := 24) rfl ?_); refine Kd.R_lit k45 _ 45 ?hg (N := 24) ?hd (xs := ([(⟨a1, a0_0, a2, a3, a0_1, a0_2, a0_3⟩ : S45)] : List (S45))) (inner := [.int .i64 a1, .int .i64 a0_0, .int .i64 a2, .int .i64 a3, .int .i64 a0_1, .int .i64 a0_2, .int .i64 a0_3]) (ok := fun _ => True) (okp := fun _ => True) ?hr ?hp (fun _ hk => hk) trivial (Below.refl _ _) (Nat.le_refl _) (by simp) ?_; (case hd => rfl); (case hg => rfl); (case hr => first | (go_simp; done) | (go_simp; rfl)); (case hp => exact (Reps.c7 (show Kd.M k45 _ _ _ (⟨a1, a0_0, a2, a3, a0_1, a0_2, a0_3⟩ : S45) [.int .i64 a1, .int .i64 a0_0, .int .i64 a2, .int .i64 a3, .int .i64 a0_1, .int .i64 a0_2, .int .i64 a0_3] from (k45_mkM _ _ _ (⟨a1, a0_0, a2, a3, a0_1, a0_2, a0_3⟩ : S45) )) (Reps.none _ _))); intro v143 w7 ho8 hb hg_ hnew_; clear hg_ hnew_; (first | rw [← Ny142.out] at ho8 | (simp only [Int.reduceToNat] at ho8; rw [← Ny142.out] at ho8)); have n0_ := Aside0.mk (Kd.R_lower ho8 (below_size (by repeat (first | (with_reducible first | exact HB.out | apply below_alloc | apply pw_below_drewN | apply below_drew1 | refine below_set ?_ GE141.out) | exact HB.out)))); have n1_ := Aside0.mk (blk_below (g := gb141) (o := .cells #[.int .i64 a0_0, .int .i64 a0_1, .int .i64 a0_2, .int .i64 a0_3, .slice A0_4 l0_4.length c0_4] 72 (0, 0)) (by (with_reducible repeat (first | refine blk_drewN ?_ _ | refine blk_drew ?_ | refine blk_alloc ?_ _)); exact BK141.out) hb); have n2_ := Aside0.mk (below_step (by repeat (first | (with_reducible first | exact HB.out | apply below_alloc | apply pw_below_drewN | apply below_drew1 | refine below_set ?_ GE141.out) | exact HB.out)) hb); clear BK141; clear HB; have HO144 := n0_; have BK141 := n1_; have HB := n2_; clear n0_ n1_ n2_; clear hb ho8))
 go_loopg [2, 3, 9, 10] k (fun kq v2 v3 v9 v10 w' => ∃ (x2_1 : Int) (x3_1 : Int) (x9_1 : List (S45)) (x10_1 : Int), v2 = .int .i64 x2_1 ∧ v3 = .int .i64 x3_1 ∧ v10 = .int .i64 x10_1 ∧ Aside0 (mullionref04_lay.l0 kq a1 x2_1 x3_1 x9_1 x10_1 a0_0 a0_1 a0_2 a0_3 l0_4 = some r) ∧ Aside0 (kq ≤ k) ∧ Aside0 (Kd.R k45 45 w' w.heap.size (fun _ => True) v9 x9_1) ∧ Aside0 (w'.heap[gb141]? = some (.cells #[.int .i64 a0_0, .int .i64 a0_1, .int .i64 a0_2, .int .i64 a0_3, (.slice A0_4 l0_4.length c0_4)] 72 (0, 0))) ∧ Aside0 (Below w.heap.size w w'))
 case atStart => exact ⟨(a2), (a3), (y142), (0), (by first | rfl | (simp; done) | (simp [*]; done)), (by first | rfl | (simp; done) | (simp [*]; done)), (by first | rfl | (simp; done) | (simp [*]; done)), H', ⟨Nat.le_refl _⟩, ⟨by (with_reducible repeat (first | apply Kd.R_alloc | apply Kd.R_drewN | apply Kd.R_drew)); exact HO144.out⟩, ⟨by (with_reducible repeat (first | refine blk_drewN ?_ _ | refine blk_drew ?_ | refine blk_alloc ?_ _)); exact BK141.out⟩, ⟨by repeat (first | (with_reducible first | exact HB.out | apply below_alloc | apply pw_below_drewN | apply below_drew1 | refine below_set ?_ GE141.out) | exact HB.out)⟩⟩
 case round =>
   clear H'
   try clear p2
   try clear c7
   try clear hcz6_0
   try clear hcz6_1
   try clear hcz6_2
   try clear hcz6_3
   try clear hcz6_4
   try clear hfz6_0
   try clear hfz6_1
   try clear hfz6_2
   try clear hfz6_3
   try clear hfz6_4
   obtain ⟨x2_1, x3_1, x9_1, x10_1, rfl, rfl, rfl, HA, HK1, HO_9, BK141, HB⟩ := hrel
   cases gk with
   | zero => exact absurd HA.out (by simp [mullionref04_lay.l0])
   | succ k1 =>
     have H := HA.out
     clear HA
     simp only [mullionref04_lay.l0] at H
     by_cases c9 : x10_1 < (l0_4.length : Int)
     · rw [if_pos c9] at H
       have c9b0 : decide (x10_1 < (l0_4.length : Int)) = true := decide_eq_true c9
       clear c9
       by_cases c10 : 0 ≤ x10_1
       · rw [if_pos c10] at H
         have c10b0 : decide (0 ≤ x10_1) = true := decide_eq_true c10
         clear c10
         replace H := Option.bind_eq_some_iff.mp H
         obtain ⟨t147, A110, H⟩ := H
         replace H : (if x9_1.length + t147.length < 2513169434916 then ((some (x9_1 ++ t147 : List (S45))).bind fun y150 => (if a0_0 = 2 then (mullionref04_lay.l0 k1 a1 (wrap64 ((wrap64 (x2_1 + ((rd_T72 l0_4 x10_1).f1))) + 1)) x3_1 y150 (wrap64 (x10_1 + 1)) a0_0 a0_1 a0_2 a0_3 l0_4) else (mullionref04_lay.l0 k1 a1 x2_1 (wrap64 ((wrap64 (x3_1 + ((rd_T72 l0_4 x10_1).f2))) + 1)) y150 (wrap64 (x10_1 + 1)) a0_0 a0_1 a0_2 a0_3 l0_4))) else (none)) = some r := H
         have A11 := Aside0.mk A110
         clear A110
         by_cases c12 : x9_1.length + t147.length < 2513169434916
         · rw [if_pos c12] at H
           have LMc12 := Aside0.mk c12
           clear c12
           obtain ⟨y150, hy150⟩ : ∃ y_ : List (S45), y_ = (x9_1 ++ t147) := ⟨_, rfl⟩
           replace H : (if a0_0 = 2 then (mullionref04_lay.l0 k1 a1 (wrap64 ((wrap64 (x2_1 + ((rd_T72 l0_4 x10_1).f1))) + 1)) x3_1 y150 (wrap64 (x10_1 + 1)) a0_0 a0_1 a0_2 a0_3 l0_4) else (mullionref04_lay.l0 k1 a1 x2_1 (wrap64 ((wrap64 (x3_1 + ((rd_T72 l0_4 x10_1).f2))) + 1)) y150 (wrap64 (x10_1 + 1)) a0_0 a0_1 a0_2 a0_3 l0_4)) = some r := by first | (rw [hy150]; with_reducible exact H) | (have H2_ := (Option.bind_some _ _).symm.trans H; rw [hy150]; with_reducible exact H2_) | (have H2_ := (Option.bind_some _ _).symm.trans H; with_reducible exact H2_) | with_reducible exact H | (rw [hy150]; exact H) | exact H
           have Ny150 := Aside0.mk hy150
           clear hy150
           by_cases c13 : a0_0 = 2
           · rw [if_pos c13] at H
             have c13b0 : (a0_0 == 2) = true := beq_iff_eq.mpr c13
             have c13b1 : (a0_0 != 2) = false := bne_eq_false_iff_eq.mpr c13
             clear c13
             have H' := Aside0.mk H
             clear H
             have hcz14_0 : wr.cell? ⟨gb141, 0, none⟩ = some (.int .i64 a0_0) := (blk_cell BK141.out 0).trans rfl
             have hcz14_1 : wr.cell? ⟨gb141, 1, none⟩ = some (.int .i64 a0_1) := (blk_cell BK141.out 1).trans rfl
             have hcz14_2 : wr.cell? ⟨gb141, 2, none⟩ = some (.int .i64 a0_2) := (blk_cell BK141.out 2).trans rfl
             have hcz14_3 : wr.cell? ⟨gb141, 3, none⟩ = some (.int .i64 a0_3) := (blk_cell BK141.out 3).trans rfl
             have hcz14_4 : wr.cell? ⟨gb141, 4, none⟩ = some (.slice A0_4 l0_4.length c0_4) := (blk_cell BK141.out 4).trans rfl
             have hfz14_0 := blk_frozen BK141.out 0
             have hfz14_1 := blk_frozen BK141.out 1
             have hfz14_2 := blk_frozen BK141.out 2
             have hfz14_3 := blk_frozen BK141.out 3
             have hfz14_4 := blk_frozen BK141.out 4
             have p145 : 0 ≤ (x10_1 : Int) := of_decide_eq_true (by first | (with_reducible assumption) | assumption)
             have q145 : x10_1 < (l0_4.length : Int) := of_decide_eq_true (by first | (with_reducible assumption) | assumption)
             obtain ⟨ad145, A145_4, c145_4, e145, hx145_0, hx145_1, hx145_2, hx145_3, hx145_4, hl145_4, hi145_4⟩ := at_T72 HR0_4.out x10_1 p145 q145
             cases e145
             replace hx145_0 := (HB.out.cell (World.block_lt_of_cell? w _ hx145_0)).trans hx145_0
             replace hx145_1 := (HB.out.cell (World.block_lt_of_cell? w _ hx145_1)).trans hx145_1
             replace hx145_2 := (HB.out.cell (World.block_lt_of_cell? w _ hx145_2)).trans hx145_2
             replace hx145_3 := (HB.out.cell (World.block_lt_of_cell? w _ hx145_3)).trans hx145_3
             replace hx145_4 := (HB.out.cell (World.block_lt_of_cell? w _ hx145_4)).trans hx145_4
             have HR145_4 := Aside0.mk hi145_4
             have HC145_4 := Aside0.mk hl145_4
             clear hi145_4 hl145_4
             replace p145 := eq_true p145
             replace q145 := eq_true q145
             go_wp2_with (first | ((with_reducible refine gate_dst (N := 11) rfl ?_); refine box_event ?hg (N := 11) ?hd (cs := #[.int .i64 0, .int .i64 0, .int .i64 0, .int .i64 0, .slice none 0 0]) (t := 72) ?hr ?_; (case hd => rfl); (case hg => rfl); (case hr => first | (go_simp; done) | (go_simp; rfl)); intro gb146 hg w15 hbox hb; have n0_ := Aside0.mk (Kd.R_below (by (with_reducible repeat (first | apply Kd.R_alloc | apply Kd.R_drewN | apply Kd.R_drew)); exact HO_9.out) hb); have n1_ := Aside0.mk (blk_below (g := gb141) (o := .cells #[.int .i64 a0_0, .int .i64 a0_1, .int .i64 a0_2, .int .i64 a0_3, .slice (some ad145) l0_4.length c0_4] 72 (0, 0)) (by (with_reducible repeat (first | refine blk_drewN ?_ _ | refine blk_drew ?_ | refine blk_alloc ?_ _)); exact BK141.out) hb); have n2_ := Aside0.mk (below_step (by repeat (first | (with_reducible first | exact HB.out | apply below_alloc | apply pw_below_drewN | apply below_drew1 | refine below_set ?_ GE141.out) | exact HB.out)) hb); have n3_ := Aside0.mk (hbox); have n4_ := Aside0.mk ((by rw [hg]; exact (below_size (by repeat (first | (with_reducible first | exact HB.out | apply below_alloc | apply pw_below_drewN | apply below_drew1 | refine below_set ?_ GE141.out) | exact HB.out))) : w.heap.size ≤ gb146)); have n5_ := Aside0.mk ((by rw [hg]; exact (below_size (by repeat (first | (with_reducible first | exact HB.out | apply below_alloc | apply pw_below_drewN | apply below_drew1 | refine below_set ?_ GE141.out) | exact HB.out))) : w.heap.size ≤ gb146)); have n6_ := Aside0.mk ((by rw [hg]; exact Nat.ne_of_lt (blk_lt (g := gb141) (o := .cells #[.int .i64 a0_0, .int .i64 a0_1, .int .i64 a0_2, .int .i64 a0_3, .slice (some ad145) l0_4.length c0_4] 72 (0, 0)) (by (with_reducible repeat (first | refine blk_drewN ?_ _ | refine blk_drew ?_ | refine blk_alloc ?_ _)); exact BK141.out)) : gb141 ≠ gb146)); have n7_ := Aside0.mk ((by rw [hg]; exact Nat.ne_of_gt (blk_lt (g := gb141) (o := .cells #[.int .i64 a0_0, .int .i64 a0_1, .int .i64 a0_2, .int .i64 a0_3, .slice (some ad145) l0_4.length c0_4] 72 (0, 0)) (by (with_reducible repeat (first | refine blk_drewN ?_ _ | refine blk_drew ?_ | refine blk_alloc ?_ _)); exact BK141.out)) : gb146 ≠ gb141)); clear HO_9; clear BK141; clear HB; have HO_9 := n0_; have BK141 := n1_; have HB := n2_; have BK146 := n3_; have GW146 := n4_; have GE146 := n5_; have NB141_146 := n6_; have NB146_141 := n7_; clear n0_ n1_ n2_ n3_ n4_ n5_ n6_ n7_; clear hb hbox hg; have hnb16 := NB146_141.out; have hnc16 := NB141_146.out; have hcz17_0 : w15.cell? ⟨gb146, 0, none⟩ = some (.int .i64 0) := (blk_cell BK146.out 0).trans rfl; have hcz17_1 : w15.cell? ⟨gb146, 1, none⟩ = some (.int .i64 0) := (blk_cell BK146.out 1).trans rfl; have hcz17_2 : w15.cell? ⟨gb146, 2, none⟩ = some (.int .i64 0) := (blk_cell BK146.out 2).trans rfl; have hcz17_3 : w15.cell? ⟨gb146, 3, none⟩ = some (.int .i64 0) := (blk_cell BK146.out 3).trans rfl; have hcz17_4 : w15.cell? ⟨gb146, 4, none⟩ = some (.slice none 0 0) := (blk_cell BK146.out 4).trans rfl; have hfz17_0 := blk_frozen BK146.out 0; have hfz17_1 := blk_frozen BK146.out 1; have hfz17_2 := blk_frozen BK146.out 2; have hfz17_3 := blk_frozen BK146.out 3; have hfz17_4 := blk_frozen BK146.out 4) | ((with_reducible refine gate_callee (f := 71) rfl ?_); refine goesL_ (some 43) rfl rfl Tryd.func71 (by kernel_rfl) rfl #[.agg #[.int .i64 ((rd_T72 l0_4 x10_1).f0), .int .i64 ((rd_T72 l0_4 x10_1).f1), .int .i64 ((rd_T72 l0_4 x10_1).f2), .int .i64 ((rd_T72 l0_4 x10_1).f3), .slice A145_4 ((rd_T72 l0_4 x10_1).f4).length c145_4], .int .i64 (wrap64 (a1 + 1)), .int .i64 x2_1, .int .i64 x3_1] rfl (by (try simp only [List.map_toArray, List.map_cons, List.map_nil]); first | done | rfl | (simp only [List.length_drop, List.length_take]; rfl)) ?_; (with_reducible refine (ih k1 (by have := HK1.out; omega) ((rd_T72 l0_4 x10_1).f0) ((rd_T72 l0_4 x10_1).f1) ((rd_T72 l0_4 x10_1).f2) ((rd_T72 l0_4 x10_1).f3) _ _ ((rd_T72 l0_4 x10_1).f4) (wrap64 (a1 + 1)) x2_1 x3_1 t147 _ ?side1 ?side2 A11.out).mono ?_); (case side1 => exact Kd.C_below HR145_4.out (by repeat (first | (with_reducible first | exact HB.out | apply below_alloc | apply pw_below_drewN | apply below_drew1 | refine below_set ?_ GE141.out | refine below_set ?_ GE146.out) | exact HB.out))); (case side2 => exact HC145_4.out); rintro e w18 ⟨v148, rfl, ho0, hb⟩; refine ⟨_, rfl, ?_⟩; have n0_ := Aside0.mk (Kd.R_elder' (by (with_reducible repeat (first | apply Kd.R_alloc | apply Kd.R_drewN | apply Kd.R_drew)); exact (Kd.R_mono (Kd.R_far (p := ⟨gb146, 4, none⟩) (Kd.R_far (p := ⟨gb146, 3, none⟩) (Kd.R_far (p := ⟨gb146, 2, none⟩) (Kd.R_far (p := ⟨gb146, 1, none⟩) (Kd.R_far (p := ⟨gb146, 0, none⟩) (Kd.R_types HO_9.out BK146.out (by decide)) (fun _ hk => hk.2) (.int .i64 ((rd_T72 l0_4 x10_1).f0))) (fun _ hk => hk.2) (.int .i64 ((rd_T72 l0_4 x10_1).f1))) (fun _ hk => hk.2) (.int .i64 ((rd_T72 l0_4 x10_1).f2))) (fun _ hk => hk.2) (.int .i64 ((rd_T72 l0_4 x10_1).f3))) (fun _ hk => hk.2) (.slice A145_4 ((rd_T72 l0_4 x10_1).f4).length c145_4)) (fun _ h_ => h_.1))) (Kd.R_base ho0) hb); have n1_ := Aside0.mk (Kd.R_lower (Kd.R_new' ho0 (Kd.R_lt (by (with_reducible repeat (first | apply Kd.R_alloc | apply Kd.R_drewN | apply Kd.R_drew)); exact (Kd.R_mono (Kd.R_far (p := ⟨gb146, 4, none⟩) (Kd.R_far (p := ⟨gb146, 3, none⟩) (Kd.R_far (p := ⟨gb146, 2, none⟩) (Kd.R_far (p := ⟨gb146, 1, none⟩) (Kd.R_far (p := ⟨gb146, 0, none⟩) (Kd.R_types HO_9.out BK146.out (by decide)) (fun _ hk => hk.2) (.int .i64 ((rd_T72 l0_4 x10_1).f0))) (fun _ hk => hk.2) (.int .i64 ((rd_T72 l0_4 x10_1).f1))) (fun _ hk => hk.2) (.int .i64 ((rd_T72 l0_4 x10_1).f2))) (fun _ hk => hk.2) (.int .i64 ((rd_T72 l0_4 x10_1).f3))) (fun _ hk => hk.2) (.slice A145_4 ((rd_T72 l0_4 x10_1).f4).length c145_4)) (fun _ h_ => h_.1))))) (below_size (by repeat (first | (with_reducible first | exact HB.out | apply below_alloc | apply pw_below_drewN | apply below_drew1 | refine below_set ?_ GE141.out | refine below_set ?_ GE146.out) | exact HB.out)))); have n2_ := Aside0.mk (blk_below (g := gb141) (o := .cells #[.int .i64 a0_0, .int .i64 a0_1, .int .i64 a0_2, .int .i64 a0_3, .slice (some ad145) l0_4.length c0_4] 72 (0, 0)) (by (with_reducible repeat (first | refine blk_drewN ?_ _ | refine blk_drew ?_ | refine blk_alloc ?_ _)); refine blk_far ?_ NB141_146.out _; (with_reducible repeat (first | refine blk_drewN ?_ _ | refine blk_drew ?_ | refine blk_alloc ?_ _)); refine blk_far ?_ NB141_146.out _; (with_reducible repeat (first | refine blk_drewN ?_ _ | refine blk_drew ?_ | refine blk_alloc ?_ _)); refine blk_far ?_ NB141_146.out _; (with_reducible repeat (first | refine blk_drewN ?_ _ | refine blk_drew ?_ | refine blk_alloc ?_ _)); refine blk_far ?_ NB141_146.out _; (with_reducible repeat (first | refine blk_drewN ?_ _ | refine blk_drew ?_ | refine blk_alloc ?_ _)); refine blk_far ?_ NB141_146.out _; (with_reducible repeat (first | refine blk_drewN ?_ _ | refine blk_drew ?_ | refine blk_alloc ?_ _)); exact BK141.out) hb); have n3_ := Aside0.mk (blk_below (g := gb146) (o := .cells #[.int .i64 ((rd_T72 l0_4 x10_1).f0), .int .i64 ((rd_T72 l0_4 x10_1).f1), .int .i64 ((rd_T72 l0_4 x10_1).f2), .int .i64 ((rd_T72 l0_4 x10_1).f3), .slice A145_4 ((rd_T72 l0_4 x10_1).f4).length c145_4] 72 (0, 0)) (by (with_reducible repeat (first | refine blk_drewN ?_ _ | refine blk_drew ?_ | refine blk_alloc ?_ _)); refine blk_put (cs := #[.int .i64 ((rd_T72 l0_4 x10_1).f0), .int .i64 ((rd_T72 l0_4 x10_1).f1), .int .i64 ((rd_T72 l0_4 x10_1).f2), .int .i64 ((rd_T72 l0_4 x10_1).f3), .slice none 0 0]) ?_ 4 _ rfl; (with_reducible repeat (first | refine blk_drewN ?_ _ | refine blk_drew ?_ | refine blk_alloc ?_ _)); refine blk_put (cs := #[.int .i64 ((rd_T72 l0_4 x10_1).f0), .int .i64 ((rd_T72 l0_4 x10_1).f1), .int .i64 ((rd_T72 l0_4 x10_1).f2), .int .i64 0, .slice none 0 0]) ?_ 3 _ rfl; (with_reducible repeat (first | refine blk_drewN ?_ _ | refine blk_drew ?_ | refine blk_alloc ?_ _)); refine blk_put (cs := #[.int .i64 ((rd_T72 l0_4 x10_1).f0), .int .i64 ((rd_T72 l0_4 x10_1).f1), .int .i64 0, .int .i64 0, .slice none 0 0]) ?_ 2 _ rfl; (with_reducible repeat (first | refine blk_drewN ?_ _ | refine blk_drew ?_ | refine blk_alloc ?_ _)); refine blk_put (cs := #[.int .i64 ((rd_T72 l0_4 x10_1).f0), .int .i64 0, .int .i64 0, .int .i64 0, .slice none 0 0]) ?_ 1 _ rfl; (with_reducible repeat (first | refine blk_drewN ?_ _ | refine blk_drew ?_ | refine blk_alloc ?_ _)); refine blk_put (cs := #[.int .i64 0, .int .i64 0, .int .i64 0, .int .i64 0, .slice none 0 0]) ?_ 0 _ rfl; (with_reducible repeat (first | refine blk_drewN ?_ _ | refine blk_drew ?_ | refine blk_alloc ?_ _)); exact BK146.out) hb); have n4_ := Aside0.mk (below_step (by repeat (first | (with_reducible first | exact HB.out | apply below_alloc | apply pw_below_drewN | apply below_drew1 | refine below_set ?_ GE141.out | refine below_set ?_ GE146.out) | exact HB.out)) hb); clear HO_9; clear BK141; clear BK146; clear HB; have HO_9 := n0_; have HO149 := n1_; have BK141 := n2_; have BK146 := n3_; have HB := n4_; clear n0_ n1_ n2_ n3_ n4_; (try clear hb); (try clear hb2); (try clear hk); (try clear hi); (try clear ho0); obtain ⟨Ao20, co20, eo20⟩ := Kd.R_slice HO149.out; subst eo20) | ((with_reducible refine gate_builtin (b := .append) (xs := #[.tmp 37, .tmp 43]) rfl ?_); at_builtin; refine Kd.R_append_rows k45 (w0 := w) w.heap.size rfl (.tmp 37) (.tmp 43) 22 45 (.agg #[(.int .i64 0), (.int .i64 0), (.int .i64 0), (.int .i64 0), (.int .i64 0), (.int .i64 0), (.int .i64 0)]) 56 rfl Tryd.underlying22 info45 rfl (by decide) (by omega) u9 x9_1 t147 _ _ _ (fun k_ => some k_ ≠ (.slice Ao20 t147.length co20 : Value).ownBlock) (fun _ => False) rfl rfl ?aO ?aR (fun _ _ h => h) (fun _ h => h.elim) ?aF ?aB ?aS ?aL ?_; (case aR => repeat (first | exact (Kd.R_reads' HO149.out).2.2 | (with_reducible refine Kd.C_alloc ?_ _) | (with_reducible refine Kd.C_drewN ?_ _) | (with_reducible refine Kd.C_drew ?_))); (case aB => exact (by repeat (first | (with_reducible first | exact HB.out | apply below_alloc | apply pw_below_drewN | apply below_drew1 | refine below_set ?_ GE141.out | refine below_set ?_ GE146.out) | exact HB.out))); (case aF => exact (fun k_ hk => Kd.fresh' (Kd.R_lt (by (with_reducible repeat (first | apply Kd.R_alloc | apply Kd.R_drewN | apply Kd.R_drew)); exact HO149.out)) k_ hk)); (case aO => exact (by (with_reducible repeat (first | apply Kd.R_alloc | apply Kd.R_drewN | apply Kd.R_drew)); exact Kd.R_mono HO_9.out (fun _ hk => hk.2))); (case aS => exact (below_size (by repeat (first | (with_reducible first | exact HB.out | apply below_alloc | apply pw_below_drewN | apply below_drew1 | refine below_set ?_ GE141.out | refine below_set ?_ GE146.out) | exact HB.out)))); (case aL => have := LMc12.out; omega); intro v151 w19 ho hb hg hat; rw [← Ny150.out] at ho; have n0_ := Aside0.mk (blk_grown (g := gb141) (o := .cells #[.int .i64 a0_0, .int .i64 a0_1, .int .i64 a0_2, .int .i64 a0_3, .slice (some ad145) l0_4.length c0_4] 72 (0, 0)) (by (with_reducible repeat (first | refine blk_drewN ?_ _ | refine blk_drew ?_ | refine blk_alloc ?_ _)); exact BK141.out) hg (Kd.R_ne HO_9.out BK141.out (by decide))); have n1_ := Aside0.mk (blk_grown (g := gb146) (o := .cells #[.int .i64 ((rd_T72 l0_4 x10_1).f0), .int .i64 ((rd_T72 l0_4 x10_1).f1), .int .i64 ((rd_T72 l0_4 x10_1).f2), .int .i64 ((rd_T72 l0_4 x10_1).f3), .slice A145_4 ((rd_T72 l0_4 x10_1).f4).length c145_4] 72 (0, 0)) (by (with_reducible repeat (first | refine blk_drewN ?_ _ | refine blk_drew ?_ | refine blk_alloc ?_ _)); exact BK146.out) hg (Kd.R_ne HO_9.out BK146.out (by decide))); have n2_ := Aside0.mk (Kd.R_after (ok := (fun _ => True)) (by (with_reducible repeat (first | apply Kd.R_alloc | apply Kd.R_drewN | apply Kd.R_drew)); exact HO149.out) hg hat); have n3_ := Aside0.mk (hb); have n4_ := Aside0.mk (ho); clear BK141; clear BK146; clear HO149; clear HB; clear HO_9; have BK141 := n0_; have BK146 := n1_; have HO149 := n2_; have HB := n3_; have HO152 := n4_; clear n0_ n1_ n2_ n3_ n4_; clear ho hb hg hat; have hcz21_0 : w19.cell? ⟨gb141, 0, none⟩ = some (.int .i64 a0_0) := (blk_cell BK141.out 0).trans rfl; have hcz21_1 : w19.cell? ⟨gb141, 1, none⟩ = some (.int .i64 a0_1) := (blk_cell BK141.out 1).trans rfl; have hcz21_2 : w19.cell? ⟨gb141, 2, none⟩ = some (.int .i64 a0_2) := (blk_cell BK141.out 2).trans rfl; have hcz21_3 : w19.cell? ⟨gb141, 3, none⟩ = some (.int .i64 a0_3) := (blk_cell BK141.out 3).trans rfl; have hcz21_4 : w19.cell? ⟨gb141, 4, none⟩ = some (.slice (some ad145) l0_4.length c0_4) := (blk_cell BK141.out 4).trans rfl; have hfz21_0 := blk_frozen BK141.out 0; have hfz21_1 := blk_frozen BK141.out 1; have hfz21_2 := blk_frozen BK141.out 2; have hfz21_3 := blk_frozen BK141.out 3; have hfz21_4 := blk_frozen BK141.out 4; have hcz22_0 : w19.cell? ⟨gb146, 0, none⟩ = some (.int .i64 ((rd_T72 l0_4 x10_1).f0)) := (blk_cell BK146.out 0).trans rfl; have hcz22_1 : w19.cell? ⟨gb146, 1, none⟩ = some (.int .i64 ((rd_T72 l0_4 x10_1).f1)) := (blk_cell BK146.out 1).trans rfl; have hcz22_2 : w19.cell? ⟨gb146, 2, none⟩ = some (.int .i64 ((rd_T72 l0_4 x10_1).f2)) := (blk_cell BK146.out 2).trans rfl; have hcz22_3 : w19.cell? ⟨gb146, 3, none⟩ = some (.int .i64 ((rd_T72 l0_4 x10_1).f3)) := (blk_cell BK146.out 3).trans rfl; have hcz22_4 : w19.cell? ⟨gb146, 4, none⟩ = some (.slice A145_4 ((rd_T72 l0_4 x10_1).f4).length c145_4) := (blk_cell BK146.out 4).trans rfl; have hfz22_0 := blk_frozen BK146.out 0; have hfz22_1 := blk_frozen BK146.out 1; have hfz22_2 := blk_frozen BK146.out 2; have hfz22_3 := blk_frozen BK146.out 3; have hfz22_4 := blk_frozen BK146.out 4))
             go_roundg k1
             case measure => have := HK1.out; omega
             case rel => exact ⟨(wrap64 ((wrap64 (x2_1 + ((rd_T72 l0_4 x10_1).f1))) + 1)), (x3_1), (y150), (wrap64 (x10_1 + 1)), (by first | rfl | (simp; done) | (simp [*]; done)), (by first | rfl | (simp; done) | (simp [*]; done)), (by first | rfl | (simp; done) | (simp [*]; done)), H', ⟨by have := HK1.out; omega⟩, ⟨by (with_reducible repeat (first | apply Kd.R_alloc | apply Kd.R_drewN | apply Kd.R_drew)); exact Kd.R_mono HO152.out (fun _ hk => trivial)⟩, ⟨by (with_reducible repeat (first | refine blk_drewN ?_ _ | refine blk_drew ?_ | refine blk_alloc ?_ _)); exact BK141.out⟩, ⟨by repeat (first | (with_reducible first | exact HB.out | apply below_alloc | apply pw_below_drewN | apply below_drew1 | refine below_set ?_ GE141.out | refine below_set ?_ GE146.out) | exact HB.out)⟩⟩
           · rw [if_neg c13] at H
             have c13b0 : (a0_0 == 2) = false := beq_eq_false_iff_ne.mpr c13
             have c13b1 : (a0_0 != 2) = true := bne_iff_ne.mpr c13
             have H' := Aside0.mk H
             clear H
             have hcz23_0 : wr.cell? ⟨gb141, 0, none⟩ = some (.int .i64 a0_0) := (blk_cell BK141.out 0).trans rfl
             have hcz23_1 : wr.cell? ⟨gb141, 1, none⟩ = some (.int .i64 a0_1) := (blk_cell BK141.out 1).trans rfl
             have hcz23_2 : wr.cell? ⟨gb141, 2, none⟩ = some (.int .i64 a0_2) := (blk_cell BK141.out 2).trans rfl
             have hcz23_3 : wr.cell? ⟨gb141, 3, none⟩ = some (.int .i64 a0_3) := (blk_cell BK141.out 3).trans rfl
             have hcz23_4 : wr.cell? ⟨gb141, 4, none⟩ = some (.slice A0_4 l0_4.length c0_4) := (blk_cell BK141.out 4).trans rfl
             have hfz23_0 := blk_frozen BK141.out 0
             have hfz23_1 := blk_frozen BK141.out 1
             have hfz23_2 := blk_frozen BK141.out 2
             have hfz23_3 := blk_frozen BK141.out 3
             have hfz23_4 := blk_frozen BK141.out 4
             have p145 : 0 ≤ (x10_1 : Int) := of_decide_eq_true (by first | (with_reducible assumption) | assumption)
             have q145 : x10_1 < (l0_4.length : Int) := of_decide_eq_true (by first | (with_reducible assumption) | assumption)
             obtain ⟨ad145, A145_4, c145_4, e145, hx145_0, hx145_1, hx145_2, hx145_3, hx145_4, hl145_4, hi145_4⟩ := at_T72 HR0_4.out x10_1 p145 q145
             cases e145
             replace hx145_0 := (HB.out.cell (World.block_lt_of_cell? w _ hx145_0)).trans hx145_0
             replace hx145_1 := (HB.out.cell (World.block_lt_of_cell? w _ hx145_1)).trans hx145_1
             replace hx145_2 := (HB.out.cell (World.block_lt_of_cell? w _ hx145_2)).trans hx145_2
             replace hx145_3 := (HB.out.cell (World.block_lt_of_cell? w _ hx145_3)).trans hx145_3
             replace hx145_4 := (HB.out.cell (World.block_lt_of_cell? w _ hx145_4)).trans hx145_4
             have HR145_4 := Aside0.mk hi145_4
             have HC145_4 := Aside0.mk hl145_4
             clear hi145_4 hl145_4
             replace p145 := eq_true p145
             replace q145 := eq_true q145
             go_wp2_with (first | ((with_reducible refine gate_dst (N := 11) rfl ?_); refine box_event ?hg (N := 11) ?hd (cs := #[.int .i64 0, .int .i64 0, .int .i64 0, .int .i64 0, .slice none 0 0]) (t := 72) ?hr ?_; (case hd => rfl); (case hg => rfl); (case hr => first | (go_simp; done) | (go_simp; rfl)); intro gb146 hg w24 hbox hb; have n0_ := Aside0.mk (Kd.R_below (by (with_reducible repeat (first | apply Kd.R_alloc | apply Kd.R_drewN | apply Kd.R_drew)); exact HO_9.out) hb); have n1_ := Aside0.mk (blk_below (g := gb141) (o := .cells #[.int .i64 a0_0, .int .i64 a0_1, .int .i64 a0_2, .int .i64 a0_3, .slice (some ad145) l0_4.length c0_4] 72 (0, 0)) (by (with_reducible repeat (first | refine blk_drewN ?_ _ | refine blk_drew ?_ | refine blk_alloc ?_ _)); exact BK141.out) hb); have n2_ := Aside0.mk (below_step (by repeat (first | (with_reducible first | exact HB.out | apply below_alloc | apply pw_below_drewN | apply below_drew1 | refine below_set ?_ GE141.out) | exact HB.out)) hb); have n3_ := Aside0.mk (hbox); have n4_ := Aside0.mk ((by rw [hg]; exact (below_size (by repeat (first | (with_reducible first | exact HB.out | apply below_alloc | apply pw_below_drewN | apply below_drew1 | refine below_set ?_ GE141.out) | exact HB.out))) : w.heap.size ≤ gb146)); have n5_ := Aside0.mk ((by rw [hg]; exact (below_size (by repeat (first | (with_reducible first | exact HB.out | apply below_alloc | apply pw_below_drewN | apply below_drew1 | refine below_set ?_ GE141.out) | exact HB.out))) : w.heap.size ≤ gb146)); have n6_ := Aside0.mk ((by rw [hg]; exact Nat.ne_of_lt (blk_lt (g := gb141) (o := .cells #[.int .i64 a0_0, .int .i64 a0_1, .int .i64 a0_2, .int .i64 a0_3, .slice (some ad145) l0_4.length c0_4] 72 (0, 0)) (by (with_reducible repeat (first | refine blk_drewN ?_ _ | refine blk_drew ?_ | refine blk_alloc ?_ _)); exact BK141.out)) : gb141 ≠ gb146)); have n7_ := Aside0.mk ((by rw [hg]; exact Nat.ne_of_gt (blk_lt (g := gb141) (o := .cells #[.int .i64 a0_0, .int .i64 a0_1, .int .i64 a0_2, .int .i64 a0_3, .slice (some ad145) l0_4.length c0_4] 72 (0, 0)) (by (with_reducible repeat (first | refine blk_drewN ?_ _ | refine blk_drew ?_ | refine blk_alloc ?_ _)); exact BK141.out)) : gb146 ≠ gb141)); clear HO_9; clear BK141; clear HB; have HO_9 := n0_; have BK141 := n1_; have HB := n2_; have BK146 := n3_; have GW146 := n4_; have GE146 := n5_; have NB141_146 := n6_; have NB146_141 := n7_; clear n0_ n1_ n2_ n3_ n4_ n5_ n6_ n7_; clear hb hbox hg; have hnb25 := NB146_141.out; have hnc25 := NB141_146.out; have hcz26_0 : w24.cell? ⟨gb146, 0, none⟩ = some (.int .i64 0) := (blk_cell BK146.out 0).trans rfl; have hcz26_1 : w24.cell? ⟨gb146, 1, none⟩ = some (.int .i64 0) := (blk_cell BK146.out 1).trans rfl; have hcz26_2 : w24.cell? ⟨gb146, 2, none⟩ = some (.int .i64 0) := (blk_cell BK146.out 2).trans rfl; have hcz26_3 : w24.cell? ⟨gb146, 3, none⟩ = some (.int .i64 0) := (blk_cell BK146.out 3).trans rfl; have hcz26_4 : w24.cell? ⟨gb146, 4, none⟩ = some (.slice none 0 0) := (blk_cell BK146.out 4).trans rfl; have hfz26_0 := blk_frozen BK146.out 0; have hfz26_1 := blk_frozen BK146.out 1; have hfz26_2 := blk_frozen BK146.out 2; have hfz26_3 := blk_frozen BK146.out 3; have hfz26_4 := blk_frozen BK146.out 4) | ((with_reducible refine gate_callee (f := 71) rfl ?_); refine goesL_ (some 43) rfl rfl Tryd.func71 (by kernel_rfl) rfl #[.agg #[.int .i64 ((rd_T72 l0_4 x10_1).f0), .int .i64 ((rd_T72 l0_4 x10_1).f1), .int .i64 ((rd_T72 l0_4 x10_1).f2), .int .i64 ((rd_T72 l0_4 x10_1).f3), .slice A145_4 ((rd_T72 l0_4 x10_1).f4).length c145_4], .int .i64 (wrap64 (a1 + 1)), .int .i64 x2_1, .int .i64 x3_1] rfl (by (try simp only [List.map_toArray, List.map_cons, List.map_nil]); first | done | rfl | (simp only [List.length_drop, List.length_take]; rfl)) ?_; (with_reducible refine (ih k1 (by have := HK1.out; omega) ((rd_T72 l0_4 x10_1).f0) ((rd_T72 l0_4 x10_1).f1) ((rd_T72 l0_4 x10_1).f2) ((rd_T72 l0_4 x10_1).f3) _ _ ((rd_T72 l0_4 x10_1).f4) (wrap64 (a1 + 1)) x2_1 x3_1 t147 _ ?side1 ?side2 A11.out).mono ?_); (case side1 => exact Kd.C_below HR145_4.out (by repeat (first | (with_reducible first | exact HB.out | apply below_alloc | apply pw_below_drewN | apply below_drew1 | refine below_set ?_ GE141.out | refine below_set ?_ GE146.out) | exact HB.out))); (case side2 => exact HC145_4.out); rintro e w27 ⟨v148, rfl, ho0, hb⟩; refine ⟨_, rfl, ?_⟩; have n0_ := Aside0.mk (Kd.R_elder' (by (with_reducible repeat (first | apply Kd.R_alloc | apply Kd.R_drewN | apply Kd.R_drew)); exact (Kd.R_mono (Kd.R_far (p := ⟨gb146, 4, none⟩) (Kd.R_far (p := ⟨gb146, 3, none⟩) (Kd.R_far (p := ⟨gb146, 2, none⟩) (Kd.R_far (p := ⟨gb146, 1, none⟩) (Kd.R_far (p := ⟨gb146, 0, none⟩) (Kd.R_types HO_9.out BK146.out (by decide)) (fun _ hk => hk.2) (.int .i64 ((rd_T72 l0_4 x10_1).f0))) (fun _ hk => hk.2) (.int .i64 ((rd_T72 l0_4 x10_1).f1))) (fun _ hk => hk.2) (.int .i64 ((rd_T72 l0_4 x10_1).f2))) (fun _ hk => hk.2) (.int .i64 ((rd_T72 l0_4 x10_1).f3))) (fun _ hk => hk.2) (.slice A145_4 ((rd_T72 l0_4 x10_1).f4).length c145_4)) (fun _ h_ => h_.1))) (Kd.R_base ho0) hb); have n1_ := Aside0.mk (Kd.R_lower (Kd.R_new' ho0 (Kd.R_lt (by (with_reducible repeat (first | apply Kd.R_alloc | apply Kd.R_drewN | apply Kd.R_drew)); exact (Kd.R_mono (Kd.R_far (p := ⟨gb146, 4, none⟩) (Kd.R_far (p := ⟨gb146, 3, none⟩) (Kd.R_far (p := ⟨gb146, 2, none⟩) (Kd.R_far (p := ⟨gb146, 1, none⟩) (Kd.R_far (p := ⟨gb146, 0, none⟩) (Kd.R_types HO_9.out BK146.out (by decide)) (fun _ hk => hk.2) (.int .i64 ((rd_T72 l0_4 x10_1).f0))) (fun _ hk => hk.2) (.int .i64 ((rd_T72 l0_4 x10_1).f1))) (fun _ hk => hk.2) (.int .i64 ((rd_T72 l0_4 x10_1).f2))) (fun _ hk => hk.2) (.int .i64 ((rd_T72 l0_4 x10_1).f3))) (fun _ hk => hk.2) (.slice A145_4 ((rd_T72 l0_4 x10_1).f4).length c145_4)) (fun _ h_ => h_.1))))) (below_size (by repeat (first | (with_reducible first | exact HB.out | apply below_alloc | apply pw_below_drewN | apply below_drew1 | refine below_set ?_ GE141.out | refine below_set ?_ GE146.out) | exact HB.out)))); have n2_ := Aside0.mk (blk_below (g := gb141) (o := .cells #[.int .i64 a0_0, .int .i64 a0_1, .int .i64 a0_2, .int .i64 a0_3, .slice (some ad145) l0_4.length c0_4] 72 (0, 0)) (by (with_reducible repeat (first | refine blk_drewN ?_ _ | refine blk_drew ?_ | refine blk_alloc ?_ _)); refine blk_far ?_ NB141_146.out _; (with_reducible repeat (first | refine blk_drewN ?_ _ | refine blk_drew ?_ | refine blk_alloc ?_ _)); refine blk_far ?_ NB141_146.out _; (with_reducible repeat (first | refine blk_drewN ?_ _ | refine blk_drew ?_ | refine blk_alloc ?_ _)); refine blk_far ?_ NB141_146.out _; (with_reducible repeat (first | refine blk_drewN ?_ _ | refine blk_drew ?_ | refine blk_alloc ?_ _)); refine blk_far ?_ NB141_146.out _; (with_reducible repeat (first | refine blk_drewN ?_ _ | refine blk_drew ?_ | refine blk_alloc ?_ _)); refine blk_far ?_ NB141_146.out _; (with_reducible repeat (first | refine blk_drewN ?_ _ | refine blk_drew ?_ | refine blk_alloc ?_ _)); exact BK141.out) hb); have n3_ := Aside0.mk (blk_below (g := gb146) (o := .cells #[.int .i64 ((rd_T72 l0_4 x10_1).f0), .int .i64 ((rd_T72 l0_4 x10_1).f1), .int .i64 ((rd_T72 l0_4 x10_1).f2), .int .i64 ((rd_T72 l0_4 x10_1).f3), .slice A145_4 ((rd_T72 l0_4 x10_1).f4).length c145_4] 72 (0, 0)) (by (with_reducible repeat (first | refine blk_drewN ?_ _ | refine blk_drew ?_ | refine blk_alloc ?_ _)); refine blk_put (cs := #[.int .i64 ((rd_T72 l0_4 x10_1).f0), .int .i64 ((rd_T72 l0_4 x10_1).f1), .int .i64 ((rd_T72 l0_4 x10_1).f2), .int .i64 ((rd_T72 l0_4 x10_1).f3), .slice none 0 0]) ?_ 4 _ rfl; (with_reducible repeat (first | refine blk_drewN ?_ _ | refine blk_drew ?_ | refine blk_alloc ?_ _)); refine blk_put (cs := #[.int .i64 ((rd_T72 l0_4 x10_1).f0), .int .i64 ((rd_T72 l0_4 x10_1).f1), .int .i64 ((rd_T72 l0_4 x10_1).f2), .int .i64 0, .slice none 0 0]) ?_ 3 _ rfl; (with_reducible repeat (first | refine blk_drewN ?_ _ | refine blk_drew ?_ | refine blk_alloc ?_ _)); refine blk_put (cs := #[.int .i64 ((rd_T72 l0_4 x10_1).f0), .int .i64 ((rd_T72 l0_4 x10_1).f1), .int .i64 0, .int .i64 0, .slice none 0 0]) ?_ 2 _ rfl; (with_reducible repeat (first | refine blk_drewN ?_ _ | refine blk_drew ?_ | refine blk_alloc ?_ _)); refine blk_put (cs := #[.int .i64 ((rd_T72 l0_4 x10_1).f0), .int .i64 0, .int .i64 0, .int .i64 0, .slice none 0 0]) ?_ 1 _ rfl; (with_reducible repeat (first | refine blk_drewN ?_ _ | refine blk_drew ?_ | refine blk_alloc ?_ _)); refine blk_put (cs := #[.int .i64 0, .int .i64 0, .int .i64 0, .int .i64 0, .slice none 0 0]) ?_ 0 _ rfl; (with_reducible repeat (first | refine blk_drewN ?_ _ | refine blk_drew ?_ | refine blk_alloc ?_ _)); exact BK146.out) hb); have n4_ := Aside0.mk (below_step (by repeat (first | (with_reducible first | exact HB.out | apply below_alloc | apply pw_below_drewN | apply below_drew1 | refine below_set ?_ GE141.out | refine below_set ?_ GE146.out) | exact HB.out)) hb); clear HO_9; clear BK141; clear BK146; clear HB; have HO_9 := n0_; have HO149 := n1_; have BK141 := n2_; have BK146 := n3_; have HB := n4_; clear n0_ n1_ n2_ n3_ n4_; (try clear hb); (try clear hb2); (try clear hk); (try clear hi); (try clear ho0); obtain ⟨Ao29, co29, eo29⟩ := Kd.R_slice HO149.out; subst eo29) | ((with_reducible refine gate_builtin (b := .append) (xs := #[.tmp 37, .tmp 43]) rfl ?_); at_builtin; refine Kd.R_append_rows k45 (w0 := w) w.heap.size rfl (.tmp 37) (.tmp 43) 22 45 (.agg #[(.int .i64 0), (.int .i64 0), (.int .i64 0), (.int .i64 0), (.int .i64 0), (.int .i64 0), (.int .i64 0)]) 56 rfl Tryd.underlying22 info45 rfl (by decide) (by omega) u9 x9_1 t147 _ _ _ (fun k_ => some k_ ≠ (.slice Ao29 t147.length co29 : Value).ownBlock) (fun _ => False) rfl rfl ?aO ?aR (fun _ _ h => h) (fun _ h => h.elim) ?aF ?aB ?aS ?aL ?_; (case aR => repeat (first | exact (Kd.R_reads' HO149.out).2.2 | (with_reducible refine Kd.C_alloc ?_ _) | (with_reducible refine Kd.C_drewN ?_ _) | (with_reducible refine Kd.C_drew ?_))); (case aB => exact (by repeat (first | (with_reducible first | exact HB.out | apply below_alloc | apply pw_below_drewN | apply below_drew1 | refine below_set ?_ GE141.out | refine below_set ?_ GE146.out) | exact HB.out))); (case aF => exact (fun k_ hk => Kd.fresh' (Kd.R_lt (by (with_reducible repeat (first | apply Kd.R_alloc | apply Kd.R_drewN | apply Kd.R_drew)); exact HO149.out)) k_ hk)); (case aO => exact (by (with_reducible repeat (first | apply Kd.R_alloc | apply Kd.R_drewN | apply Kd.R_drew)); exact Kd.R_mono HO_9.out (fun _ hk => hk.2))); (case aS => exact (below_size (by repeat (first | (with_reducible first | exact HB.out | apply below_alloc | apply pw_below_drewN | apply below_drew1 | refine below_set ?_ GE141.out | refine below_set ?_ GE146.out) | exact HB.out)))); (case aL => have := LMc12.out; omega); intro v151 w28 ho hb hg hat; rw [← Ny150.out] at ho; have n0_ := Aside0.mk (blk_grown (g := gb141) (o := .cells #[.int .i64 a0_0, .int .i64 a0_1, .int .i64 a0_2, .int .i64 a0_3, .slice (some ad145) l0_4.length c0_4] 72 (0, 0)) (by (with_reducible repeat (first | refine blk_drewN ?_ _ | refine blk_drew ?_ | refine blk_alloc ?_ _)); exact BK141.out) hg (Kd.R_ne HO_9.out BK141.out (by decide))); have n1_ := Aside0.mk (blk_grown (g := gb146) (o := .cells #[.int .i64 ((rd_T72 l0_4 x10_1).f0), .int .i64 ((rd_T72 l0_4 x10_1).f1), .int .i64 ((rd_T72 l0_4 x10_1).f2), .int .i64 ((rd_T72 l0_4 x10_1).f3), .slice A145_4 ((rd_T72 l0_4 x10_1).f4).length c145_4] 72 (0, 0)) (by (with_reducible repeat (first | refine blk_drewN ?_ _ | refine blk_drew ?_ | refine blk_alloc ?_ _)); exact BK146.out) hg (Kd.R_ne HO_9.out BK146.out (by decide))); have n2_ := Aside0.mk (Kd.R_after (ok := (fun _ => True)) (by (with_reducible repeat (first | apply Kd.R_alloc | apply Kd.R_drewN | apply Kd.R_drew)); exact HO149.out) hg hat); have n3_ := Aside0.mk (hb); have n4_ := Aside0.mk (ho); clear BK141; clear BK146; clear HO149; clear HB; clear HO_9; have BK141 := n0_; have BK146 := n1_; have HO149 := n2_; have HB := n3_; have HO152 := n4_; clear n0_ n1_ n2_ n3_ n4_; clear ho hb hg hat; have hcz30_0 : w28.cell? ⟨gb141, 0, none⟩ = some (.int .i64 a0_0) := (blk_cell BK141.out 0).trans rfl; have hcz30_1 : w28.cell? ⟨gb141, 1, none⟩ = some (.int .i64 a0_1) := (blk_cell BK141.out 1).trans rfl; have hcz30_2 : w28.cell? ⟨gb141, 2, none⟩ = some (.int .i64 a0_2) := (blk_cell BK141.out 2).trans rfl; have hcz30_3 : w28.cell? ⟨gb141, 3, none⟩ = some (.int .i64 a0_3) := (blk_cell BK141.out 3).trans rfl; have hcz30_4 : w28.cell? ⟨gb141, 4, none⟩ = some (.slice (some ad145) l0_4.length c0_4) := (blk_cell BK141.out 4).trans rfl; have hfz30_0 := blk_frozen BK141.out 0; have hfz30_1 := blk_frozen BK141.out 1; have hfz30_2 := blk_frozen BK141.out 2; have hfz30_3 := blk_frozen BK141.out 3; have hfz30_4 := blk_frozen BK141.out 4; have hcz31_0 : w28.cell? ⟨gb146, 0, none⟩ = some (.int .i64 ((rd_T72 l0_4 x10_1).f0)) := (blk_cell BK146.out 0).trans rfl; have hcz31_1 : w28.cell? ⟨gb146, 1, none⟩ = some (.int .i64 ((rd_T72 l0_4 x10_1).f1)) := (blk_cell BK146.out 1).trans rfl; have hcz31_2 : w28.cell? ⟨gb146, 2, none⟩ = some (.int .i64 ((rd_T72 l0_4 x10_1).f2)) := (blk_cell BK146.out 2).trans rfl; have hcz31_3 : w28.cell? ⟨gb146, 3, none⟩ = some (.int .i64 ((rd_T72 l0_4 x10_1).f3)) := (blk_cell BK146.out 3).trans rfl; have hcz31_4 : w28.cell? ⟨gb146, 4, none⟩ = some (.slice A145_4 ((rd_T72 l0_4 x10_1).f4).length c145_4) := (blk_cell BK146.out 4).trans rfl; have hfz31_0 := blk_frozen BK146.out 0; have hfz31_1 := blk_frozen BK146.out 1; have hfz31_2 := blk_frozen BK146.out 2; have hfz31_3 := blk_frozen BK146.out 3; have hfz31_4 := blk_frozen BK146.out 4))
             go_roundg k1
             case measure => have := HK1.out; omega
             case rel => exact ⟨(x2_1), (wrap64 ((wrap64 (x3_1 + ((rd_T72 l0_4 x10_1).f2))) + 1)), (y150), (wrap64 (x10_1 + 1)), (by first | rfl | (simp; done) | (simp [*]; done)), (by first | rfl | (simp; done) | (simp [*]; done)), (by first | rfl | (simp; done) | (simp [*]; done)), H', ⟨by have := HK1.out; omega⟩, ⟨by (with_reducible repeat (first | apply Kd.R_alloc | apply Kd.R_drewN | apply Kd.R_drew)); exact Kd.R_mono HO152.out (fun _ hk => trivial)⟩, ⟨by (with_reducible repeat (first | refine blk_drewN ?_ _ | refine blk_drew ?_ | refine blk_alloc ?_ _)); exact BK141.out⟩, ⟨by repeat (first | (with_reducible first | exact HB.out | apply below_alloc | apply pw_below_drewN | apply below_drew1 | refine below_set ?_ GE141.out | refine below_set ?_ GE146.out) | exact HB.out)⟩⟩
         · rw [if_neg c12] at H
           exact absurd H (by simp)
       · rw [if_neg c10] at H
         exact absurd H (by simp)
     · rw [if_neg c9] at H
       have c9b0 : decide (x10_1 < (l0_4.length : Int)) = false := decide_eq_false c9
       clear c9
       obtain rfl := Option.some.inj H
       have hcz32_0 : wr.cell? ⟨gb141, 0, none⟩ = some (.int .i64 a0_0) := (blk_cell BK141.out 0).trans rfl
       have hcz32_1 : wr.cell? ⟨gb141, 1, none⟩ = some (.int .i64 a0_1) := (blk_cell BK141.out 1).trans rfl
       have hcz32_2 : wr.cell? ⟨gb141, 2, none⟩ = some (.int .i64 a0_2) := (blk_cell BK141.out 2).trans rfl
       have hcz32_3 : wr.cell? ⟨gb141, 3, none⟩ = some (.int .i64 a0_3) := (blk_cell BK141.out 3).trans rfl
       have hcz32_4 : wr.cell? ⟨gb141, 4, none⟩ = some (.slice A0_4 l0_4.length c0_4) := (blk_cell BK141.out 4).trans rfl
       have hfz32_0 := blk_frozen BK141.out 0
       have hfz32_1 := blk_frozen BK141.out 1
       have hfz32_2 := blk_frozen BK141.out 2
       have hfz32_3 := blk_frozen BK141.out 3
       have hfz32_4 := blk_frozen BK141.out 4
       go_wp2
       go_ret
       exact ⟨_, by first | rfl | (simp [errW_none, errW_some] <;> rfl) | (simp [*, errW_none, errW_some] <;> rfl), by (with_reducible repeat (first | apply Kd.R_alloc | apply Kd.R_drewN | apply Kd.R_drew)); exact HO_9.out, by repeat (first | (with_reducible first | exact HB.out | apply below_alloc | apply pw_below_drewN | apply below_drew1 | refine below_set ?_ GE141.out) | exact HB.out)⟩
def mullionref04_List.f (k : Nat) (a0_0 : Int) (a0_1 : Int) (a0_2 : Int) (a0_3 : Int) (l0_4 : List (S72)) : Option ((List (S45))) := (mullionref04_lay.f k a0_0 a0_1 a0_2 a0_3 l0_4 0 0 0).bind fun t154 => (some t154)
theorem mullionref04_List.mono : ∀ a0 a1 a2 a3 a4 k, LeO (mullionref04_List.f k a0 a1 a2 a3 a4) (mullionref04_List.f (k + 1) a0 a1 a2 a3 a4) := by
 intro a0 a1 a2 a3 a4 k
 unfold mullionref04_List.f
 repeat' first
     | (with_reducible exact mullionref04_lay.mono _ _ _ _ _ _ _ _ _)
     | (with_reducible exact LeO.refl _)
     | (with_reducible exact LeO.none _)
     | (with_reducible refine LeO.ite ?_ ?_)
     | (with_reducible refine LeO.bind ?_ (fun _ => ?_))
     | exact mullionref04_lay.mono _ _ _ _ _ _ _ _ _
     | exact LeO.none _
     | refine LeO.ite ?_ ?_
     | refine LeO.bind ?_ (fun _ => ?_)
set_option maxHeartbeats 8000000 in
set_option maxRecDepth 100000 in
theorem mullionref04_List.calls (k : Nat) (a0_0 : Int) (a0_1 : Int) (a0_2 : Int) (a0_3 : Int) (A0_4 : Option Addr) (c0_4 : Nat) (l0_4 : List (S72)) (r : List (S45)) (w : World) (hr0_4 : Kd.C k72 w A0_4 l0_4.length l0_4) (hc0_4 : l0_4.length ≤ c0_4) (h : mullionref04_List.f k a0_0 a0_1 a0_2 a0_3 l0_4 = some r) :
   Calls Tryd.prog 60 #[.agg #[.int .i64 a0_0, .int .i64 a0_1, .int .i64 a0_2, .int .i64 a0_3, .slice A0_4 l0_4.length c0_4]] w fun e w' => ∃ v0_ : Value, e = .returned (v0_) ∧ Kd.R k45 45 w' w.heap.size (fun _ => True) v0_ r ∧ Below w.heap.size w w' := by
 have hu72 := Tryd.underlying72
 have HR0_4 := Aside0.mk hr0_4
 have HC0_4 := Aside0.mk hc0_4
 clear hr0_4 hc0_4
 have HB := Aside0.mk (Below.refl w.heap.size w)
 have H : ((mullionref04_lay.f k a0_0 a0_1 a0_2 a0_3 l0_4 0 0 0).bind fun t154 => (some t154)) = some r := h
 clear h
 replace H := Option.bind_eq_some_iff.mp H
 obtain ⟨t154, A20, H⟩ := H
 replace H : (some t154) = some r := H
 have A2 := Aside0.mk A20
 clear A20
 obtain rfl := Option.some.inj H
 go_enter Tryd.func60, Tryd.ntmps60
 go_wp2_with (first | ((with_reducible refine gate_dst (N := 1) rfl ?_); refine box_event ?hg (N := 1) ?hd (cs := #[.int .i64 a0_0, .int .i64 a0_1, .int .i64 a0_2, .int .i64 a0_3, .slice A0_4 l0_4.length c0_4]) (t := 72) ?hr ?_; (case hd => rfl); (case hg => rfl); (case hr => first | (go_simp; done) | (go_simp; rfl)); intro gb153 hg w3 hbox hb; have n0_ := Aside0.mk (below_step (by repeat (first | (with_reducible first | exact HB.out | apply below_alloc | apply pw_below_drewN | apply below_drew1) | exact HB.out)) hb); have n1_ := Aside0.mk (hbox); have n2_ := Aside0.mk ((by rw [hg]; exact (below_size (by repeat (first | (with_reducible first | exact HB.out | apply below_alloc | apply pw_below_drewN | apply below_drew1) | exact HB.out))) : w.heap.size ≤ gb153)); have n3_ := Aside0.mk ((by rw [hg]; exact (below_size (by repeat (first | (with_reducible first | exact HB.out | apply below_alloc | apply pw_below_drewN | apply below_drew1) | exact HB.out))) : w.heap.size ≤ gb153)); clear HB; have HB := n0_; have BK153 := n1_; have GW153 := n2_; have GE153 := n3_; clear n0_ n1_ n2_ n3_; clear hb hbox hg; have hcz4_0 : w3.cell? ⟨gb153, 0, none⟩ = some (.int .i64 a0_0) := (blk_cell BK153.out 0).trans rfl; have hcz4_1 : w3.cell? ⟨gb153, 1, none⟩ = some (.int .i64 a0_1) := (blk_cell BK153.out 1).trans rfl; have hcz4_2 : w3.cell? ⟨gb153, 2, none⟩ = some (.int .i64 a0_2) := (blk_cell BK153.out 2).trans rfl; have hcz4_3 : w3.cell? ⟨gb153, 3, none⟩ = some (.int .i64 a0_3) := (blk_cell BK153.out 3).trans rfl; have hcz4_4 : w3.cell? ⟨gb153, 4, none⟩ = some (.slice A0_4 l0_4.length c0_4) := (blk_cell BK153.out 4).trans rfl; have hfz4_0 := blk_frozen BK153.out 0; have hfz4_1 := blk_frozen BK153.out 1; have hfz4_2 := blk_frozen BK153.out 2; have hfz4_3 := blk_frozen BK153.out 3; have hfz4_4 := blk_frozen BK153.out 4) | ((with_reducible refine gate_callee (f := 71) rfl ?_); refine goesL_ (some 4) rfl rfl Tryd.func71 (by kernel_rfl) rfl #[.agg #[.int .i64 a0_0, .int .i64 a0_1, .int .i64 a0_2, .int .i64 a0_3, .slice A0_4 l0_4.length c0_4], .int .i64 0, .int .i64 0, .int .i64 0] rfl (by (try simp only [List.map_toArray, List.map_cons, List.map_nil]); first | done | rfl | (simp only [List.length_drop, List.length_take]; rfl)) ?_; (with_reducible refine (mullionref04_lay.calls k a0_0 a0_1 a0_2 a0_3 _ _ l0_4 0 0 0 t154 _ ?side1 ?side2 A2.out).mono ?_); (case side1 => repeat (first | exact (Kd.C_below HR0_4.out HB.out) | (with_reducible refine Kd.C_alloc ?_ _) | (with_reducible refine Kd.C_drewN ?_ _) | (with_reducible refine Kd.C_drew ?_))); (case side2 => exact HC0_4.out); rintro e w5 ⟨v155, rfl, ho0, hb⟩; refine ⟨_, rfl, ?_⟩; have n0_ := Aside0.mk (Kd.R_lower ho0 (below_size (by repeat (first | (with_reducible first | exact HB.out | apply below_alloc | apply pw_below_drewN | apply below_drew1 | refine below_set ?_ GE153.out) | exact HB.out)))); have n1_ := Aside0.mk (blk_below (g := gb153) (o := .cells #[.int .i64 a0_0, .int .i64 a0_1, .int .i64 a0_2, .int .i64 a0_3, .slice A0_4 l0_4.length c0_4] 72 (0, 0)) (by (with_reducible repeat (first | refine blk_drewN ?_ _ | refine blk_drew ?_ | refine blk_alloc ?_ _)); exact BK153.out) hb); have n2_ := Aside0.mk (below_step (by repeat (first | (with_reducible first | exact HB.out | apply below_alloc | apply pw_below_drewN | apply below_drew1 | refine below_set ?_ GE153.out) | exact HB.out)) hb); clear BK153; clear HB; have HO156 := n0_; have BK153 := n1_; have HB := n2_; clear n0_ n1_ n2_; (try clear hb); (try clear hb2); (try clear hk); (try clear hi); (try clear ho0)))
 go_ret
 exact ⟨_, by first | rfl | (simp [errW_none, errW_some] <;> rfl) | (simp [*, errW_none, errW_some] <;> rfl), by (with_reducible repeat (first | apply Kd.R_alloc | apply Kd.R_drewN | apply Kd.R_drew)); exact HO156.out, by repeat (first | (with_reducible first | exact HB.out | apply below_alloc | apply pw_below_drewN | apply below_drew1 | refine below_set ?_ GE153.out) | exact HB.out)⟩
end Go.Proofs.YtmpnkckaohfflaaDoor.L
end
