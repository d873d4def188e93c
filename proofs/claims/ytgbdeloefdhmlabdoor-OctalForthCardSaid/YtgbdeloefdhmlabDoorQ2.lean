/- The machine side of functions of this seat, written by a program for this claim. Conditions: as each theorem says. -/
import Derived.Test.YtgbdeloefdhmlabDoorQ0
import Derived.Test.YtgbdeloefdhmlabDoorQ1
import Derived.Test.YtgbdeloefdhmlabDoorGivEsc
import Derived.Test.YtgbdeloefdhmlabDoorGivUn
import Derived.Test.YtgbdeloefdhmlabDoorGivPre
namespace Go.Proofs.YtgbdeloefdhmlabDoor.Q
open Go.RowKit Go.Proofs.YtgbdeloefdhmlabDoorW.PrintWords Go.Proofs.YtgbdeloefdhmlabDoorW.PrintLast Go.Proofs.YtgbdeloefdhmlabDoorW.PrintMore Go.Proofs.YtgbdeloefdhmlabDoor.Giv
attribute [local go_sem] max2_int min2_int max_two min_two max_three min_three max_four min_four   -- for this text's walks alone
set_option linter.unusedVariables false
set_option linter.unusedSimpArgs false

/-! ### mullionlaw01_OctalForth: function 4 -/
def mullionlaw01_OctalForth.j0 : Nat → ByteArray → Bool → Option (Bool)
  | 0, _, _ => none
  | k + 1, x0, x29 => if x29 = true then (some false) else ((octal_UnescapeBody.f k x0).bind fun bt120 => (if bt120.2 = 0 then ((octal_EscapeBody.f k bt120.1).bind fun t122 => (if t122.toList = x0.toList then ((octal_Unescape.f (⟨#[112, 108, 97, 105, 110]⟩ : ByteArray)).bind fun bt123 => (if bt123.1.toList = ([112, 108, 97, 105, 110] : List UInt8) then (some (bt123.2 == 0)) else (some false))) else (some false))) else (if bt120.1.toList = ([] : List UInt8) then ((octal_Unescape.f (⟨#[112, 108, 97, 105, 110]⟩ : ByteArray)).bind fun bt125 => (if bt125.1.toList = ([112, 108, 97, 105, 110] : List UInt8) then (some (bt125.2 == 0)) else (some false))) else (some false))))
def mullionlaw01_OctalForth.f (k : Nat) (a0 : ByteArray) : Option (Bool) := (octal_Unescape.f a0).bind fun bt117 => (if bt117.2 = 0 then ((octal_Escape.f bt117.1).bind fun t119 => (if t119.toList = a0.toList then (mullionlaw01_OctalForth.j0 k a0 false) else (mullionlaw01_OctalForth.j0 k a0 true))) else (mullionlaw01_OctalForth.j0 k a0 (bt117.1.toList != ([] : List UInt8))))
theorem mullionlaw01_OctalForth.mono_l : ∀ k, (∀ y0 y1, LeO (mullionlaw01_OctalForth.j0 k y0 y1) (mullionlaw01_OctalForth.j0 (k + 1) y0 y1))
  | 0 => fun _ _ r h => by simp [mullionlaw01_OctalForth.j0] at h
  | k + 1 => by
    have ih0 := mullionlaw01_OctalForth.mono_l k
    · intro y0 y1
      unfold mullionlaw01_OctalForth.j0
      repeat' first
      | (with_reducible exact ih0 _ _)
      | (with_reducible exact octal_EscapeBody.mono _ _)
      | (with_reducible exact octal_UnescapeBody.mono _ _)
      | (with_reducible exact LeO.refl _)
      | (with_reducible exact LeO.none _)
      | (with_reducible refine LeO.ite ?_ ?_)
      | (with_reducible refine LeO.bind ?_ (fun _ => ?_))
      | exact ih0 _ _
      | exact octal_EscapeBody.mono _ _
      | exact octal_UnescapeBody.mono _ _
      | exact LeO.none _
      | refine LeO.ite ?_ ?_
      | refine LeO.bind ?_ (fun _ => ?_)
theorem mullionlaw01_OctalForth.mono : ∀ a0 k, LeO (mullionlaw01_OctalForth.f k a0) (mullionlaw01_OctalForth.f (k + 1) a0) := by
  intro a0 k
  have ih0 := mullionlaw01_OctalForth.mono_l k
  unfold mullionlaw01_OctalForth.f
  repeat' first
      | (with_reducible exact ih0 _ _)
      | (with_reducible exact octal_EscapeBody.mono _ _)
      | (with_reducible exact octal_UnescapeBody.mono _ _)
      | (with_reducible exact LeO.refl _)
      | (with_reducible exact LeO.none _)
      | (with_reducible refine LeO.ite ?_ ?_)
      | (with_reducible refine LeO.bind ?_ (fun _ => ?_))
      | exact ih0 _ _
      | exact octal_EscapeBody.mono _ _
      | exact octal_UnescapeBody.mono _ _
      | exact LeO.none _
      | refine LeO.ite ?_ ?_
      | refine LeO.bind ?_ (fun _ => ?_)
set_option maxHeartbeats 8000000 in
set_option maxRecDepth 100000 in
theorem mullionlaw01_OctalForth.calls (k : Nat) (a0 : ByteArray) (r : Bool) (w : World) (HG : Aside0 (Glb w)) (h : mullionlaw01_OctalForth.f k a0 = some r) :
    Calls Tryd.prog 4 #[.string a0] w fun e w' => e = .returned (.bool r) ∧ Below w.heap.size w w' := by
  have HB := Aside0.mk (Below.refl w.heap.size w)
  have H : ((octal_Unescape.f a0).bind fun bt117 => (if bt117.2 = 0 then ((octal_Escape.f bt117.1).bind fun t119 => (if t119.toList = a0.toList then (mullionlaw01_OctalForth.j0 k a0 false) else (mullionlaw01_OctalForth.j0 k a0 true))) else (mullionlaw01_OctalForth.j0 k a0 (bt117.1.toList != ([] : List UInt8))))) = some r := h
  clear h
  replace H := Option.bind_eq_some_iff.mp H
  obtain ⟨⟨t117, t118⟩, A20, H⟩ := H
  replace H : (if t118 = 0 then ((octal_Escape.f t117).bind fun t119 => (if t119.toList = a0.toList then (mullionlaw01_OctalForth.j0 k a0 false) else (mullionlaw01_OctalForth.j0 k a0 true))) else (mullionlaw01_OctalForth.j0 k a0 (t117.toList != ([] : List UInt8)))) = some r := H
  have A2 := Aside0.mk A20
  clear A20
  have HC3 := Aside0.mk H
  clear H
  go_enter Tryd.func4, Tryd.ntmps4
  go_upto_region 2 with (first | ((with_reducible refine gate_callee (f := 14) rfl ?_); refine goesL_ (some 11) rfl rfl Tryd.func14 (by kernel_rfl) rfl #[.string a0] rfl (by (try simp only [List.map_toArray, List.map_cons, List.map_nil]); first | done | rfl | (simp only [List.length_drop, List.length_take]; rfl)) ?_; (with_reducible refine (octal_Unescape.calls a0 t117 t118 _ A2.out).mono ?_); rintro e w4 ⟨rfl, hb⟩; refine ⟨_, rfl, ?_⟩; have n0_ := Aside0.mk (below_step (by repeat (first | (with_reducible first | exact HB.out | apply below_alloc | apply pw_below_drewN | apply below_drew1) | exact HB.out)) hb); clear HB; have HB := n0_; clear n0_; (try clear hb); (try clear hb2); (try clear hk); (try clear hi)))
  (try simp only [Act.put, List.setIfInBounds_toArray, List.set_cons_zero, List.set_cons_succ])
  go_cut [29] (fun v29 wc => ∃ (kq : Nat) (x29_2 : Bool), v29 = .bool x29_2 ∧ Aside0 (mullionlaw01_OctalForth.j0 kq a0 x29_2 = some r) ∧ Aside0 (kq ≤ k) ∧ Aside0 (Below w.heap.size w wc))
  case first =>
    have H := HC3.out
    clear HC3
    by_cases c5 : t118 = 0
    · rw [if_pos c5] at H
      have c5b0 : (t118 == 0) = true := beq_iff_eq.mpr c5
      have c5b1 : (t118 != 0) = false := bne_eq_false_iff_eq.mpr c5
      clear c5
      (first | rw [c5b0] | (simp only [i64_w, i32_w]; rw [c5b0]) | skip)
      replace H := Option.bind_eq_some_iff.mp H
      obtain ⟨t119, A60, H⟩ := H
      replace H : (if t119.toList = a0.toList then (mullionlaw01_OctalForth.j0 k a0 false) else (mullionlaw01_OctalForth.j0 k a0 true)) = some r := H
      have A6 := Aside0.mk A60
      clear A60
      by_cases c7 : t119.toList = a0.toList
      · rw [if_pos c7] at H
        have c7b0 : (t119.toList == a0.toList) = true := beq_iff_eq.mpr c7
        have c7b1 : (t119.toList != a0.toList) = false := bne_eq_false_iff_eq.mpr c7
        clear c7
        have H' := Aside0.mk H
        clear H
        go_wp2_with (first | (go_at_call 15; (with_reducible refine (octal_Escape.calls t117 t119 _ (by exact Aside0.mk (Glb.below HG.out (by repeat (first | (with_reducible first | exact HB.out | apply below_alloc | apply pw_below_drewN | apply below_drew1) | exact HB.out)))) A6.out).mono ?_); rintro e w8 ⟨rfl, hb⟩; have n0_ := Aside0.mk (below_step (by repeat (first | (with_reducible first | exact HB.out | apply below_alloc | apply pw_below_drewN | apply below_drew1) | exact HB.out)) hb); clear HB; have HB := n0_; clear n0_; (try clear hb); (try clear hb2); (try clear hk); (try clear hi)))
        go_meet
        case rel => exact ⟨_, (false), (by first | rfl | (simp; done) | (simp [*]; done)), H', ⟨by first | omega | exact Nat.le_refl _⟩, ⟨by repeat (first | (with_reducible first | exact HB.out | apply below_alloc | apply pw_below_drewN | apply below_drew1) | exact HB.out)⟩⟩
      · rw [if_neg c7] at H
        have c7b0 : (t119.toList == a0.toList) = false := beq_eq_false_iff_ne.mpr c7
        have c7b1 : (t119.toList != a0.toList) = true := bne_iff_ne.mpr c7
        have H' := Aside0.mk H
        clear H
        go_wp2_with (first | (go_at_call 15; (with_reducible refine (octal_Escape.calls t117 t119 _ (by exact Aside0.mk (Glb.below HG.out (by repeat (first | (with_reducible first | exact HB.out | apply below_alloc | apply pw_below_drewN | apply below_drew1) | exact HB.out)))) A6.out).mono ?_); rintro e w9 ⟨rfl, hb⟩; have n0_ := Aside0.mk (below_step (by repeat (first | (with_reducible first | exact HB.out | apply below_alloc | apply pw_below_drewN | apply below_drew1) | exact HB.out)) hb); clear HB; have HB := n0_; clear n0_; (try clear hb); (try clear hb2); (try clear hk); (try clear hi)))
        go_meet
        case rel => exact ⟨_, (true), (by first | rfl | (simp; done) | (simp [*]; done)), H', ⟨by first | omega | exact Nat.le_refl _⟩, ⟨by repeat (first | (with_reducible first | exact HB.out | apply below_alloc | apply pw_below_drewN | apply below_drew1) | exact HB.out)⟩⟩
    · rw [if_neg c5] at H
      have c5b0 : (t118 == 0) = false := beq_eq_false_iff_ne.mpr c5
      have c5b1 : (t118 != 0) = true := bne_iff_ne.mpr c5
      (first | rw [c5b0] | (simp only [i64_w, i32_w]; rw [c5b0]) | skip)
      have H' := Aside0.mk H
      clear H
      go_wp2
      go_meet
      case rel => exact ⟨_, ((t117.toList != ([] : List UInt8))), (by first | rfl | (simp; done) | (simp [*]; done) | (simp; exact (show ∀ l_ : List UInt8, l_.isEmpty = !(l_ != []) from fun l_ => by cases l_ <;> rfl) _)), H', ⟨by first | omega | exact Nat.le_refl _⟩, ⟨by repeat (first | (with_reducible first | exact HB.out | apply below_alloc | apply pw_below_drewN | apply below_drew1) | exact HB.out)⟩⟩
  case rest =>
    clear HC3
    try clear c1
    try clear p2
    try clear c4
    try clear c5
    try clear c5b0
    try clear c5b1
    try clear c7
    try clear c7b0
    try clear c7b1
    obtain ⟨kq, x29_2, rfl, HA, HJ2, HB⟩ := hcut
    cases kq with
    | zero => exact absurd HA.out (by simp [mullionlaw01_OctalForth.j0])
    | succ kj2 =>
      have H := HA.out
      clear HA
      simp only [mullionlaw01_OctalForth.j0] at H
      by_cases c10 : x29_2 = true
      · subst c10
        have H1 : (some false) = some r := by rw [if_pos rfl] at H; exact H
        clear H
        have H := H1
        clear H1
        obtain rfl := Option.some.inj H
        go_wp2
        go_ret
        exact ⟨by first | rfl | (simp [errW_none, errW_some] <;> rfl) | (simp [*, errW_none, errW_some] <;> rfl), by repeat (first | (with_reducible first | exact HB.out | apply below_alloc | apply pw_below_drewN | apply below_drew1) | exact HB.out)⟩
      · replace c10 := Bool.eq_false_iff.mpr c10
        subst c10
        have H1 : ((octal_UnescapeBody.f kj2 a0).bind fun bt120 => (if bt120.2 = 0 then ((octal_EscapeBody.f kj2 bt120.1).bind fun t122 => (if t122.toList = a0.toList then ((octal_Unescape.f (⟨#[112, 108, 97, 105, 110]⟩ : ByteArray)).bind fun bt123 => (if bt123.1.toList = ([112, 108, 97, 105, 110] : List UInt8) then (some (bt123.2 == 0)) else (some false))) else (some false))) else (if bt120.1.toList = ([] : List UInt8) then ((octal_Unescape.f (⟨#[112, 108, 97, 105, 110]⟩ : ByteArray)).bind fun bt125 => (if bt125.1.toList = ([112, 108, 97, 105, 110] : List UInt8) then (some (bt125.2 == 0)) else (some false))) else (some false)))) = some r := by rw [if_neg (show ¬ (false = true) by decide)] at H; exact H
        clear H
        have H := H1
        clear H1
        replace H := Option.bind_eq_some_iff.mp H
        obtain ⟨⟨t120, t121⟩, A110, H⟩ := H
        replace H : (if t121 = 0 then ((octal_EscapeBody.f kj2 t120).bind fun t122 => (if t122.toList = a0.toList then ((octal_Unescape.f (⟨#[112, 108, 97, 105, 110]⟩ : ByteArray)).bind fun bt123 => (if bt123.1.toList = ([112, 108, 97, 105, 110] : List UInt8) then (some (bt123.2 == 0)) else (some false))) else (some false))) else (if t120.toList = ([] : List UInt8) then ((octal_Unescape.f (⟨#[112, 108, 97, 105, 110]⟩ : ByteArray)).bind fun bt125 => (if bt125.1.toList = ([112, 108, 97, 105, 110] : List UInt8) then (some (bt125.2 == 0)) else (some false))) else (some false))) = some r := H
        have A11 := Aside0.mk A110
        clear A110
        by_cases c12 : t121 = 0
        · rw [if_pos c12] at H
          have c12b0 : (t121 == 0) = true := beq_iff_eq.mpr c12
          have c12b1 : (t121 != 0) = false := bne_eq_false_iff_eq.mpr c12
          clear c12
          replace H := Option.bind_eq_some_iff.mp H
          obtain ⟨t122, A130, H⟩ := H
          replace H : (if t122.toList = a0.toList then ((octal_Unescape.f (⟨#[112, 108, 97, 105, 110]⟩ : ByteArray)).bind fun bt123 => (if bt123.1.toList = ([112, 108, 97, 105, 110] : List UInt8) then (some (bt123.2 == 0)) else (some false))) else (some false)) = some r := H
          have A13 := Aside0.mk A130
          clear A130
          by_cases c14 : t122.toList = a0.toList
          · rw [if_pos c14] at H
            have c14b0 : (t122.toList == a0.toList) = true := beq_iff_eq.mpr c14
            have c14b1 : (t122.toList != a0.toList) = false := bne_eq_false_iff_eq.mpr c14
            clear c14
            replace H := Option.bind_eq_some_iff.mp H
            obtain ⟨⟨t123, t124⟩, A150, H⟩ := H
            replace H : (if t123.toList = ([112, 108, 97, 105, 110] : List UInt8) then (some (t124 == 0)) else (some false)) = some r := H
            have A15 := Aside0.mk A150
            clear A150
            by_cases c16 : t123.toList = ([112, 108, 97, 105, 110] : List UInt8)
            · rw [if_pos c16] at H
              have c16b0 : (t123.toList == ([112, 108, 97, 105, 110] : List UInt8)) = true := beq_iff_eq.mpr c16
              have c16b1 : (t123.toList != ([112, 108, 97, 105, 110] : List UInt8)) = false := bne_eq_false_iff_eq.mpr c16
              clear c16
              obtain rfl := Option.some.inj H
              go_wp2_with (first | ((with_reducible refine gate_callee (f := 16) rfl ?_); refine goesL_ (some 32) rfl rfl Tryd.func16 (by kernel_rfl) rfl #[.string a0] rfl (by (try simp only [List.map_toArray, List.map_cons, List.map_nil]); first | done | rfl | (simp only [List.length_drop, List.length_take]; rfl)) ?_; (with_reducible refine (octal_UnescapeBody.calls kj2 a0 t120 t121 _ A11.out).mono ?_); rintro e w17 ⟨rfl, hb⟩; refine ⟨_, rfl, ?_⟩; have n0_ := Aside0.mk (below_step (by repeat (first | (with_reducible first | exact HB.out | apply below_alloc | apply pw_below_drewN | apply below_drew1) | exact HB.out)) hb); clear HB; have HB := n0_; clear n0_; (try clear hb); (try clear hb2); (try clear hk); (try clear hi)) | (go_at_call 17; (with_reducible refine (octal_EscapeBody.calls kj2 t120 t122 _ (by exact Aside0.mk (Glb.below HG.out (by repeat (first | (with_reducible first | exact HB.out | apply below_alloc | apply pw_below_drewN | apply below_drew1) | exact HB.out)))) A13.out).mono ?_); rintro e w18 ⟨rfl, hb⟩; have n0_ := Aside0.mk (below_step (by repeat (first | (with_reducible first | exact HB.out | apply below_alloc | apply pw_below_drewN | apply below_drew1) | exact HB.out)) hb); clear HB; have HB := n0_; clear n0_; (try clear hb); (try clear hb2); (try clear hk); (try clear hi)) | ((with_reducible refine gate_callee (f := 14) rfl ?_); refine goesL_ (some 52) rfl rfl Tryd.func14 (by kernel_rfl) rfl #[.string (⟨#[112, 108, 97, 105, 110]⟩ : ByteArray)] rfl (by (try simp only [List.map_toArray, List.map_cons, List.map_nil]); first | done | rfl | (simp only [List.length_drop, List.length_take]; rfl)) ?_; (with_reducible refine (octal_Unescape.calls (⟨#[112, 108, 97, 105, 110]⟩ : ByteArray) t123 t124 _ A15.out).mono ?_); rintro e w19 ⟨rfl, hb⟩; refine ⟨_, rfl, ?_⟩; have n0_ := Aside0.mk (below_step (by repeat (first | (with_reducible first | exact HB.out | apply below_alloc | apply pw_below_drewN | apply below_drew1) | exact HB.out)) hb); clear HB; have HB := n0_; clear n0_; (try clear hb); (try clear hb2); (try clear hk); (try clear hi)))
              go_ret
              exact ⟨by first | rfl | (simp [errW_none, errW_some] <;> rfl) | (simp [*, errW_none, errW_some] <;> rfl), by repeat (first | (with_reducible first | exact HB.out | apply below_alloc | apply pw_below_drewN | apply below_drew1) | exact HB.out)⟩
            · rw [if_neg c16] at H
              have c16b0 : (t123.toList == ([112, 108, 97, 105, 110] : List UInt8)) = false := beq_eq_false_iff_ne.mpr c16
              have c16b1 : (t123.toList != ([112, 108, 97, 105, 110] : List UInt8)) = true := bne_iff_ne.mpr c16
              obtain rfl := Option.some.inj H
              go_wp2_with (first | ((with_reducible refine gate_callee (f := 16) rfl ?_); refine goesL_ (some 32) rfl rfl Tryd.func16 (by kernel_rfl) rfl #[.string a0] rfl (by (try simp only [List.map_toArray, List.map_cons, List.map_nil]); first | done | rfl | (simp only [List.length_drop, List.length_take]; rfl)) ?_; (with_reducible refine (octal_UnescapeBody.calls kj2 a0 t120 t121 _ A11.out).mono ?_); rintro e w20 ⟨rfl, hb⟩; refine ⟨_, rfl, ?_⟩; have n0_ := Aside0.mk (below_step (by repeat (first | (with_reducible first | exact HB.out | apply below_alloc | apply pw_below_drewN | apply below_drew1) | exact HB.out)) hb); clear HB; have HB := n0_; clear n0_; (try clear hb); (try clear hb2); (try clear hk); (try clear hi)) | (go_at_call 17; (with_reducible refine (octal_EscapeBody.calls kj2 t120 t122 _ (by exact Aside0.mk (Glb.below HG.out (by repeat (first | (with_reducible first | exact HB.out | apply below_alloc | apply pw_below_drewN | apply below_drew1) | exact HB.out)))) A13.out).mono ?_); rintro e w21 ⟨rfl, hb⟩; have n0_ := Aside0.mk (below_step (by repeat (first | (with_reducible first | exact HB.out | apply below_alloc | apply pw_below_drewN | apply below_drew1) | exact HB.out)) hb); clear HB; have HB := n0_; clear n0_; (try clear hb); (try clear hb2); (try clear hk); (try clear hi)) | ((with_reducible refine gate_callee (f := 14) rfl ?_); refine goesL_ (some 52) rfl rfl Tryd.func14 (by kernel_rfl) rfl #[.string (⟨#[112, 108, 97, 105, 110]⟩ : ByteArray)] rfl (by (try simp only [List.map_toArray, List.map_cons, List.map_nil]); first | done | rfl | (simp only [List.length_drop, List.length_take]; rfl)) ?_; (with_reducible refine (octal_Unescape.calls (⟨#[112, 108, 97, 105, 110]⟩ : ByteArray) t123 t124 _ A15.out).mono ?_); rintro e w22 ⟨rfl, hb⟩; refine ⟨_, rfl, ?_⟩; have n0_ := Aside0.mk (below_step (by repeat (first | (with_reducible first | exact HB.out | apply below_alloc | apply pw_below_drewN | apply below_drew1) | exact HB.out)) hb); clear HB; have HB := n0_; clear n0_; (try clear hb); (try clear hb2); (try clear hk); (try clear hi)))
              go_ret
              exact ⟨by first | rfl | (simp [errW_none, errW_some] <;> rfl) | (simp [*, errW_none, errW_some] <;> rfl), by repeat (first | (with_reducible first | exact HB.out | apply below_alloc | apply pw_below_drewN | apply below_drew1) | exact HB.out)⟩
          · rw [if_neg c14] at H
            have c14b0 : (t122.toList == a0.toList) = false := beq_eq_false_iff_ne.mpr c14
            have c14b1 : (t122.toList != a0.toList) = true := bne_iff_ne.mpr c14
            obtain rfl := Option.some.inj H
            go_wp2_with (first | ((with_reducible refine gate_callee (f := 16) rfl ?_); refine goesL_ (some 32) rfl rfl Tryd.func16 (by kernel_rfl) rfl #[.string a0] rfl (by (try simp only [List.map_toArray, List.map_cons, List.map_nil]); first | done | rfl | (simp only [List.length_drop, List.length_take]; rfl)) ?_; (with_reducible refine (octal_UnescapeBody.calls kj2 a0 t120 t121 _ A11.out).mono ?_); rintro e w23 ⟨rfl, hb⟩; refine ⟨_, rfl, ?_⟩; have n0_ := Aside0.mk (below_step (by repeat (first | (with_reducible first | exact HB.out | apply below_alloc | apply pw_below_drewN | apply below_drew1) | exact HB.out)) hb); clear HB; have HB := n0_; clear n0_; (try clear hb); (try clear hb2); (try clear hk); (try clear hi)) | (go_at_call 17; (with_reducible refine (octal_EscapeBody.calls kj2 t120 t122 _ (by exact Aside0.mk (Glb.below HG.out (by repeat (first | (with_reducible first | exact HB.out | apply below_alloc | apply pw_below_drewN | apply below_drew1) | exact HB.out)))) A13.out).mono ?_); rintro e w24 ⟨rfl, hb⟩; have n0_ := Aside0.mk (below_step (by repeat (first | (with_reducible first | exact HB.out | apply below_alloc | apply pw_below_drewN | apply below_drew1) | exact HB.out)) hb); clear HB; have HB := n0_; clear n0_; (try clear hb); (try clear hb2); (try clear hk); (try clear hi)))
            go_ret
            exact ⟨by first | rfl | (simp [errW_none, errW_some] <;> rfl) | (simp [*, errW_none, errW_some] <;> rfl), by repeat (first | (with_reducible first | exact HB.out | apply below_alloc | apply pw_below_drewN | apply below_drew1) | exact HB.out)⟩
        · rw [if_neg c12] at H
          have c12b0 : (t121 == 0) = false := beq_eq_false_iff_ne.mpr c12
          have c12b1 : (t121 != 0) = true := bne_iff_ne.mpr c12
          by_cases c25 : t120.toList = ([] : List UInt8)
          · rw [if_pos c25] at H
            have c25b0 : (t120.toList == ([] : List UInt8)) = true := beq_iff_eq.mpr c25
            have c25b1 : (t120.toList != ([] : List UInt8)) = false := bne_eq_false_iff_eq.mpr c25
            clear c25
            replace H := Option.bind_eq_some_iff.mp H
            obtain ⟨⟨t125, t126⟩, A260, H⟩ := H
            replace H : (if t125.toList = ([112, 108, 97, 105, 110] : List UInt8) then (some (t126 == 0)) else (some false)) = some r := H
            have A26 := Aside0.mk A260
            clear A260
            by_cases c27 : t125.toList = ([112, 108, 97, 105, 110] : List UInt8)
            · rw [if_pos c27] at H
              have c27b0 : (t125.toList == ([112, 108, 97, 105, 110] : List UInt8)) = true := beq_iff_eq.mpr c27
              have c27b1 : (t125.toList != ([112, 108, 97, 105, 110] : List UInt8)) = false := bne_eq_false_iff_eq.mpr c27
              clear c27
              obtain rfl := Option.some.inj H
              go_wp2_with (first | ((with_reducible refine gate_callee (f := 16) rfl ?_); refine goesL_ (some 32) rfl rfl Tryd.func16 (by kernel_rfl) rfl #[.string a0] rfl (by (try simp only [List.map_toArray, List.map_cons, List.map_nil]); first | done | rfl | (simp only [List.length_drop, List.length_take]; rfl)) ?_; (with_reducible refine (octal_UnescapeBody.calls kj2 a0 t120 t121 _ A11.out).mono ?_); rintro e w28 ⟨rfl, hb⟩; refine ⟨_, rfl, ?_⟩; have n0_ := Aside0.mk (below_step (by repeat (first | (with_reducible first | exact HB.out | apply below_alloc | apply pw_below_drewN | apply below_drew1) | exact HB.out)) hb); clear HB; have HB := n0_; clear n0_; (try clear hb); (try clear hb2); (try clear hk); (try clear hi)) | ((with_reducible refine gate_callee (f := 14) rfl ?_); refine goesL_ (some 52) rfl rfl Tryd.func14 (by kernel_rfl) rfl #[.string (⟨#[112, 108, 97, 105, 110]⟩ : ByteArray)] rfl (by (try simp only [List.map_toArray, List.map_cons, List.map_nil]); first | done | rfl | (simp only [List.length_drop, List.length_take]; rfl)) ?_; (with_reducible refine (octal_Unescape.calls (⟨#[112, 108, 97, 105, 110]⟩ : ByteArray) t125 t126 _ A26.out).mono ?_); rintro e w29 ⟨rfl, hb⟩; refine ⟨_, rfl, ?_⟩; have n0_ := Aside0.mk (below_step (by repeat (first | (with_reducible first | exact HB.out | apply below_alloc | apply pw_below_drewN | apply below_drew1) | exact HB.out)) hb); clear HB; have HB := n0_; clear n0_; (try clear hb); (try clear hb2); (try clear hk); (try clear hi)))
              go_ret
              exact ⟨by first | rfl | (simp [errW_none, errW_some] <;> rfl) | (simp [*, errW_none, errW_some] <;> rfl), by repeat (first | (with_reducible first | exact HB.out | apply below_alloc | apply pw_below_drewN | apply below_drew1) | exact HB.out)⟩
            · rw [if_neg c27] at H
              have c27b0 : (t125.toList == ([112, 108, 97, 105, 110] : List UInt8)) = false := beq_eq_false_iff_ne.mpr c27
              have c27b1 : (t125.toList != ([112, 108, 97, 105, 110] : List UInt8)) = true := bne_iff_ne.mpr c27
              obtain rfl := Option.some.inj H
              go_wp2_with (first | ((with_reducible refine gate_callee (f := 16) rfl ?_); refine goesL_ (some 32) rfl rfl Tryd.func16 (by kernel_rfl) rfl #[.string a0] rfl (by (try simp only [List.map_toArray, List.map_cons, List.map_nil]); first | done | rfl | (simp only [List.length_drop, List.length_take]; rfl)) ?_; (with_reducible refine (octal_UnescapeBody.calls kj2 a0 t120 t121 _ A11.out).mono ?_); rintro e w30 ⟨rfl, hb⟩; refine ⟨_, rfl, ?_⟩; have n0_ := Aside0.mk (below_step (by repeat (first | (with_reducible first | exact HB.out | apply below_alloc | apply pw_below_drewN | apply below_drew1) | exact HB.out)) hb); clear HB; have HB := n0_; clear n0_; (try clear hb); (try clear hb2); (try clear hk); (try clear hi)) | ((with_reducible refine gate_callee (f := 14) rfl ?_); refine goesL_ (some 52) rfl rfl Tryd.func14 (by kernel_rfl) rfl #[.string (⟨#[112, 108, 97, 105, 110]⟩ : ByteArray)] rfl (by (try simp only [List.map_toArray, List.map_cons, List.map_nil]); first | done | rfl | (simp only [List.length_drop, List.length_take]; rfl)) ?_; (with_reducible refine (octal_Unescape.calls (⟨#[112, 108, 97, 105, 110]⟩ : ByteArray) t125 t126 _ A26.out).mono ?_); rintro e w31 ⟨rfl, hb⟩; refine ⟨_, rfl, ?_⟩; have n0_ := Aside0.mk (below_step (by repeat (first | (with_reducible first | exact HB.out | apply below_alloc | apply pw_below_drewN | apply below_drew1) | exact HB.out)) hb); clear HB; have HB := n0_; clear n0_; (try clear hb); (try clear hb2); (try clear hk); (try clear hi)))
              go_ret
              exact ⟨by first | rfl | (simp [errW_none, errW_some] <;> rfl) | (simp [*, errW_none, errW_some] <;> rfl), by repeat (first | (with_reducible first | exact HB.out | apply below_alloc | apply pw_below_drewN | apply below_drew1) | exact HB.out)⟩
          · rw [if_neg c25] at H
            have c25b0 : (t120.toList == ([] : List UInt8)) = false := beq_eq_false_iff_ne.mpr c25
            have c25b1 : (t120.toList != ([] : List UInt8)) = true := bne_iff_ne.mpr c25
            obtain rfl := Option.some.inj H
            go_wp2_with (first | ((with_reducible refine gate_callee (f := 16) rfl ?_); refine goesL_ (some 32) rfl rfl Tryd.func16 (by kernel_rfl) rfl #[.string a0] rfl (by (try simp only [List.map_toArray, List.map_cons, List.map_nil]); first | done | rfl | (simp only [List.length_drop, List.length_take]; rfl)) ?_; (with_reducible refine (octal_UnescapeBody.calls kj2 a0 t120 t121 _ A11.out).mono ?_); rintro e w32 ⟨rfl, hb⟩; refine ⟨_, rfl, ?_⟩; have n0_ := Aside0.mk (below_step (by repeat (first | (with_reducible first | exact HB.out | apply below_alloc | apply pw_below_drewN | apply below_drew1) | exact HB.out)) hb); clear HB; have HB := n0_; clear n0_; (try clear hb); (try clear hb2); (try clear hk); (try clear hi)))
            go_ret
            exact ⟨by first | rfl | (simp [errW_none, errW_some] <;> rfl) | (simp [*, errW_none, errW_some] <;> rfl), by repeat (first | (with_reducible first | exact HB.out | apply below_alloc | apply pw_below_drewN | apply below_drew1) | exact HB.out)⟩

/-- THE ONE PURE STATEMENT of mullionlaw01_OctalForth: yours. -/
def mullionlaw01_OctalForth.Pure : Prop := ∀ (a0 : ByteArray), a0.size ≤ 140737488351232 → ∃ k, mullionlaw01_OctalForth.f k a0 = some true
theorem mullionlaw01_OctalForth.walk (P : mullionlaw01_OctalForth.Pure) (a0 : ByteArray) (w : World) (HG : Aside0 (Glb w)) (w0 : a0.size ≤ 140737488351232) :
    Calls Tryd.prog 4 #[.string a0] w fun e w' => e = .returned (.bool true) ∧ Below w.heap.size w w' := by
  obtain ⟨k, h⟩ := P a0 w0
  refine (mullionlaw01_OctalForth.calls k a0 true w HG h).mono ?_
  rintro e w' ⟨rfl, hd⟩
  exact ⟨rfl, hd⟩

end Go.Proofs.YtgbdeloefdhmlabDoor.Q
