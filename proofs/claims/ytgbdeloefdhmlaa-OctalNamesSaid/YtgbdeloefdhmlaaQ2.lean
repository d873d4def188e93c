/- The machine side of functions of this seat, written by a program for this claim. Conditions: as each theorem says. -/
import Derived.Test.YtgbdeloefdhmlaaQ0
import Derived.Test.YtgbdeloefdhmlaaQ1
namespace Go.Proofs.Ytgbdeloefdhmlaa.Q
open Go.RowKit Go.Proofs.YtgbdeloefdhmlaaW.PrintWords Go.Proofs.YtgbdeloefdhmlaaW.PrintLast Go.Proofs.YtgbdeloefdhmlaaW.PrintMore
attribute [local go_sem] max2_int min2_int max_two min_two max_three min_three max_four min_four   -- for this text's walks alone
set_option linter.unusedVariables false
set_option linter.unusedSimpArgs false

/-! ### mullionlaw01_OctalNames: function 8 -/
def mullionlaw01_OctalNames.f (k : Nat) (a0 : ByteArray) : Option (Bool) := (octal_IsName.f k a0).bind fun t107 => ((mullionref01_IsName.f k a0).bind fun t108 => (if (t107 == t108) = true then ((octal_IsWord.f k a0).bind fun t109 => ((mullionref01_IsWord.f k a0).bind fun t110 => (if (t109 == t110) = true then ((octal_IsWord.f k (⟨#[119, 111, 114, 107]⟩ : ByteArray)).bind fun t111 => (some t111)) else (some false)))) else (some false)))
theorem mullionlaw01_OctalNames.mono : ∀ a0 k, LeO (mullionlaw01_OctalNames.f k a0) (mullionlaw01_OctalNames.f (k + 1) a0) := by
  intro a0 k
  unfold mullionlaw01_OctalNames.f
  repeat' first
      | (with_reducible exact mullionref01_IsName.mono _ _)
      | (with_reducible exact mullionref01_IsWord.mono _ _)
      | (with_reducible exact octal_IsName.mono _ _)
      | (with_reducible exact octal_IsWord.mono _ _)
      | (with_reducible exact LeO.refl _)
      | (with_reducible exact LeO.none _)
      | (with_reducible refine LeO.ite ?_ ?_)
      | (with_reducible refine LeO.bind ?_ (fun _ => ?_))
      | exact mullionref01_IsName.mono _ _
      | exact mullionref01_IsWord.mono _ _
      | exact octal_IsName.mono _ _
      | exact octal_IsWord.mono _ _
      | exact LeO.none _
      | refine LeO.ite ?_ ?_
      | refine LeO.bind ?_ (fun _ => ?_)
set_option maxHeartbeats 8000000 in
set_option maxRecDepth 100000 in
theorem mullionlaw01_OctalNames.calls (k : Nat) (a0 : ByteArray) (r : Bool) (w : World) (h : mullionlaw01_OctalNames.f k a0 = some r) :
    Calls Try.prog 8 #[.string a0] w fun e w' => e = .returned (.bool r) ∧ Drawn0 w w' := by
  have H : ((octal_IsName.f k a0).bind fun t107 => ((mullionref01_IsName.f k a0).bind fun t108 => (if (t107 == t108) = true then ((octal_IsWord.f k a0).bind fun t109 => ((mullionref01_IsWord.f k a0).bind fun t110 => (if (t109 == t110) = true then ((octal_IsWord.f k (⟨#[119, 111, 114, 107]⟩ : ByteArray)).bind fun t111 => (some t111)) else (some false)))) else (some false)))) = some r := h
  clear h
  replace H := Option.bind_eq_some_iff.mp H
  obtain ⟨t107, A20, H⟩ := H
  replace H : ((mullionref01_IsName.f k a0).bind fun t108 => (if (t107 == t108) = true then ((octal_IsWord.f k a0).bind fun t109 => ((mullionref01_IsWord.f k a0).bind fun t110 => (if (t109 == t110) = true then ((octal_IsWord.f k (⟨#[119, 111, 114, 107]⟩ : ByteArray)).bind fun t111 => (some t111)) else (some false)))) else (some false))) = some r := H
  have A2 := Aside0.mk A20
  clear A20
  replace H := Option.bind_eq_some_iff.mp H
  obtain ⟨t108, A30, H⟩ := H
  replace H : (if (t107 == t108) = true then ((octal_IsWord.f k a0).bind fun t109 => ((mullionref01_IsWord.f k a0).bind fun t110 => (if (t109 == t110) = true then ((octal_IsWord.f k (⟨#[119, 111, 114, 107]⟩ : ByteArray)).bind fun t111 => (some t111)) else (some false)))) else (some false)) = some r := H
  have A3 := Aside0.mk A30
  clear A30
  by_cases c4 : (t107 == t108) = true
  · rw [if_pos c4] at H
    have c4b0 : (t107 == t108) = true := c4
    (try (have c4b1 : decide (t107 = t108) = true := by simpa using c4))
    (try (have c4b2 : (t107 == t108) = true := by simpa using c4))
    clear c4
    replace H := Option.bind_eq_some_iff.mp H
    obtain ⟨t109, A50, H⟩ := H
    replace H : ((mullionref01_IsWord.f k a0).bind fun t110 => (if (t109 == t110) = true then ((octal_IsWord.f k (⟨#[119, 111, 114, 107]⟩ : ByteArray)).bind fun t111 => (some t111)) else (some false))) = some r := H
    have A5 := Aside0.mk A50
    clear A50
    replace H := Option.bind_eq_some_iff.mp H
    obtain ⟨t110, A60, H⟩ := H
    replace H : (if (t109 == t110) = true then ((octal_IsWord.f k (⟨#[119, 111, 114, 107]⟩ : ByteArray)).bind fun t111 => (some t111)) else (some false)) = some r := H
    have A6 := Aside0.mk A60
    clear A60
    by_cases c7 : (t109 == t110) = true
    · rw [if_pos c7] at H
      have c7b0 : (t109 == t110) = true := c7
      (try (have c7b1 : decide (t109 = t110) = true := by simpa using c7))
      (try (have c7b2 : (t109 == t110) = true := by simpa using c7))
      clear c7
      replace H := Option.bind_eq_some_iff.mp H
      obtain ⟨t111, A80, H⟩ := H
      replace H : (some t111) = some r := H
      have A8 := Aside0.mk A80
      clear A80
      obtain rfl := Option.some.inj H
      go_enter Try.func8, Try.ntmps8
      go_wp2_with (first | ((with_reducible refine gate_callee (f := 11) rfl ?_); refine goesL_ (some 4) rfl rfl Try.func11 (by kernel_rfl) rfl #[.string a0] rfl (by (try simp only [List.map_toArray, List.map_cons, List.map_nil]); first | done | rfl | (simp only [List.length_drop, List.length_take]; rfl)) ?_; (with_reducible refine (octal_IsName.calls k a0 t107 _ A2.out).mono ?_); rintro e w' ⟨rfl, ⟨nd, rfl⟩⟩; refine ⟨_, rfl, ?_⟩) | ((with_reducible refine gate_callee (f := 12) rfl ?_); refine goesL_ (some 6) rfl rfl Try.func12 (by kernel_rfl) rfl #[.string a0] rfl (by (try simp only [List.map_toArray, List.map_cons, List.map_nil]); first | done | rfl | (simp only [List.length_drop, List.length_take]; rfl)) ?_; (with_reducible refine (mullionref01_IsName.calls k a0 t108 _ A3.out).mono ?_); rintro e w' ⟨rfl, ⟨nd, rfl⟩⟩; refine ⟨_, rfl, ?_⟩) | (go_at_call 13; (with_reducible refine (octal_IsWord.calls k a0 t109 _ A5.out).mono ?_); rintro e w' ⟨rfl, ⟨nd, rfl⟩⟩) | (go_at_call 14; (with_reducible refine (mullionref01_IsWord.calls k a0 t110 _ A6.out).mono ?_); rintro e w' ⟨rfl, ⟨nd, rfl⟩⟩) | (go_at_call 13; (with_reducible refine (octal_IsWord.calls k (⟨#[119, 111, 114, 107]⟩ : ByteArray) t111 _ A8.out).mono ?_); rintro e w' ⟨rfl, ⟨nd, rfl⟩⟩))
      go_ret
      exact ⟨by first | rfl | (simp; done) | (simp [*]; done), by repeat (first | exact Drawn0.refl _ | apply Drawn0.step)⟩
    · rw [if_neg c7] at H
      have c7b0 : (t109 == t110) = false := by simpa using c7
      (try (have c7b1 : decide (t109 = t110) = false := by simpa using c7))
      (try (have c7b2 : (t109 == t110) = false := by simpa using c7))
      (try (have c7b3 : ¬ (t109 = t110) := by simpa using c7))
      clear c7
      obtain rfl := Option.some.inj H
      go_enter Try.func8, Try.ntmps8
      go_wp2_with (first | ((with_reducible refine gate_callee (f := 11) rfl ?_); refine goesL_ (some 4) rfl rfl Try.func11 (by kernel_rfl) rfl #[.string a0] rfl (by (try simp only [List.map_toArray, List.map_cons, List.map_nil]); first | done | rfl | (simp only [List.length_drop, List.length_take]; rfl)) ?_; (with_reducible refine (octal_IsName.calls k a0 t107 _ A2.out).mono ?_); rintro e w' ⟨rfl, ⟨nd, rfl⟩⟩; refine ⟨_, rfl, ?_⟩) | ((with_reducible refine gate_callee (f := 12) rfl ?_); refine goesL_ (some 6) rfl rfl Try.func12 (by kernel_rfl) rfl #[.string a0] rfl (by (try simp only [List.map_toArray, List.map_cons, List.map_nil]); first | done | rfl | (simp only [List.length_drop, List.length_take]; rfl)) ?_; (with_reducible refine (mullionref01_IsName.calls k a0 t108 _ A3.out).mono ?_); rintro e w' ⟨rfl, ⟨nd, rfl⟩⟩; refine ⟨_, rfl, ?_⟩) | (go_at_call 13; (with_reducible refine (octal_IsWord.calls k a0 t109 _ A5.out).mono ?_); rintro e w' ⟨rfl, ⟨nd, rfl⟩⟩) | (go_at_call 14; (with_reducible refine (mullionref01_IsWord.calls k a0 t110 _ A6.out).mono ?_); rintro e w' ⟨rfl, ⟨nd, rfl⟩⟩))
      go_ret
      exact ⟨by first | rfl | (simp; done) | (simp [*]; done), by repeat (first | exact Drawn0.refl _ | apply Drawn0.step)⟩
  · rw [if_neg c4] at H
    have c4b0 : (t107 == t108) = false := by simpa using c4
    (try (have c4b1 : decide (t107 = t108) = false := by simpa using c4))
    (try (have c4b2 : (t107 == t108) = false := by simpa using c4))
    (try (have c4b3 : ¬ (t107 = t108) := by simpa using c4))
    clear c4
    obtain rfl := Option.some.inj H
    go_enter Try.func8, Try.ntmps8
    go_wp2_with (first | ((with_reducible refine gate_callee (f := 11) rfl ?_); refine goesL_ (some 4) rfl rfl Try.func11 (by kernel_rfl) rfl #[.string a0] rfl (by (try simp only [List.map_toArray, List.map_cons, List.map_nil]); first | done | rfl | (simp only [List.length_drop, List.length_take]; rfl)) ?_; (with_reducible refine (octal_IsName.calls k a0 t107 _ A2.out).mono ?_); rintro e w' ⟨rfl, ⟨nd, rfl⟩⟩; refine ⟨_, rfl, ?_⟩) | ((with_reducible refine gate_callee (f := 12) rfl ?_); refine goesL_ (some 6) rfl rfl Try.func12 (by kernel_rfl) rfl #[.string a0] rfl (by (try simp only [List.map_toArray, List.map_cons, List.map_nil]); first | done | rfl | (simp only [List.length_drop, List.length_take]; rfl)) ?_; (with_reducible refine (mullionref01_IsName.calls k a0 t108 _ A3.out).mono ?_); rintro e w' ⟨rfl, ⟨nd, rfl⟩⟩; refine ⟨_, rfl, ?_⟩))
    go_ret
    exact ⟨by first | rfl | (simp; done) | (simp [*]; done), by repeat (first | exact Drawn0.refl _ | apply Drawn0.step)⟩

/-- THE ONE PURE STATEMENT of mullionlaw01_OctalNames: yours. -/
def mullionlaw01_OctalNames.Pure : Prop := ∀ (a0 : ByteArray), a0.size ≤ 140737488351232 → ∃ k, mullionlaw01_OctalNames.f k a0 = some true
theorem mullionlaw01_OctalNames.walk (P : mullionlaw01_OctalNames.Pure) (a0 : ByteArray) (w : World) (w0 : a0.size ≤ 140737488351232) :
    Calls Try.prog 8 #[.string a0] w fun e w' => e = .returned (.bool true) ∧ Below w.heap.size w w' := by
  obtain ⟨k, h⟩ := P a0 w0
  refine (mullionlaw01_OctalNames.calls k a0 true w h).mono ?_
  rintro e w' ⟨rfl, hd⟩
  exact ⟨rfl, hd.below⟩

end Go.Proofs.Ytgbdeloefdhmlaa.Q
