/- Every Sum of the plan package equals the reference's Sum. No condition. -/
import Derived.Test.YtgbdeloefdhmlaaPPlanSumsx1
import Derived.Laws.BitsAllLaws
namespace Go.Proofs.Ytgbdeloefdhmlaa.Pure
open Go.RowKit Go.Proofs.Ytgbdeloefdhmlaa.PPlanSums Go.Proofs.YtgbdeloefdhmlaaW.PrintWords Go.Proofs.YtgbdeloefdhmlaaW.PrintLast

set_option linter.unusedVariables false
theorem or_turn (a b : Nat) (ha : a < 32768) : a ||| b * 32768 = a + b * 32768 := by
  have h := Nat.two_pow_add_eq_or_of_lt (i := 15) (b := a) (by omega) b
  rw [Nat.or_comm, Nat.mul_comm b 32768]
  have e : 2 ^ 15 = 32768 := by decide
  rw [e] at h
  omega

/-- one step of the sum, as the program does it -/
theorem step_own (n c : Int) (h0 : 0 ≤ n) (h1 : n ≤ 65535) (c0 : 0 ≤ c) (c1 : c ≤ 255) :
    IntKind.u16.wrap ((Go.bits .or .u16 (n / 2) (IntKind.u16.wrap (n * 32768))) + IntKind.u16.wrap c) = (n / 2 + n % 2 * 32768 + c) % 65536 := by
  rw [IntKind.wrap_u16, IntKind.wrap_u16, IntKind.wrap_u16]
  have e : n * 32768 % 65536 = n % 2 * 32768 := by omega
  rw [e]
  rw [u16_or _ _ (by omega) (by omega) (by omega) (by omega)]
  obtain ⟨m, rfl⟩ := Int.eq_ofNat_of_zero_le h0
  have e1 : ((m : Int) / 2).toNat = m / 2 := by omega
  have e2 : ((m : Int) % 2 * 32768).toNat = m % 2 * 32768 := by omega
  rw [e1, e2, or_turn _ _ (by omega)]
  omega

/-- one step of the sum, as the reference does it -/
theorem step_ref (n c : Int) (h0 : 0 ≤ n) (h1 : n ≤ 65535) (c0 : 0 ≤ c) (c1 : c ≤ 255) :
    Int.tmod (wrap64 ((wrap64 ((wrap64 (Int.tdiv n 2)) + (wrap64 (32768 * (Int.tmod n 2))))) + (wrap64 c))) 65536 = (n / 2 + n % 2 * 32768 + c) % 65536 := by
  rw [Int.tdiv_eq_ediv_of_nonneg h0, Int.tmod_eq_emod_of_nonneg h0]
  have w1 : wrap64 (n / 2) = n / 2 := by unfold wrap64; omega
  have w2 : wrap64 (32768 * (n % 2)) = 32768 * (n % 2) := by unfold wrap64; omega
  have w3 : wrap64 c = c := by unfold wrap64; omega
  rw [w1, w2, w3]
  have w4 : wrap64 (n / 2 + 32768 * (n % 2)) = n / 2 + 32768 * (n % 2) := by unfold wrap64; omega
  rw [w4]
  have w5 : wrap64 (n / 2 + 32768 * (n % 2) + c) = n / 2 + 32768 * (n % 2) + c := by unfold wrap64; omega
  rw [w5, Int.tmod_eq_emod_of_nonneg (by omega)]
  omega

theorem both (s : ByteArray) (hn : s.size ≤ 140737488351232) (d : Nat) : ∀ (k : Nat) (n i : Int), 0 ≤ i → i ≤ s.size → (s.size : Int) - i = d → d < k → 0 ≤ n → n ≤ 65535 →
    ∃ r, plan_Sum.l0 k s n i = some r ∧ mullionref05_Sum.l0 k s n i = some r := by
  induction d with
  | zero =>
    intro k n i h0 h1 hd hk n0 n1
    obtain ⟨k, rfl⟩ : ∃ m, k = m + 1 := ⟨k - 1, by omega⟩
    refine ⟨n, ?_, ?_⟩
    · simp only [plan_Sum.l0]; rw [if_neg (by omega)]; congr 1; unfold wrap64; omega
    · simp only [mullionref05_Sum.l0]; rw [if_neg (by omega)]
  | succ d ih =>
    intro k n i h0 h1 hd hk n0 n1
    obtain ⟨k, rfl⟩ : ∃ m, k = m + 1 := ⟨k - 1, by omega⟩
    have hlt : i < (s.size : Int) := by omega
    obtain ⟨b0, b1⟩ := bt_range s i
    have wi : wrap64 (i + 1) = i + 1 := by unfold wrap64; omega
    obtain ⟨r, e1, e2⟩ := ih k ((n / 2 + n % 2 * 32768 + bt s i) % 65536) (i + 1) (by omega) (by omega) (by omega) (by omega) (by omega) (by omega)
    refine ⟨r, ?_, ?_⟩
    · simp only [plan_Sum.l0]; rw [if_pos hlt, if_pos h0, wi, step_own n _ n0 n1 b0 b1]; exact e1
    · simp only [mullionref05_Sum.l0]; rw [if_pos hlt, if_pos h0, wi, step_ref n _ n0 n1 b0 b1]; exact e2

theorem ab : plan_Sum.f 3 (⟨#[97, 98]⟩ : ByteArray) = some 32914 := by decide +kernel

theorem PlanSums : mullionlaw05_PlanSums.Pure := by
  intro s hn
  obtain ⟨r, e1, e2⟩ := both s hn s.size (s.size + 3) 0 0 (by omega) (by omega) (by omega) (by omega) (by omega) (by omega)
  refine ⟨s.size + 3, ?_⟩
  have h1 : plan_Sum.f (s.size + 3) s = some r := e1
  have h2 : mullionref05_Sum.f (s.size + 3) s = some r := e2
  have h3 : plan_Sum.f (s.size + 3) (⟨#[97, 98]⟩ : ByteArray) = some 32914 := at_rounds (plan_Sum.mono _) (by omega) ab
  unfold mullionlaw05_PlanSums.f
  rw [h1, h2]
  simp only [Option.bind_some, if_true]
  rw [h3]
  rfl

end Go.Proofs.Ytgbdeloefdhmlaa.Pure
