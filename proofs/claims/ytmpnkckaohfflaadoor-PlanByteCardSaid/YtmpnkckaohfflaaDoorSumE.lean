/- What the printed Sum comes to. Condition: enough rounds. -/
import Derived.Test.YtmpnkckaohfflaaDoorEE2
import Derived.Test.YtmpnkckaohfflaaDoorSumPlain
import Derived.Laws.BitsAllLaws
namespace Go.Proofs.YtmpnkckaohfflaaDoor.Sm
open Go.RowKit Go.Proofs.YtmpnkckaohfflaaDoor.E Go.Proofs.YtmpnkckaohfflaaDoor.Txt Go.Proofs.YtmpnkckaohfflaaDoorW.PrintWords Go.Proofs.YtmpnkckaohfflaaDoorW.PrintLast
set_option linter.unusedVariables false

theorem or_turn (a b : Nat) (ha : a < 32768) : a ||| b * 32768 = a + b * 32768 := by
  have h := Nat.two_pow_add_eq_or_of_lt (i := 15) (b := a) (by omega) b
  rw [Nat.or_comm, Nat.mul_comm b 32768]
  have e : 2 ^ 15 = 32768 := by decide
  rw [e] at h
  omega
theorem step_own (n c : Int) (h0 : 0 ≤ n) (h1 : n ≤ 65535) (c0 : 0 ≤ c) (c1 : c ≤ 255) :
    IntKind.u16.wrap ((Go.bits .or .u16 (n / 2) (IntKind.u16.wrap (n * 32768))) + IntKind.u16.wrap c) = step n c := by
  unfold step
  rw [IntKind.wrap_u16, IntKind.wrap_u16, IntKind.wrap_u16]
  have e : n * 32768 % 65536 = n % 2 * 32768 := by omega
  rw [e]
  rw [u16_or _ _ (by omega) (by omega) (by omega) (by omega)]
  obtain ⟨m, rfl⟩ := Int.eq_ofNat_of_zero_le h0
  have e1 : ((m : Int) / 2).toNat = m / 2 := by omega
  have e2 : ((m : Int) % 2 * 32768).toNat = m % 2 * 32768 := by omega
  rw [e1, e2, or_turn _ _ (by omega)]
  omega
theorem sumLoop (suf : List UInt8) : ∀ (pre : List UInt8) (k : Nat) (n i : Int), i = pre.length → 0 ≤ n → n ≤ 65535 → (pre ++ suf).length ≤ 9223372036854775806 → suf.length < k →
    plan_Sum.l0 k (S (pre ++ suf)) n i = some (sumFrom n suf) := by
  induction suf with
  | nil =>
    intro pre k n i hi n0 n1 hl hk
    obtain ⟨k, rfl⟩ : ∃ m, k = m + 1 := ⟨k - 1, by simp at hk; omega⟩
    simp only [plan_Sum.l0]
    rw [if_neg (by rw [S_size]; simp; omega)]
    congr 1
    unfold wrap64
    show _ = n
    omega
  | cons c suf ih =>
    intro pre k n i hi n0 n1 hl hk
    obtain ⟨k, rfl⟩ : ∃ m, k = m + 1 := ⟨k - 1, by simp at hk; omega⟩
    have hlen : pre.length + (suf.length + 1) ≤ 9223372036854775806 := by simpa using hl
    have e : pre ++ c :: suf = (pre ++ [c]) ++ suf := by simp
    have wi : wrap64 (i + 1) = i + 1 := by unfold wrap64; omega
    have hc : c.toNat < 256 := c.toNat_lt
    have h := ih (pre ++ [c]) k (step n (c.toNat : Int)) (i + 1) (by rw [hi]; simp) (step_range _ _).1 (step_range _ _).2 (by rw [← e]; exact hl) (by simp at hk; omega)
    simp only [plan_Sum.l0]
    rw [if_pos (by rw [S_size]; simp; omega), if_pos (by omega), bt_mid _ _ _ _ hi, wi, step_own n _ n0 n1 (by omega) (by omega), sumFrom_cons, e]
    exact h
theorem sum_f (l : List UInt8) (k : Nat) (hl : l.length ≤ 9223372036854775806) (hk : l.length < k) : plan_Sum.f k (S l) = some (sum l) :=
  sumLoop l [] k 0 0 rfl (by omega) (by omega) hl hk
/-- Sum, called: the form that the walks take. -/
theorem sum_calls (l : List UInt8) (w : World) (hl : l.length ≤ 9223372036854775806) :
    Calls Tryd.prog 25 #[.string (S l)] w fun e w' => e = .returned (.int .i64 (sum l)) ∧ Drawn0 w w' :=
  plan_Sum.calls _ (S l) (sum l) w (sum_f l (l.length + 1) hl (by omega))

end Go.Proofs.YtmpnkckaohfflaaDoor.Sm
