/- Numerals: what is written of a number is read back. Plain facts, no program. Condition: each theorem's own. -/
import Derived.Test.YtmpnkckaohfflaaDoorGivNum
import Derived.Lib.ItoaMem
namespace Go.Proofs.YtmpnkckaohfflaaDoor.Num
open Go.Lib
set_option linter.unusedVariables false

theorem dec_big (u : Nat) (h : ¬ u < 10) : decDigits u = decDigits (u / 10) ++ [UInt8.ofNat (48 + u % 10)] := by
  rw [decDigits, dif_neg h]
theorem byte_nat (d : Nat) (h : d < 10) : (UInt8.ofNat (48 + d)).toNat = 48 + d := by
  rw [UInt8.toNat_ofNat']
  omega
theorem dec_digit (u : Nat) : ∀ c ∈ decDigits u, 48 ≤ c.toNat ∧ c.toNat ≤ 57 := by
  induction u using Nat.strongRecOn with
  | _ u ih =>
    intro c hc
    by_cases h : u < 10
    · rw [decDigits_one h, List.mem_singleton] at hc
      subst hc
      rw [byte_nat u h]
      omega
    · rw [dec_big u h, List.mem_append, List.mem_singleton] at hc
      rcases hc with hc | rfl
      · exact ih (u / 10) (by omega) c hc
      · rw [byte_nat _ (by omega)]
        omega
theorem dec_ne (u : Nat) : decDigits u ≠ [] := by
  by_cases h : u < 10
  · rw [decDigits_one h]
    simp
  · rw [dec_big u h]
    simp
theorem dec_len (d : Nat) : ∀ u, u < 10 ^ (d + 1) → (decDigits u).length ≤ d + 1 := by
  induction d with
  | zero =>
    intro u h
    rw [decDigits_one (by omega)]
    simp
  | succ d ih =>
    intro u h
    by_cases h1 : u < 10
    · rw [decDigits_one h1]
      simp
    · rw [dec_big u h1, List.length_append, List.length_singleton]
      have h2 : u / 10 < 10 ^ (d + 1) := by
        rw [Nat.pow_succ] at h
        omega
      have := ih _ h2
      omega

/-- what digits are worth -/
def val : Nat → List UInt8 → Nat
  | a, [] => a
  | a, c :: r => val (10 * a + (c.toNat - 48)) r
theorem val_append (l m : List UInt8) : ∀ a, val a (l ++ m) = val (val a l) m := by
  induction l with
  | nil => intro a; rfl
  | cons c r ih => intro a; exact ih _
theorem val_ge (l : List UInt8) : ∀ a, a ≤ val a l := by
  induction l with
  | nil => intro a; exact Nat.le_refl a
  | cons c r ih =>
    intro a
    have := ih (10 * a + (c.toNat - 48))
    show a ≤ val (10 * a + (c.toNat - 48)) r
    omega
theorem val_dec (u : Nat) : val 0 (decDigits u) = u := by
  induction u using Nat.strongRecOn with
  | _ u ih =>
    by_cases h : u < 10
    · rw [decDigits_one h]
      show 10 * 0 + ((UInt8.ofNat (48 + u)).toNat - 48) = u
      rw [byte_nat u h]
      omega
    · rw [dec_big u h, val_append, ih (u / 10) (by omega)]
      show 10 * (u / 10) + ((UInt8.ofNat (48 + u % 10)).toNat - 48) = u
      rw [byte_nat _ (by omega)]
      omega
theorem dec_inj {u v : Nat} (h : decDigits u = decDigits v) : u = v := by
  rw [← val_dec u, h, val_dec]
/-- the first digit of a number that is not 0 is not 0 -/
theorem dec_head (u : Nat) (h0 : u ≠ 0) : ∃ c r, decDigits u = c :: r ∧ c.toNat ≠ 48 := by
  induction u using Nat.strongRecOn with
  | _ u ih =>
    by_cases h : u < 10
    · refine ⟨_, _, decDigits_one h, ?_⟩
      rw [byte_nat u h]
      omega
    · obtain ⟨c, r, e, hc⟩ := ih (u / 10) (by omega) (by omega)
      refine ⟨c, r ++ [UInt8.ofNat (48 + u % 10)], ?_, hc⟩
      rw [dec_big u h, e]
      rfl

theorem parse_val (l : List UInt8) : ∀ a, (∀ c ∈ l, 48 ≤ c.toNat ∧ c.toNat ≤ 57) → val a l < 18446744073709551616 → parseUint10 a l = .ok (val a l) := by
  induction l with
  | nil => intro a _ _; rfl
  | cons c r ih =>
    intro a hd hv
    have hc := hd c (List.mem_cons_self)
    have hv' : val (10 * a + (c.toNat - 48)) r < 18446744073709551616 := hv
    have hg := val_ge r (10 * a + (c.toNat - 48))
    unfold parseUint10
    rw [if_pos hc, if_neg (by omega), if_neg (by omega)]
    have e : a * 10 + (c.toNat - 48) = 10 * a + (c.toNat - 48) := by omega
    rw [e]
    exact ih _ (fun d hm => hd d (List.mem_cons_of_mem _ hm)) hv'
theorem atoiAll_dec (u : Nat) (h : u ≤ 4611686018427387904) : atoiAll (decDigits u) = .ok (u : Int) := by
  have hd := dec_digit u
  have hp := parse_val (decDigits u) 0 hd (by rw [val_dec]; omega)
  rw [val_dec] at hp
  cases e : decDigits u with
  | nil => exact absurd e (dec_ne u)
  | cons c r =>
    rw [e] at hd hp
    have hc := hd c (List.mem_cons_self)
    rw [atoiAll_plain c r (by omega) (by omega)]
    unfold parseMag
    rw [if_neg (by simp), hp]
    unfold signless
    simp only
    first
    | rw [if_neg (by omega)]
    | (simp; omega)
theorem putNum_nat (u : Nat) (h : u ≤ 4611686018427387904) : putNum (u : Int) = decDigits u := by
  rw [putNum_in _ (by omega) (by omega), itoa_nonneg]
theorem putNum_cases (n : Int) : ((n < 0 ∨ 4611686018427387904 < n) ∧ putNum n = []) ∨ ∃ u : Nat, n = u ∧ u ≤ 4611686018427387904 ∧ putNum n = decDigits u := by
  by_cases h : n < 0 ∨ 4611686018427387904 < n
  · exact .inl ⟨h, putNum_out n h⟩
  · obtain ⟨u, rfl⟩ := Int.eq_ofNat_of_zero_le (show 0 ≤ n by omega)
    exact .inr ⟨u, rfl, by omega, putNum_nat u (by omega)⟩
theorem numOf_dec (u : Nat) (h : u ≤ 4611686018427387904) : numOf (decDigits u) = ((u : Int), true) := by
  rw [numOf_ok (atoiAll_dec u h), if_neg (by omega), putNum_nat u h, if_pos rfl]
theorem numOf_nil : numOf [] = (0, false) := numOf_bad (fun v h => by cases h)
theorem numOf_not (l : List UInt8) (h : ∀ u : Nat, u ≤ 4611686018427387904 → l ≠ decDigits u) : numOf l = (0, false) := by
  cases e : atoiAll l with
  | ok v =>
    rw [numOf_ok e]
    by_cases hv : v < 0
    · rw [if_pos hv]
    · rw [if_neg hv]
      by_cases hp : l = putNum v
      · rcases putNum_cases v with ⟨_, p⟩ | ⟨u, _, hu, p⟩
        · rw [hp, p] at e
          cases e
        · exact absurd (hp.trans p) (h u hu)
      · rw [if_neg hp]
  | _ => exact numOf_bad (fun v h => by rw [e] at h; cases h)
/-- what Number reads, of any text: a numeral within the bounds, or nothing -/
theorem numOf_cases (l : List UInt8) : (∃ u : Nat, u ≤ 4611686018427387904 ∧ l = decDigits u ∧ numOf l = ((u : Int), true)) ∨ numOf l = (0, false) := by
  by_cases h : ∃ u : Nat, u ≤ 4611686018427387904 ∧ l = decDigits u
  · obtain ⟨u, hu, rfl⟩ := h
    exact .inl ⟨u, hu, rfl, numOf_dec u hu⟩
  · refine .inr (numOf_not l fun u hu e => h ⟨u, hu, e⟩)
theorem numOf_put (n : Int) : numOf (putNum n) = if n < 0 ∨ 4611686018427387904 < n then (0, false) else (n, true) := by
  rcases putNum_cases n with ⟨h, p⟩ | ⟨u, rfl, hu, p⟩
  · rw [p, if_pos h, numOf_nil]
  · rw [p, if_neg (by omega), numOf_dec u hu]
end Go.Proofs.YtmpnkckaohfflaaDoor.Num
