/- Plain facts on the escape of bytes: what the program's Escape computes, as a function on lists. No condition. -/
import Derived.Lib.Strings
import Derived.Laws.BitsAllLaws
import Derived.Below
namespace Go.Proofs.YtgbdeloefdhmlabDoor.Oct
set_option linter.unusedVariables false

def must (c : UInt8) : Bool := decide (c.toNat < 32) || c.toNat == 92
def three (c : UInt8) : List UInt8 := [92, 48 + c / 64, 48 + c / 8 % 8, 48 + c % 8]
def esc1 (c : UInt8) : List UInt8 := if must c then three c else [c]
def escape (l : List UInt8) : List UInt8 := l.flatMap esc1

theorem escape_nil : escape [] = [] := rfl
theorem escape_cons (c : UInt8) (l : List UInt8) : escape (c :: l) = esc1 c ++ escape l := by simp [escape]
theorem escape_append (a b : List UInt8) : escape (a ++ b) = escape a ++ escape b := by simp [escape]
theorem esc1_len (c : UInt8) : 1 ≤ (esc1 c).length ∧ (esc1 c).length ≤ 4 := by
  unfold esc1 three
  split <;> simp
theorem escape_len (l : List UInt8) : l.length ≤ (escape l).length ∧ (escape l).length ≤ 4 * l.length := by
  induction l with
  | nil => simp [escape]
  | cons c l ih =>
    rw [escape_cons, List.length_append, List.length_cons]
    have := esc1_len c
    omega

theorem dig_hi (c : UInt8) : ((48 + c / 64 : UInt8).toNat : Int) = 48 + (c.toNat : Int) / 64 := by
  have h : c.toNat < 256 := c.toNat_lt
  rw [UInt8.toNat_add, UInt8.toNat_div]
  have e1 : (48 : UInt8).toNat = 48 := rfl
  have e2 : (64 : UInt8).toNat = 64 := rfl
  rw [e1, e2]
  omega
theorem dig_mid (c : UInt8) : ((48 + c / 8 % 8 : UInt8).toNat : Int) = 48 + (c.toNat : Int) / 8 % 8 := by
  have h : c.toNat < 256 := c.toNat_lt
  rw [UInt8.toNat_add, UInt8.toNat_mod, UInt8.toNat_div]
  have e1 : (48 : UInt8).toNat = 48 := rfl
  have e2 : (8 : UInt8).toNat = 8 := rfl
  rw [e1, e2]
  omega
theorem dig_lo (c : UInt8) : ((48 + c % 8 : UInt8).toNat : Int) = 48 + (c.toNat : Int) % 8 := by
  have h : c.toNat < 256 := c.toNat_lt
  rw [UInt8.toNat_add, UInt8.toNat_mod]
  have e1 : (48 : UInt8).toNat = 48 := rfl
  have e2 : (8 : UInt8).toNat = 8 := rfl
  rw [e1, e2]
  omega

/-- the low three bits -/
theorem and7 (n : Int) (h0 : 0 ≤ n) (h1 : n ≤ 255) : Go.bits .and .u8 n 7 = n % 8 := by
  rw [u8_and n 7 h0 (by omega) (by omega) (by omega)]
  obtain ⟨m, rfl⟩ := Int.eq_ofNat_of_zero_le h0
  have e1 : ((m : Int)).toNat = m := by omega
  have e2 : ((7 : Int)).toNat = 2 ^ 3 - 1 := by decide
  rw [e1, e2, Nat.and_two_pow_sub_one_eq_mod]
  have e3 : 2 ^ 3 = 8 := by decide
  rw [e3]
  omega

end Go.Proofs.YtgbdeloefdhmlabDoor.Oct
