/- The sum of a text, as a function on lists: one byte turned gives another sum. No condition. -/
import Derived.Test.YtmpnkckaohfflaaDoorTxt
namespace Go.Proofs.YtmpnkckaohfflaaDoor.Sm
open Go.RowKit Go.Proofs.YtmpnkckaohfflaaDoor.Txt Go.Proofs.YtmpnkckaohfflaaDoorW.PrintWords
set_option linter.unusedVariables false

def step (n c : Int) : Int := (n / 2 + n % 2 * 32768 + c) % 65536
def sumFrom (n : Int) (l : List UInt8) : Int := l.foldl (fun n c => step n (c.toNat : Int)) n
def sum (l : List UInt8) : Int := sumFrom 0 l

theorem step_range (n c : Int) : 0 ≤ step n c ∧ step n c ≤ 65535 := by unfold step; omega
theorem sumFrom_range (l : List UInt8) : ∀ n, 0 ≤ n → n ≤ 65535 → 0 ≤ sumFrom n l ∧ sumFrom n l ≤ 65535 := by
  induction l with
  | nil => intro n h0 h1; exact ⟨h0, h1⟩
  | cons c l ih => intro n _ _; exact ih _ (step_range _ _).1 (step_range _ _).2
theorem sum_range (l : List UInt8) : 0 ≤ sum l ∧ sum l ≤ 65535 := sumFrom_range l 0 (by omega) (by omega)
theorem sumFrom_cons (n : Int) (c : UInt8) (l : List UInt8) : sumFrom n (c :: l) = sumFrom (step n (c.toNat : Int)) l := rfl
theorem sumFrom_app (n : Int) (a b : List UInt8) : sumFrom n (a ++ b) = sumFrom (sumFrom n a) b := by unfold sumFrom; rw [List.foldl_append]
theorem sum_snoc (l : List UInt8) (c : UInt8) : sum (l ++ [c]) = step (sum l) (c.toNat : Int) := by unfold sum; rw [sumFrom_app]; rfl

theorem step_inj (n m c : Int) (h0 : 0 ≤ n) (h1 : n ≤ 65535) (g0 : 0 ≤ m) (g1 : m ≤ 65535) (h : step n c = step m c) : n = m := by
  unfold step at h
  have a0 : 0 ≤ n / 2 + n % 2 * 32768 ∧ n / 2 + n % 2 * 32768 ≤ 65535 := by omega
  have b0 : 0 ≤ m / 2 + m % 2 * 32768 ∧ m / 2 + m % 2 * 32768 ≤ 65535 := by omega
  have e : n / 2 + n % 2 * 32768 = m / 2 + m % 2 * 32768 := by
    generalize n / 2 + n % 2 * 32768 = a at *
    generalize m / 2 + m % 2 * 32768 = b at *
    omega
  have q1 : n = 2 * (n / 2) + n % 2 := by omega
  have q2 : m = 2 * (m / 2) + m % 2 := by omega
  have q3 : 0 ≤ n / 2 ∧ n / 2 ≤ 32767 := by omega
  have q4 : 0 ≤ m / 2 ∧ m / 2 ≤ 32767 := by omega
  have q5 : 0 ≤ n % 2 ∧ n % 2 ≤ 1 := by omega
  have q6 : 0 ≤ m % 2 ∧ m % 2 ≤ 1 := by omega
  rw [q1, q2]
  clear q1 q2 h a0 b0
  generalize n / 2 = a at *
  generalize m / 2 = b at *
  generalize n % 2 = c at *
  generalize m % 2 = d at *
  omega
theorem sumFrom_inj (l : List UInt8) : ∀ n m, 0 ≤ n → n ≤ 65535 → 0 ≤ m → m ≤ 65535 → sumFrom n l = sumFrom m l → n = m := by
  induction l with
  | nil => intro n m _ _ _ _ h; exact h
  | cons c l ih =>
    intro n m h0 h1 g0 g1 h
    rw [sumFrom_cons, sumFrom_cons] at h
    exact step_inj n m _ h0 h1 g0 g1 (ih _ _ (step_range _ _).1 (step_range _ _).2 (step_range _ _).1 (step_range _ _).2 h)
/-- one byte turned turns the sum -/
theorem sum_set (l : List UInt8) (j : Nat) (hj : j < l.length) (d : UInt8) (hd : l[j] ≠ d) : sum (l.set j d) ≠ sum l := by
  intro h
  have e1 : l = l.take j ++ l[j] :: l.drop (j + 1) := by rw [← List.drop_eq_getElem_cons hj, List.take_append_drop]
  have e2 : l.set j d = l.take j ++ d :: l.drop (j + 1) := List.set_eq_take_append_cons_drop.trans (by rw [if_pos hj])
  rw [e2] at h
  have h' : sum (l.take j ++ d :: l.drop (j + 1)) = sum (l.take j ++ l[j] :: l.drop (j + 1)) := by rw [← e1]; exact h
  unfold sum at h'
  rw [sumFrom_app, sumFrom_app, sumFrom_cons, sumFrom_cons] at h'
  have := sumFrom_inj _ _ _ (step_range _ _).1 (step_range _ _).2 (step_range _ _).1 (step_range _ _).2 h'
  obtain ⟨r0, r1⟩ := sumFrom_range (l.take j) 0 (by omega) (by omega)
  have k1 : d.toNat < 256 := d.toNat_lt
  have k2 : (l[j]).toNat < 256 := (l[j]).toNat_lt
  unfold step at this
  generalize sumFrom 0 (l.take j) = n at *
  have a0 : 0 ≤ n / 2 + n % 2 * 32768 ∧ n / 2 + n % 2 * 32768 ≤ 65535 := by omega
  generalize n / 2 + n % 2 * 32768 = a at *
  exact hd (ext _ _ (by omega))

end Go.Proofs.YtmpnkckaohfflaaDoor.Sm
