/- Plain facts on the escape of bytes: it is one to one, and so is a body's; its length; its bytes. No condition. -/
import Derived.Test.YtgbdeloefdhmlabDoorOct
namespace Go.Proofs.YtgbdeloefdhmlabDoor.Oct
set_option linter.unusedVariables false

/-- a body's escape -/
def escBody : List UInt8 → List UInt8
  | [] => []
  | c :: r => if c = 37 then 92 :: 48 :: 52 :: 53 :: escape r else escape (c :: r)
theorem escBody_nil : escBody [] = [] := rfl
theorem escBody_cons (c : UInt8) (r : List UInt8) : escBody (c :: r) = if c = 37 then 92 :: 48 :: 52 :: 53 :: escape r else escape (c :: r) := rfl

theorem ext (a b : UInt8) (h : a.toNat = b.toNat) : a = b := by
  exact UInt8.toNat_inj.1 h
theorem three_inj (c d : UInt8) (h : three c = three d) : c = d := by
  unfold three at h
  injection h with _ h
  injection h with h1 h
  injection h with h2 h
  injection h with h3 _
  have g1 : ((48 + c / 64 : UInt8).toNat : Int) = ((48 + d / 64 : UInt8).toNat : Int) := by rw [h1]
  have g2 : ((48 + c / 8 % 8 : UInt8).toNat : Int) = ((48 + d / 8 % 8 : UInt8).toNat : Int) := by rw [h2]
  have g3 : ((48 + c % 8 : UInt8).toNat : Int) = ((48 + d % 8 : UInt8).toNat : Int) := by rw [h3]
  rw [dig_hi, dig_hi] at g1
  rw [dig_mid, dig_mid] at g2
  rw [dig_lo, dig_lo] at g3
  have hc : c.toNat < 256 := c.toNat_lt
  have hd : d.toNat < 256 := d.toNat_lt
  exact ext _ _ (by omega)

theorem esc1_yes (c : UInt8) (h : must c = true) : esc1 c = three c := by unfold esc1; rw [if_pos h]
theorem esc1_no (c : UInt8) (h : must c = false) : esc1 c = [c] := by unfold esc1; rw [h]; rfl
theorem must_bs : must 92 = true := by decide

/-- two escapes of first bytes, with whatever is behind -/
theorem esc1_inj (c d : UInt8) (a b : List UInt8) (h : esc1 c ++ a = esc1 d ++ b) : c = d ∧ a = b := by
  cases hc : must c with
  | true =>
    cases hd : must d with
    | true =>
      rw [esc1_yes c hc, esc1_yes d hd] at h
      have := List.append_inj h (by simp [three])
      exact ⟨three_inj _ _ this.1, this.2⟩
    | false =>
      rw [esc1_yes c hc, esc1_no d hd] at h
      have e : (92 : UInt8) = d := by
        have := congrArg List.head? h
        simpa [three] using this
      rw [← e, must_bs] at hd
      cases hd
  | false =>
    cases hd : must d with
    | true =>
      rw [esc1_no c hc, esc1_yes d hd] at h
      have e : c = (92 : UInt8) := by
        have := congrArg List.head? h
        simpa [three] using this
      rw [e, must_bs] at hc
      cases hc
    | false =>
      rw [esc1_no c hc, esc1_no d hd] at h
      simpa using h

theorem escape_inj : ∀ a b : List UInt8, escape a = escape b → a = b
  | [], [], _ => rfl
  | [], d :: b, h => by
    have := (escape_len (d :: b)).1
    rw [← h] at this
    simp [escape] at this
  | c :: a, [], h => by
    have := (escape_len (c :: a)).1
    rw [h] at this
    simp [escape] at this
  | c :: a, d :: b, h => by
    rw [escape_cons, escape_cons] at h
    obtain ⟨e, h'⟩ := esc1_inj c d _ _ h
    rw [e, escape_inj a b h']

theorem three_pct : three 37 = [92, 48, 52, 53] := by decide
theorem must_pct : must 37 = false := by decide
/-- no text's escape begins as an escaped percent sign does -/
theorem not_pct (d : UInt8) (a b : List UInt8) (hd : d ≠ 37) : (92 :: 48 :: 52 :: 53 :: a : List UInt8) ≠ escape (d :: b) := by
  intro h
  have e : (92 :: 48 :: 52 :: 53 :: a : List UInt8) = three 37 ++ a := by rw [three_pct]; rfl
  rw [e, escape_cons] at h
  cases hm : must d with
  | true =>
    rw [esc1_yes d hm] at h
    have := List.append_inj h (by simp [three])
    exact hd (three_inj _ _ this.1).symm
  | false =>
    rw [esc1_no d hm] at h
    have e : (92 : UInt8) = d := by
      have := congrArg List.head? h
      simpa [three] using this
    rw [← e, must_bs] at hm
    cases hm

theorem escBody_inj : ∀ a b : List UInt8, escBody a = escBody b → a = b
  | [], [], _ => rfl
  | [], d :: b, h => by
    rw [escBody_nil, escBody_cons] at h
    by_cases hd : d = 37
    · rw [if_pos hd] at h
      cases h
    · rw [if_neg hd] at h
      exact escape_inj [] (d :: b) h
  | c :: a, [], h => by
    rw [escBody_nil, escBody_cons] at h
    by_cases hc : c = 37
    · rw [if_pos hc] at h
      cases h
    · rw [if_neg hc] at h
      exact escape_inj (c :: a) [] h
  | c :: a, d :: b, h => by
    rw [escBody_cons, escBody_cons] at h
    by_cases hc : c = 37
    · by_cases hd : d = 37
      · rw [if_pos hc, if_pos hd] at h
        simp only [List.cons.injEq, true_and] at h
        rw [hc, hd, escape_inj a b h]
      · rw [if_pos hc, if_neg hd] at h
        exact absurd h (not_pct d _ _ hd)
    · by_cases hd : d = 37
      · rw [if_neg hc, if_pos hd] at h
        exact absurd h.symm (not_pct c _ _ hc)
      · rw [if_neg hc, if_neg hd] at h
        exact escape_inj _ _ h

theorem escBody_len (l : List UInt8) : (escBody l).length ≤ 4 * l.length := by
  cases l with
  | nil => simp [escBody]
  | cons c r =>
    rw [escBody_cons]
    split
    · have := (escape_len r).2
      simp only [List.length_cons]
      omega
    · exact (escape_len _).2

/-- how long an escape is -/
def want : List UInt8 → Nat
  | [] => 0
  | c :: r => (if must c then 4 else 1) + want r
theorem want_cons (c : UInt8) (r : List UInt8) : want (c :: r) = (if must c then 4 else 1) + want r := rfl
theorem want_len (l : List UInt8) : (escape l).length = want l := by
  induction l with
  | nil => rfl
  | cons c r ih =>
    rw [escape_cons, List.length_append, ih, want_cons]
    cases h : must c with
    | true => rw [esc1_yes c h]; simp [three]
    | false => rw [esc1_no c h]; simp

/-- no byte of an escape is below 32 -/
theorem safe (l : List UInt8) : ∀ c ∈ escape l, 32 ≤ c.toNat := by
  intro c hc
  unfold escape at hc
  rw [List.mem_flatMap] at hc
  obtain ⟨d, _, hd⟩ := hc
  cases h : must d with
  | false =>
    rw [esc1_no d h] at hd
    simp at hd
    subst hd
    unfold must at h
    simp at h
    omega
  | true =>
    rw [esc1_yes d h] at hd
    have k : d.toNat < 256 := d.toNat_lt
    have e1 := dig_hi d
    have e2 := dig_mid d
    have e3 := dig_lo d
    unfold three at hd
    simp only [List.mem_cons, List.not_mem_nil, or_false] at hd
    rcases hd with rfl | rfl | rfl | rfl
    · decide
    · omega
    · omega
    · omega

end Go.Proofs.YtgbdeloefdhmlabDoor.Oct
