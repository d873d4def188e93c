/- Plain facts on reading an escaped text: it is read as just the text whose escape it is. No condition. -/
import Derived.Test.YtgbdeloefdhmlabDoorOctB
namespace Go.Proofs.YtgbdeloefdhmlabDoor.Oct
set_option linter.unusedVariables false

def isdig (c : UInt8) : Bool := decide (48 ≤ c.toNat) && decide (c.toNat ≤ 55)
def worth (x y z : UInt8) : Nat := 64 * (x.toNat - 48) + 8 * (y.toNat - 48) + (z.toNat - 48)
/-- an escaped byte at the beginning -/
def read : List UInt8 → Option UInt8
  | 92 :: x :: y :: z :: _ => if isdig x && isdig y && isdig z && decide (worth x y z < 256) then some (UInt8.ofNat (worth x y z)) else none
  | _ => none

def unesc : Nat → List UInt8 → Option (List UInt8)
  | _, [] => some []
  | 0, _ :: _ => none
  | n + 1, c :: r => if must c = false then (unesc n r).map (c :: ·) else
    match read (c :: r) with
    | some d => if must d = true then (unesc n (r.drop 3)).map (d :: ·) else none
    | none => none
def unescape (l : List UInt8) : Option (List UInt8) := unesc l.length l

theorem unesc_fuel : ∀ (n m : Nat) (l : List UInt8), l.length ≤ n → l.length ≤ m → unesc n l = unesc m l := by
  intro n
  induction n with
  | zero =>
    intro m l hn hm
    obtain rfl : l = [] := List.eq_nil_of_length_eq_zero (by omega)
    cases m <;> rfl
  | succ n ih =>
    intro m l hn hm
    cases l with
    | nil => cases m <;> rfl
    | cons c r =>
      cases m with
      | zero => simp at hm
      | succ m =>
        simp only [List.length_cons] at hn hm
        simp only [unesc]
        rw [ih m r (by omega) (by omega), ih m (r.drop 3) (by rw [List.length_drop]; omega) (by rw [List.length_drop]; omega)]
theorem unescape_nil : unescape [] = some [] := rfl
theorem unescape_cons (c : UInt8) (r : List UInt8) : unescape (c :: r) = if must c = false then (unescape r).map (c :: ·) else
    match read (c :: r) with
    | some d => if must d = true then (unescape (r.drop 3)).map (d :: ·) else none
    | none => none := by
  unfold unescape
  simp only [List.length_cons, unesc]
  rw [unesc_fuel r.length (r.drop 3).length (r.drop 3) (by rw [List.length_drop]; omega) (Nat.le_refl _)]

theorem dig_range (c : UInt8) : 48 ≤ (48 + c / 64 : UInt8).toNat ∧ (48 + c / 64 : UInt8).toNat ≤ 51 ∧ 48 ≤ (48 + c / 8 % 8 : UInt8).toNat ∧ (48 + c / 8 % 8 : UInt8).toNat ≤ 55 ∧ 48 ≤ (48 + c % 8 : UInt8).toNat ∧ (48 + c % 8 : UInt8).toNat ≤ 55 := by
  have h : c.toNat < 256 := c.toNat_lt
  have a := dig_hi c
  have b := dig_mid c
  have d := dig_lo c
  omega
theorem worth_three (c : UInt8) : worth (48 + c / 64) (48 + c / 8 % 8) (48 + c % 8) = c.toNat := by
  have h : c.toNat < 256 := c.toNat_lt
  have a := dig_hi c
  have b := dig_mid c
  have d := dig_lo c
  unfold worth
  omega
/-- what was escaped is read -/
theorem read_three (c : UInt8) (r : List UInt8) : read (three c ++ r) = some c := by
  obtain ⟨h1, h2, h3, h4, h5, h6⟩ := dig_range c
  have h : c.toNat < 256 := c.toNat_lt
  show read (92 :: (48 + c / 64) :: (48 + c / 8 % 8) :: (48 + c % 8) :: r) = some c
  simp only [read]
  rw [worth_three]
  rw [if_pos]
  · simp
  · unfold isdig
    simp
    omega
/-- what is read was escaped so -/
theorem read_some (l : List UInt8) (d : UInt8) (h : read l = some d) : ∃ r, l = three d ++ r := by
  unfold read at h
  split at h
  · rename_i x y z r
    split at h
    · rename_i hc
      simp only [Option.some.injEq] at h
      simp only [isdig, Bool.and_eq_true, decide_eq_true_eq] at hc
      obtain ⟨⟨⟨⟨x0, x1⟩, y0, y1⟩, z0, z1⟩, hw⟩ := hc
      refine ⟨r, ?_⟩
      have hd : d.toNat = worth x y z := by rw [← h]; simp; omega
      have a := dig_hi d
      have b := dig_mid d
      have e := dig_lo d
      unfold worth at hd hw
      unfold three
      have ex : x = 48 + d / 64 := ext _ _ (by omega)
      have ey : y = 48 + d / 8 % 8 := ext _ _ (by omega)
      have ez : z = 48 + d % 8 := ext _ _ (by omega)
      rw [ex, ey, ez]
      rfl
    · cases h
  · cases h
theorem three_shape (c : UInt8) : ∃ a, three c = 92 :: a ∧ a.length = 3 := ⟨_, rfl, rfl⟩

theorem unescape_back : ∀ t : List UInt8, unescape (escape t) = some t := by
  intro t
  induction t with
  | nil => rfl
  | cons c r ih =>
    rw [escape_cons]
    cases hm : must c with
    | false =>
      rw [esc1_no c hm]
      show unescape (c :: escape r) = _
      rw [unescape_cons, if_pos hm, ih]
      rfl
    | true =>
      rw [esc1_yes c hm]
      obtain ⟨a, ha, hl⟩ := three_shape c
      have hr := read_three c (escape r)
      rw [ha] at hr ⊢
      show unescape (92 :: (a ++ escape r)) = _
      have hr' : read (92 :: (a ++ escape r)) = some c := hr
      have hd : (a ++ escape r).drop 3 = escape r := by rw [← hl]; simp
      rw [unescape_cons, if_neg (by rw [must_bs]; simp), hr']
      simp only []
      rw [if_pos hm, hd, ih]
      rfl

theorem unescape_forth : ∀ (n : Nat) (s t : List UInt8), s.length ≤ n → unescape s = some t → escape t = s := by
  intro n
  induction n with
  | zero =>
    intro s t hn h
    obtain rfl : s = [] := List.eq_nil_of_length_eq_zero (by omega)
    rw [unescape_nil] at h
    obtain rfl := Option.some.inj h
    rfl
  | succ n ih =>
    intro s t hn h
    cases s with
    | nil =>
      rw [unescape_nil] at h
      obtain rfl := Option.some.inj h
      rfl
    | cons c r =>
      simp only [List.length_cons] at hn
      rw [unescape_cons] at h
      cases hm : must c with
      | false =>
        rw [if_pos hm] at h
        obtain ⟨u, hu, rfl⟩ := Option.map_eq_some_iff.1 h
        rw [escape_cons, esc1_no c hm, ih r u (by omega) hu]
        rfl
      | true =>
        rw [if_neg (by rw [hm]; simp)] at h
        cases hr : read (c :: r) with
        | none =>
          rw [hr] at h
          cases h
        | some d =>
          rw [hr] at h
          simp only [] at h
          cases hd : must d with
          | false =>
            rw [if_neg (by rw [hd]; simp)] at h
            cases h
          | true =>
            rw [if_pos hd] at h
            obtain ⟨u, hu, rfl⟩ := Option.map_eq_some_iff.1 h
            obtain ⟨r', hr'⟩ := read_some _ _ hr
            obtain ⟨a, ha, hl⟩ := three_shape d
            rw [ha] at hr'
            injection hr' with h1 h2
            have hdrop : r.drop 3 = r' := by rw [h2, ← hl]; simp
            rw [hdrop] at hu
            have hlen : r'.length ≤ n := by
              have := congrArg List.length h2
              simp at this
              omega
            rw [escape_cons, esc1_yes d hd, ih r' u hlen hu, ha, h1, h2]
            rfl
theorem unescape_iff (s t : List UInt8) : unescape s = some t ↔ escape t = s :=
  ⟨unescape_forth s.length s t (Nat.le_refl _), fun h => by rw [← h]; exact unescape_back t⟩
theorem unescape_len (s t : List UInt8) (h : unescape s = some t) : t.length ≤ s.length := by
  have := (escape_len t).1
  rw [(unescape_iff s t).1 h] at this
  exact this

/-- a body's, read back -/
def unBody (l : List UInt8) : Option (List UInt8) :=
  if l.head? = some 37 then none
  else if [92, 48, 52, 53].isPrefixOf l then (unescape (l.drop 4)).map (37 :: ·)
  else unescape l

theorem unBody_iff (s t : List UInt8) : unBody s = some t ↔ escBody t = s := by
  unfold unBody
  constructor
  · intro h
    split at h
    · cases h
    · split at h
      · rename_i hp
        obtain ⟨u, hu, rfl⟩ := Option.map_eq_some_iff.1 h
        rw [escBody_cons, if_pos rfl, (unescape_iff _ _).1 hu]
        rw [List.isPrefixOf_iff_prefix] at hp
        obtain ⟨r, rfl⟩ := hp
        rfl
      · rename_i hh hp
        have e := (unescape_iff _ _).1 h
        cases t with
        | nil => exact e
        | cons c r =>
          rw [escBody_cons]
          by_cases hc : c = 37
          · subst hc
            exfalso
            apply hh
            rw [← e, escape_cons, esc1_no 37 must_pct]
            rfl
          · rw [if_neg hc]
            exact e
  · intro h
    cases t with
    | nil =>
      rw [escBody_nil] at h
      subst h
      rw [if_neg (by simp), if_neg (by simp)]
      rfl
    | cons c r =>
      rw [escBody_cons] at h
      by_cases hc : c = 37
      · rw [if_pos hc] at h
        subst hc
        rw [← h, if_neg (by simp), if_pos (by simp)]
        show (unescape (escape r)).map _ = _
        rw [unescape_back]
        rfl
      · rw [if_neg hc] at h
        have h1 : s.head? ≠ some 37 := by
          rw [← h, escape_cons]
          cases hm : must c with
          | true => rw [esc1_yes c hm]; simp [three]
          | false => rw [esc1_no c hm]; simpa using hc
        have h2 : [92, 48, 52, 53].isPrefixOf s = false := by
          rw [Bool.eq_false_iff]
          intro hp
          rw [List.isPrefixOf_iff_prefix] at hp
          obtain ⟨u, hu⟩ := hp
          exact not_pct c u r hc (by rw [h]; exact hu)
        rw [if_neg h1, h2, if_neg (by simp), ← h, unescape_back]
theorem unBody_len (s t : List UInt8) (h : unBody s = some t) : t.length ≤ s.length := by
  have e := (unBody_iff s t).1 h
  cases t with
  | nil => simp
  | cons c r =>
    rw [escBody_cons] at e
    by_cases hc : c = 37
    · rw [if_pos hc] at e
      have := (escape_len r).1
      rw [← e]
      simp only [List.length_cons]
      omega
    · rw [if_neg hc] at e
      have := (escape_len (c :: r)).1
      rw [e] at this
      exact this

end Go.Proofs.YtgbdeloefdhmlabDoor.Oct
