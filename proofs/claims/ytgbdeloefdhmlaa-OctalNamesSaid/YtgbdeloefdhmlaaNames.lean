/- What the printed IsName and IsWord come to, the program's and the reference's. Condition: enough rounds. -/
import Derived.Test.YtgbdeloefdhmlaaQ2
import Derived.Test.YtgbdeloefdhmlaaTxt
namespace Go.Proofs.Ytgbdeloefdhmlaa.Nm
open Go.RowKit Go.Proofs.Ytgbdeloefdhmlaa.Q Go.Proofs.Ytgbdeloefdhmlaa.Giv Go.Proofs.Ytgbdeloefdhmlaa.Txt Go.Proofs.YtgbdeloefdhmlaaW.PrintWords Go.Proofs.YtgbdeloefdhmlaaW.PrintLast
set_option linter.unusedVariables false

def bar : List UInt8 := [32, 33, 36, 37, 43, 45, 61, 64, 94, 123]
def okb (c : UInt8) : Bool := decide (32 ≤ c.toNat) && decide (c.toNat ≤ 126) && !(c == 46) && !(c == 58)
/-- is it a name -/
def isName (l : List UInt8) : Bool := decide (1 ≤ l.length) && decide (l.length ≤ 32) && l.all okb && !(bar.contains (l.headD 0)) && !(l.getLastD 0 == 32)
/-- is it a name without blanks -/
def isWord (l : List UInt8) : Bool := isName l && !(l.contains 32)

theorem holdsLoop (suf : List UInt8) (c : UInt8) : ∀ (pre : List UInt8) (k : Nat) (i : Int), i = pre.length → (pre ++ suf).length ≤ 140737488351232 → suf.length < k →
    mullionref01_holds.l0 k (S (pre ++ suf)) (c.toNat : Int) i = some (suf.contains c) := by
  induction suf with
  | nil =>
    intro pre k i hi hl hk
    obtain ⟨k, rfl⟩ : ∃ m, k = m + 1 := ⟨k - 1, by simp at hk; omega⟩
    simp only [mullionref01_holds.l0]
    rw [if_neg (by rw [S_size]; simp; omega)]
    rfl
  | cons d suf ih =>
    intro pre k i hi hl hk
    obtain ⟨k, rfl⟩ : ∃ m, k = m + 1 := ⟨k - 1, by simp at hk; omega⟩
    have hlen : pre.length + (suf.length + 1) ≤ 140737488351232 := by simpa using hl
    have e : pre ++ d :: suf = (pre ++ [d]) ++ suf := by simp
    have wi : wrap64 (i + 1) = i + 1 := by unfold wrap64; omega
    have h := ih (pre ++ [d]) k (i + 1) (by rw [hi]; simp) (by rw [← e]; exact hl) (by simp at hk; omega)
    simp only [mullionref01_holds.l0]
    rw [if_pos (by rw [S_size]; simp; omega), if_pos (by omega), bt_mid _ _ _ _ hi]
    by_cases hd : d = c
    · subst hd
      rw [if_pos rfl]
      simp
    · rw [if_neg (byte_ne hd), wi, e, h]
      have hcd : (c == d) = false := by simpa using fun e : c = d => hd e.symm
      congr 1
      rw [List.contains_cons, hcd]
      rfl
theorem holds_f (l : List UInt8) (c : UInt8) (k : Nat) (hl : l.length ≤ 140737488351232) (hk : l.length < k) : mullionref01_holds.f k (S l) (c.toNat : Int) = some (l.contains c) :=
  holdsLoop l c [] k 0 rfl hl hk

theorem index_f (l : List UInt8) (c : UInt8) : ∃ t, strings_IndexByte.f (S l) (c.toNat : Int) = some t ∧ (t < 0 ↔ l.contains c = false) := by
  refine ⟨_, rfl, ?_⟩
  have e1 : ((c.toNat : Int)).toNat.toUInt8 = c := by simp
  rw [e1, indexByte_neg]
  simp

theorem last_get (l : List UInt8) (h : 0 < l.length) : bt (S l) (wrap64 (((S l).size : Int) - 1)) = ((l.getLastD 0).toNat : Int) ∧ 0 ≤ wrap64 (((S l).size : Int) - 1) ∧ wrap64 (((S l).size : Int) - 1) < ((S l).size : Int) ∨ 9223372036854775807 < l.length := by
  by_cases hl : l.length ≤ 9223372036854775807
  · left
    have w : wrap64 (((S l).size : Int) - 1) = (l.length : Int) - 1 := by rw [S_size]; unfold wrap64; omega
    rw [w, S_size]
    refine ⟨?_, by omega, by omega⟩
    rw [bt_get l (l.length - 1) (by omega) _ (by omega)]
    congr 2
    rw [List.getLastD_eq_getLast?, List.getLast?_eq_getElem?, List.getElem?_eq_getElem (by omega)]
    rfl
  · right; omega

/-- both loops, from a place on -/
theorem nameLoop (all : List UInt8) (h1 : 1 ≤ all.length) (h32 : all.length ≤ 32) (suf : List UInt8) : ∀ (pre : List UInt8) (k : Nat) (i : Int), all = pre ++ suf → i = pre.length → suf.length + 12 < k →
    octal_IsName.l0 k (S all) i = some (suf.all okb && !(bar.contains (all.headD 0)) && !(all.getLastD 0 == 32)) ∧
    mullionref01_IsName.l0 k (S all) i = some (suf.all okb && !(bar.contains (all.headD 0)) && !(all.getLastD 0 == 32)) := by
  induction suf with
  | nil =>
    intro pre k i ha hi hk
    obtain ⟨k, rfl⟩ : ∃ m, k = m + 1 := ⟨k - 1, by omega⟩
    have hn : ¬ (i < ((S all).size : Int)) := by rw [S_size, ha]; simp; omega
    have hz : (0 : Int) < ((S all).size : Int) := by rw [S_size]; omega
    obtain ⟨c, r, hc⟩ : ∃ c r, all = c :: r := by cases all with | nil => simp at h1 | cons c r => exact ⟨c, r, rfl⟩
    have hhd : all.headD 0 = c := by rw [hc]; rfl
    have hbt : bt (S all) 0 = (c.toNat : Int) := by rw [hc]; exact bt_head c r
    have hlast := (last_get all (by omega)).resolve_right (by omega)
    have hle : (bt (S all) (wrap64 (((S all).size : Int) - 1)) != 32) = !(all.getLastD 0 == 32) := by
      rw [hlast.1]
      have := byte_eq (all.getLastD 0) 32
      have e32 : ((32 : UInt8).toNat : Int) = 32 := rfl
      rw [e32] at this
      simp only [bne, this]
    simp only [octal_IsName.l0, mullionref01_IsName.l0]
    rw [if_neg hn, if_neg hn, if_pos hz, if_pos hz, hbt, hhd, if_pos hlast.2.1, if_pos hlast.2.2, hle]
    obtain ⟨t, ht, hti⟩ := index_f bar c
    have hho := holds_f bar c k (by decide) (by have : bar.length = 10 := rfl; omega)
    have eb : (⟨#[32, 33, 36, 37, 43, 45, 61, 64, 94, 123]⟩ : ByteArray) = S bar := rfl
    rw [eb, ht, hho]
    simp only [Option.bind_some]
    cases hb : bar.contains c with
    | true =>
      rw [if_neg (by rw [hti, hb]; simp), if_pos rfl]
      simp
    | false =>
      rw [if_pos (by rw [hti, hb]), if_neg (by simp)]
      simp
  | cons d suf ih =>
    intro pre k i ha hi hk
    obtain ⟨k, rfl⟩ : ∃ m, k = m + 1 := ⟨k - 1, by omega⟩
    have hlen : pre.length + (suf.length + 1) = all.length := by rw [ha]; simp
    have wi : wrap64 (i + 1) = i + 1 := by unfold wrap64; omega
    have hp : i < ((S all).size : Int) := by rw [S_size]; omega
    have h0 : 0 ≤ i := by omega
    have hb : bt (S all) i = (d.toNat : Int) := by rw [ha]; exact bt_mid _ _ _ _ hi
    obtain ⟨g1, g2⟩ := ih (pre ++ [d]) k (i + 1) (by rw [ha]; simp) (by rw [hi]; simp) (by simp at hk; omega)
    simp only [octal_IsName.l0, mullionref01_IsName.l0]
    rw [if_pos hp, if_pos hp, if_pos h0, if_pos h0, hb, wi, g1, g2, List.all_cons]
    have hk : d.toNat < 256 := d.toNat_lt
    by_cases c1 : (d.toNat : Int) < 32
    · have e : okb d = false := by unfold okb; simp; omega
      rw [if_pos c1, e]
      simp
    · rw [if_neg c1]
      by_cases c2 : (d.toNat : Int) > 126
      · have e : okb d = false := by unfold okb; simp; omega
        rw [if_pos c2, e]
        simp
      · rw [if_neg c2]
        by_cases c3 : (d.toNat : Int) = 46
        · have e3 : d = 46 := ext _ _ (by have : (46 : UInt8).toNat = 46 := rfl; omega)
          have e : okb d = false := by rw [e3]; decide
          rw [if_pos c3, e]
          simp
        · rw [if_neg c3]
          by_cases c4 : (d.toNat : Int) = 58
          · have e4 : d = 58 := ext _ _ (by have : (58 : UInt8).toNat = 58 := rfl; omega)
            have e : okb d = false := by rw [e4]; decide
            rw [if_pos c4, e]
            simp
          · rw [if_neg c4]
            have n46 : d ≠ 46 := by rintro rfl; exact c3 rfl
            have n58 : d ≠ 58 := by rintro rfl; exact c4 rfl
            have e : okb d = true := by unfold okb; simp [n46, n58]; omega
            rw [e]
            simp

theorem name_f (l : List UInt8) (k : Nat) (hl : l.length ≤ 140737488351232) (hk : 50 < k) :
    octal_IsName.f k (S l) = some (isName l) ∧ mullionref01_IsName.f k (S l) = some (isName l) := by
  obtain ⟨k, rfl⟩ : ∃ m, k = m + 1 := ⟨k - 1, by omega⟩
  unfold octal_IsName.f mullionref01_IsName.f
  by_cases h1 : ((S l).size : Int) < 1
  · rw [if_pos h1, if_pos h1]
    simp only [octal_IsName.j0, mullionref01_IsName.j0]
    rw [if_pos trivial, if_pos trivial]
    rw [S_size] at h1
    have e : isName l = false := by unfold isName; have : decide (1 ≤ l.length) = false := decide_eq_false (by omega)
                                    rw [this]; rfl
    rw [e]
    exact ⟨rfl, rfl⟩
  · rw [if_neg h1, if_neg h1]
    rw [S_size] at h1
    simp only [octal_IsName.j0, mullionref01_IsName.j0]
    by_cases h32 : ((S l).size : Int) > 32
    · have hd : decide (((S l).size : Int) > 32) = true := decide_eq_true h32
      rw [hd, if_pos rfl, if_pos rfl]
      rw [S_size] at h32
      have e : isName l = false := by
        unfold isName
        have : decide (l.length ≤ 32) = false := decide_eq_false (by omega)
        rw [this]; simp
      rw [e]
      exact ⟨rfl, rfl⟩
    · have hd : decide (((S l).size : Int) > 32) = false := decide_eq_false h32
      rw [hd]
      rw [S_size] at h32
      obtain ⟨g1, g2⟩ := nameLoop l (by omega) (by omega) l [] k 0 rfl rfl (by omega)
      rw [if_neg (by simp), if_neg (by simp), g1, g2]
      have e : isName l = (l.all okb && !(bar.contains (l.headD 0)) && !(l.getLastD 0 == 32)) := by
        unfold isName
        have e1 : decide (1 ≤ l.length) = true := decide_eq_true (by omega)
        have e2 : decide (l.length ≤ 32) = true := decide_eq_true (by omega)
        rw [e1, e2]
        simp
      rw [e]
      exact ⟨rfl, rfl⟩

theorem word_f (l : List UInt8) (k : Nat) (hl : l.length ≤ 140737488351232) (hk : l.length + 50 < k) :
    octal_IsWord.f k (S l) = some (isWord l) ∧ mullionref01_IsWord.f k (S l) = some (isWord l) := by
  obtain ⟨g1, g2⟩ := name_f l k hl (by omega)
  unfold octal_IsWord.f mullionref01_IsWord.f
  rw [g1, g2]
  simp only [Option.bind_some]
  cases hn : isName l with
  | false =>
    rw [if_neg (by simp), if_neg (by simp)]
    unfold isWord
    rw [hn]
    exact ⟨rfl, rfl⟩
  | true =>
    rw [if_pos rfl, if_pos rfl]
    obtain ⟨t, ht, hti⟩ := index_f l 32
    have hho := holds_f l 32 k hl (by omega)
    have e32 : ((32 : UInt8).toNat : Int) = 32 := rfl
    rw [e32] at ht hho
    rw [ht, hho]
    simp only [Option.bind_some]
    unfold isWord
    rw [hn]
    refine ⟨?_, rfl⟩
    congr 1
    cases hc : l.contains 32 with
    | false =>
      have : t < 0 := by rw [hti, hc]
      simp only [this, decide_true]
      rfl
    | true =>
      have : ¬ t < 0 := by rw [hti, hc]; simp
      simp only [this, decide_false]
      rfl

theorem workName : isWord [119, 111, 114, 107] = true := by decide

theorem pureNames (s : ByteArray) (h : s.size ≤ 140737488351232) : ∃ k, mullionlaw01_OctalNames.f k s = some true := by
  rw [S_of s]
  have hl : s.data.toList.length ≤ 140737488351232 := by rw [data_len]; exact h
  generalize s.data.toList = l at hl ⊢
  refine ⟨l.length + 100, ?_⟩
  obtain ⟨g1, g2⟩ := name_f l (l.length + 100) hl (by omega)
  obtain ⟨g3, g4⟩ := word_f l (l.length + 100) hl (by omega)
  obtain ⟨g5, _⟩ := word_f [119, 111, 114, 107] (l.length + 100) (by simp) (by simp)
  have e : (⟨#[119, 111, 114, 107]⟩ : ByteArray) = S [119, 111, 114, 107] := rfl
  unfold mullionlaw01_OctalNames.f
  rw [g1, g2, g3, g4, e, g5, workName]
  simp

end Go.Proofs.Ytgbdeloefdhmlaa.Nm
