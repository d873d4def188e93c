/- What the printed functions over the escape come to, in terms of lists of bytes. Condition: texts of at most 2^44 bytes. -/
import Derived.Test.YtgbdeloefdhmlaaDoorQ1
import Derived.Test.YtgbdeloefdhmlaaDoorOctB
import Derived.Lib.LazyBuf
import Derived.Lib.Strings
namespace Go.Proofs.YtgbdeloefdhmlaaDoor.Esc
open Go.RowKit Go.Proofs.YtgbdeloefdhmlaaDoor.Q Go.Proofs.YtgbdeloefdhmlaaDoor.Giv Go.Proofs.YtgbdeloefdhmlaaDoorW.PrintWords Go.Proofs.YtgbdeloefdhmlaaDoorW.PrintLast
set_option linter.unusedVariables false

/-- a text out of its bytes -/
abbrev S (l : List UInt8) : ByteArray := ⟨l.toArray⟩
abbrev nums (l : List UInt8) : List Int := l.map fun b => (b.toNat : Int)
theorem S_of (s : ByteArray) : s = S s.data.toList := (Lib.mk_data s).symm
theorem S_size (l : List UInt8) : (S l).size = l.length := by simp [ByteArray.size]
theorem S_toList (l : List UInt8) : (S l).toList = l := by rw [Lib.toList_data]
theorem S_app (a b : List UInt8) : S a ++ S b = S (a ++ b) := by
  apply ByteArray.ext
  simp [S]
theorem S_nums (l : List UInt8) : strOfNums (nums l) = S l := by
  unfold strOfNums nums
  congr 2
  rw [List.map_map]
  have e : ((fun n : Int => UInt8.ofNat n.toNat) ∘ fun b : UInt8 => (b.toNat : Int)) = id := by
    funext b
    simp
  rw [e, List.map_id]
theorem S_tail (c : UInt8) (r : List UInt8) : (S (c :: r)).extract 1 (S (c :: r)).size = S r := by
  rw [Lib.extract_eq]
  simp [S, ByteArray.size]
theorem bt_mid (pre suf : List UInt8) (c : UInt8) (i : Int) (hi : i = pre.length) : bt (S (pre ++ c :: suf)) i = (c.toNat : Int) := by
  subst hi
  unfold bt
  have h : ((pre.length : Int)).toNat < (S (pre ++ c :: suf)).size := by rw [S_size]; simp
  rw [dif_pos h]
  congr 2
  simp [ByteArray.getElem_eq_getElem_data]
theorem bt_head (c : UInt8) (r : List UInt8) : bt (S (c :: r)) 0 = (c.toNat : Int) := bt_mid [] r c 0 rfl

theorem must_f (c : UInt8) : octal_must.f (c.toNat : Int) = some (Oct.must c) := by
  unfold octal_must.f Oct.must
  by_cases h : (c.toNat : Int) < 32
  · rw [if_pos h]; simp; omega
  · rw [if_neg h]
    congr 1
    rw [Bool.eq_iff_iff]
    simp
    omega
theorem rmust_f (c : UInt8) : mullionref01_must.f (c.toNat : Int) = some (Oct.must c) := by
  unfold mullionref01_must.f Oct.must
  by_cases h : (c.toNat : Int) < 32
  · rw [if_pos h]; simp; omega
  · rw [if_neg h]
    congr 1
    rw [Bool.eq_iff_iff]
    simp
    omega
theorem three_f (c : UInt8) : mullionref01_three.f (c.toNat : Int) = some (nums (Oct.three c)) := by
  have k : c.toNat < 256 := c.toNat_lt
  unfold mullionref01_three.f nums Oct.three
  simp only [List.map_cons, List.map_nil]
  rw [Oct.dig_hi, Oct.dig_mid, Oct.dig_lo]
  have e0 : ((92 : UInt8).toNat : Int) = 92 := rfl
  have hc : (0 : Int) ≤ (c.toNat : Int) := by omega
  rw [Int.tdiv_eq_ediv_of_nonneg hc, Int.tdiv_eq_ediv_of_nonneg hc, Int.tmod_eq_emod_of_nonneg hc]
  have e1 : (48 + (((c.toNat : Int) / 64) % 256)) % 256 = 48 + (c.toNat : Int) / 64 := by omega
  have e2 : 48 + ((((c.toNat : Int) / 8) % 256) % 8) = 48 + (c.toNat : Int) / 8 % 8 := by omega
  have e3 : (48 + ((c.toNat : Int) % 8)) % 256 = 48 + (c.toNat : Int) % 8 := by omega
  rw [e0, e1, e2, e3]

theorem refLoop (suf : List UInt8) : ∀ (pre : List UInt8) (k : Nat) (i : Int), i = pre.length → (pre ++ suf).length ≤ 17592186044416 → suf.length < k →
    mullionref01_Escape.l0 k (S (pre ++ suf)) (nums (Oct.escape pre)) i = some (S (Oct.escape (pre ++ suf))) := by
  induction suf with
  | nil =>
    intro pre k i hi hl hk
    obtain ⟨k, rfl⟩ : ∃ m, k = m + 1 := ⟨k - 1, by simp at hk; omega⟩
    simp only [mullionref01_Escape.l0]
    rw [if_neg (by rw [S_size]; simp; omega), List.append_nil, S_nums]
  | cons c suf ih =>
    intro pre k i hi hl hk
    obtain ⟨k, rfl⟩ : ∃ m, k = m + 1 := ⟨k - 1, by simp at hk; omega⟩
    have hlen : pre.length + (suf.length + 1) ≤ 17592186044416 := by simpa using hl
    have he := (Oct.escape_len pre).2
    have e : pre ++ c :: suf = (pre ++ [c]) ++ suf := by simp
    have wi : wrap64 (i + 1) = i + 1 := by unfold wrap64; omega
    have h := ih (pre ++ [c]) k (i + 1) (by rw [hi]; simp) (by rw [← e]; exact hl) (by simp at hk; omega)
    simp only [mullionref01_Escape.l0]
    rw [if_pos (by rw [S_size]; simp; omega), if_pos (by omega), bt_mid _ _ _ _ hi, rmust_f]
    simp only [Option.bind_some]
    cases hm : Oct.must c with
    | true =>
      rw [if_pos rfl, three_f]
      simp only [Option.bind_some]
      rw [if_pos (by simp [nums, Oct.three]; omega), wi]
      have e2 : nums (Oct.escape (pre ++ [c])) = nums (Oct.escape pre) ++ nums (Oct.three c) := by
        rw [Oct.escape_append, Oct.escape_cons, Oct.esc1_yes c hm]
        simp [nums, Oct.escape]
      rw [← e2, e]
      exact h
    | false =>
      rw [if_neg (by simp), if_pos (by simp [nums]; omega), wi]
      have e2 : nums (Oct.escape (pre ++ [c])) = nums (Oct.escape pre) ++ [(c.toNat : Int)] := by
        rw [Oct.escape_append, Oct.escape_cons, Oct.esc1_no c hm]
        simp [nums, Oct.escape]
      rw [← e2, e]
      exact h
theorem refEscape (l : List UInt8) (k : Nat) (hl : l.length ≤ 17592186044416) (hk : l.length < k) : mullionref01_Escape.f k (S l) = some (S (Oct.escape l)) :=
  refLoop l [] k 0 rfl hl hk

theorem ownEscape (l : List UInt8) (hl : l.length ≤ 17592186044416) : octal_Escape.f (S l) = some (S (Oct.escape l)) := by
  unfold octal_Escape.f
  rw [if_pos (by rw [S_size]; omega)]

theorem ownBody (l : List UInt8) (k : Nat) (hl : l.length ≤ 17592186044416) (hk : 1 ≤ k) : octal_EscapeBody.f k (S l) = some (S (Oct.escBody l)) := by
  obtain ⟨k, rfl⟩ : ∃ m, k = m + 1 := ⟨k - 1, by omega⟩
  unfold octal_EscapeBody.f
  cases l with
  | nil =>
    rw [if_pos (by rw [S_toList])]
    simp only [octal_EscapeBody.j0]
    rw [if_neg (by simp), ownEscape _ hl]
    rfl
  | cons c r =>
    have hr : r.length + 1 ≤ 17592186044416 := by simpa using hl
    rw [if_neg (by rw [S_toList]; simp), if_pos (by rw [S_size, List.length_cons]; omega), bt_head]
    simp only [octal_EscapeBody.j0]
    rw [Oct.escBody_cons]
    by_cases hc : c = 37
    · subst hc
      rw [if_pos (by decide), if_pos (by rw [S_size]; simp; omega), S_tail, ownEscape _ (by omega)]
      simp only [Option.bind_some]
      have he := (Oct.escape_len r).2
      rw [if_pos (by rw [S_size]; omega), if_pos trivial]
      exact congrArg some (S_app [92, 48, 52, 53] (Oct.escape r))
    · have hn : ((c.toNat : Int) == 37) = false := by
        rw [beq_eq_false_iff_ne]
        intro h
        exact hc (Oct.ext _ _ (by have : (37 : UInt8).toNat = 37 := rfl; omega))
      rw [hn, if_neg (by simp), ownEscape _ hl, if_neg hc]
      rfl

theorem refBody (l : List UInt8) (k : Nat) (hl : l.length ≤ 17592186044416) (hk : l.length + 1 < k) : mullionref01_EscapeBody.f k (S l) = some (S (Oct.escBody l)) := by
  obtain ⟨k, rfl⟩ : ∃ m, k = m + 1 := ⟨k - 1, by omega⟩
  unfold mullionref01_EscapeBody.f
  cases l with
  | nil =>
    rw [if_neg (by rw [S_size]; simp)]
    simp only [mullionref01_EscapeBody.j0]
    rw [if_neg (by simp), refEscape _ _ hl (by omega)]
    rfl
  | cons c r =>
    have hr : r.length + 1 ≤ 17592186044416 := by simpa using hl
    rw [if_pos (by rw [S_size, List.length_cons]; omega), if_pos (by rw [S_size, List.length_cons]; omega), bt_head]
    simp only [mullionref01_EscapeBody.j0]
    rw [Oct.escBody_cons]
    by_cases hc : c = 37
    · subst hc
      have h3 : mullionref01_three.f 37 = some (nums [92, 48, 52, 53]) := by rw [← Oct.three_pct]; exact three_f 37
      rw [if_pos (by decide), h3]
      simp only [Option.bind_some]
      rw [if_pos (by rw [S_size]; simp; omega), S_tail, refEscape _ _ (by omega) (by simp at hk; omega)]
      simp only [Option.bind_some]
      have he := (Oct.escape_len r).2
      rw [S_nums, if_pos (by rw [S_size, S_size]; simp; omega), if_pos trivial, S_app]
      rfl
    · have hn : ((c.toNat : Int) == 37) = false := by
        rw [beq_eq_false_iff_ne]
        intro h
        exact hc (Oct.ext _ _ (by have : (37 : UInt8).toNat = 37 := rfl; omega))
      rw [hn, if_neg (by simp), refEscape _ _ hl (by omega), if_neg hc]
      rfl

end Go.Proofs.YtgbdeloefdhmlaaDoor.Esc
