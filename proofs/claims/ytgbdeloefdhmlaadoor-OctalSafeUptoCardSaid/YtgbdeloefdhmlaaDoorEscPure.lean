/- The four laws over the escape, as plain statements over the printed functions. Condition: texts of at most 2^40 bytes. -/
import Derived.Test.YtgbdeloefdhmlaaDoorEscFns
import Derived.Test.YtgbdeloefdhmlaaDoorQ2
namespace Go.Proofs.YtgbdeloefdhmlaaDoor.Esc
open Go.RowKit Go.Proofs.YtgbdeloefdhmlaaDoor.Q Go.Proofs.YtgbdeloefdhmlaaDoor.Giv Go.Proofs.YtgbdeloefdhmlaaDoorW.PrintWords Go.Proofs.YtgbdeloefdhmlaaDoorW.PrintLast
set_option linter.unusedVariables false

theorem data_len (s : ByteArray) : s.data.toList.length = s.size := (Lib.size_eq s).symm

theorem pureEscapes (s : ByteArray) (h : s.size ≤ 1099511627776) : ∃ k, mullionlaw01_OctalEscapes.f k s = some true := by
  rw [S_of s]
  have hl : s.data.toList.length ≤ 1099511627776 := by rw [data_len]; exact h
  generalize s.data.toList = l at hl ⊢
  refine ⟨l.length + 2, ?_⟩
  unfold mullionlaw01_OctalEscapes.f
  have e : octal_Escape.f (⟨#[10]⟩ : ByteArray) = some (S [92, 48, 49, 50]) := ownEscape [10] (by simp)
  rw [ownEscape l (by omega), refEscape l _ (by omega) (by omega), ownBody l _ (by omega) (by omega), refBody l _ (by omega) (by omega), e]
  simp only [Option.bind_some, if_true]
  rw [S_toList]
  rfl

theorem pureJoins (s t : ByteArray) (h : s.size + t.size ≤ 1099511627776) : ∃ k, mullionlaw01_OctalJoins.f k s t = some true := by
  rw [S_of s, S_of t]
  have hl : s.data.toList.length + t.data.toList.length ≤ 1099511627776 := by rw [data_len, data_len]; exact h
  generalize s.data.toList = a at hl ⊢
  generalize t.data.toList = b at hl ⊢
  refine ⟨1, ?_⟩
  unfold mullionlaw01_OctalJoins.f
  have e : octal_Escape.f (⟨#[120, 9]⟩ : ByteArray) = some (S [120, 92, 48, 49, 49]) := ownEscape [120, 9] (by simp)
  have la := (Oct.escape_len a).2
  have lb := (Oct.escape_len b).2
  have e2 : (⟨#[37]⟩ : ByteArray) ++ S a = S (37 :: a) := S_app [37] a
  have e3 : (⟨#[92, 48, 52, 53]⟩ : ByteArray) ++ S (Oct.escape a) = S (92 :: 48 :: 52 :: 53 :: Oct.escape a) := S_app [92, 48, 52, 53] _
  rw [if_pos (by rw [S_size, S_size]; omega), S_app, ownEscape _ (by simp; omega), ownEscape a (by omega), ownEscape b (by omega)]
  simp only [Option.bind_some]
  rw [if_pos (by rw [S_size, S_size]; omega), S_app, if_pos (by rw [Oct.escape_append]), if_pos (by rw [S_size]; omega), e2, ownBody _ _ (by simp; omega) (by omega)]
  simp only [Option.bind_some]
  rw [if_pos (by rw [S_size]; omega), e3, Oct.escBody_cons, if_pos rfl, if_pos rfl, e]
  simp only [Option.bind_some]
  have fin : (some ((S [120, 92, 48, 49, 49]).toList == ([120, 92, 48, 49, 49] : List UInt8))) = some true := by rw [S_toList]; rfl
  rw [fin]
  by_cases h0 : ((S a).size : Int) > 0
  · rw [if_pos h0, if_pos (by omega)]
    by_cases h1 : bt (S a) 0 = 37
    · rw [if_pos h1]
    · rw [if_neg h1, ownBody a _ (by omega) (by omega)]
      simp only [Option.bind_some]
      have e4 : Oct.escBody a = Oct.escape a := by
        cases a with
        | nil => rfl
        | cons c r =>
          rw [Oct.escBody_cons, if_neg]
          rintro rfl
          exact h1 (bt_head _ _)
      rw [e4, if_pos rfl]
  · rw [if_neg h0]

theorem pureOne (s t : ByteArray) (h : s.size + t.size ≤ 1099511627776) : ∃ k, mullionlaw01_OctalOne.f k s t = some true := by
  rw [S_of s, S_of t]
  have hl : s.data.toList.length + t.data.toList.length ≤ 1099511627776 := by rw [data_len, data_len]; exact h
  generalize s.data.toList = a at hl ⊢
  generalize t.data.toList = b at hl ⊢
  refine ⟨2, ?_⟩
  unfold mullionlaw01_OctalOne.f
  have e2 : S a ++ (⟨#[120]⟩ : ByteArray) = S (a ++ [120]) := S_app a [120]
  have hne : a ≠ a ++ [120] := by
    intro e
    have := congrArg List.length e
    simp at this
  have rest : mullionlaw01_OctalOne.j0 2 (S a) (S (a ++ [120])) false = some true := by
    simp only [mullionlaw01_OctalOne.j0]
    rw [if_neg (by simp), ownEscape a (by omega), ownEscape (a ++ [120]) (by simp; omega)]
    simp only [Option.bind_some]
    rw [S_toList, S_toList, if_neg (fun e => hne (Oct.escape_inj _ _ e)), ownBody a _ (by omega) (by omega), ownBody (a ++ [120]) _ (by simp; omega) (by omega)]
    simp only [Option.bind_some]
    rw [S_toList, S_toList]
    congr 1
    rw [bne_iff_ne]
    exact fun e => hne (Oct.escBody_inj _ _ e)
  rw [if_pos (by rw [S_size]; omega), e2]
  by_cases hab : (S a).toList = (S b).toList
  · rw [if_pos hab]
    exact rest
  · rw [if_neg hab, ownEscape a (by omega), ownEscape b (by omega)]
    rw [S_toList, S_toList] at hab
    simp only [Option.bind_some]
    rw [S_toList, S_toList, if_neg (fun e => hab (Oct.escape_inj _ _ e)), ownBody a _ (by omega) (by omega), ownBody b _ (by omega) (by omega)]
    simp only [Option.bind_some]
    rw [S_toList, S_toList]
    have e5 : (Oct.escBody a == Oct.escBody b) = false := by
      rw [beq_eq_false_iff_ne]
      exact fun e => hab (Oct.escBody_inj _ _ e)
    rw [e5]
    exact rest

theorem safeLoop1 (suf : List UInt8) : ∀ (pre : List UInt8) (k : Nat) (i : Int), i = pre.length → (pre ++ suf).length ≤ 4398046511104 → suf.length < k → (∀ c ∈ suf, 32 ≤ c.toNat) →
    mullionlaw01_OctalSafe.l1 k (S (pre ++ suf)) i = some true := by
  induction suf with
  | nil =>
    intro pre k i hi hl hk hc
    obtain ⟨k, rfl⟩ : ∃ m, k = m + 1 := ⟨k - 1, by simp at hk; omega⟩
    simp only [mullionlaw01_OctalSafe.l1]
    rw [if_neg (by rw [S_size]; simp; omega)]
  | cons c suf ih =>
    intro pre k i hi hl hk hc
    obtain ⟨k, rfl⟩ : ∃ m, k = m + 1 := ⟨k - 1, by simp at hk; omega⟩
    have hlen : pre.length + (suf.length + 1) ≤ 4398046511104 := by simpa using hl
    have e : pre ++ c :: suf = (pre ++ [c]) ++ suf := by simp
    have wi : wrap64 (i + 1) = i + 1 := by unfold wrap64; omega
    have h := ih (pre ++ [c]) k (i + 1) (by rw [hi]; simp) (by rw [← e]; exact hl) (by simp at hk; omega) (fun d hd => hc d (List.mem_cons_of_mem _ hd))
    have h32 := hc c List.mem_cons_self
    simp only [mullionlaw01_OctalSafe.l1]
    rw [if_pos (by rw [S_size]; simp; omega), if_pos (by omega), bt_mid _ _ _ _ hi, if_neg (by omega), wi, e]
    exact h

theorem want_app (a b : List UInt8) : Oct.want (a ++ b) = Oct.want a + Oct.want b := by
  rw [← Oct.want_len, ← Oct.want_len, ← Oct.want_len, Oct.escape_append, List.length_append]

theorem safeEnd (l : List UInt8) (k : Nat) (n : Int) (hl : l.length ≤ 1099511627776) (hn : n = Oct.want l) (hk : (Oct.escape l).length + 3 ≤ k) :
    ((octal_Escape.f (S l)).bind fun t144 => (if 1 + (S l).size ≤ 9223372036854775807 then ((octal_EscapeBody.f k ((⟨#[37]⟩ : ByteArray) ++ (S l))).bind fun t145 => (if (t144.size : Int) = n then (if (t145.size : Int) = (wrap64 (n + 4)) then (if 0 < (t145.size : Int) then (mullionlaw01_OctalSafe.j1 k t144 ((bt t145 0) == 37)) else (none)) else (mullionlaw01_OctalSafe.j1 k t144 true)) else (mullionlaw01_OctalSafe.j1 k t144 true))) else (none))) = some true := by
  obtain ⟨k, rfl⟩ : ∃ m, k = m + 1 := ⟨k - 1, by omega⟩
  have la := (Oct.escape_len l).2
  have e2 : (⟨#[37]⟩ : ByteArray) ++ S l = S (37 :: l) := S_app [37] l
  have hw := Oct.want_len l
  rw [ownEscape l (by omega)]
  simp only [Option.bind_some]
  rw [if_pos (by rw [S_size]; omega), e2, ownBody _ _ (by simp; omega) (by omega)]
  simp only [Option.bind_some]
  have wn : wrap64 (n + 4) = n + 4 := by unfold wrap64; omega
  rw [Oct.escBody_cons, if_pos rfl, S_size, S_size, if_pos (by omega), wn, if_pos (by simp; omega), if_pos (by simp; omega), bt_head]
  simp only [mullionlaw01_OctalSafe.j1]
  have e92 : (((92 : UInt8).toNat : Int) == 37) = false := by decide
  rw [e92, if_neg (by simp)]
  exact safeLoop1 (Oct.escape l) [] k 0 rfl (by simp; omega) (by omega) (Oct.safe l)

theorem safeLoop0 (suf : List UInt8) : ∀ (pre : List UInt8) (k : Nat) (n i : Int), i = pre.length → n = Oct.want pre + suf.length → (pre ++ suf).length ≤ 1099511627776 → suf.length + (Oct.escape (pre ++ suf)).length + 3 < k →
    mullionlaw01_OctalSafe.l0 k (S (pre ++ suf)) n i = some true := by
  induction suf with
  | nil =>
    intro pre k n i hi hn hl hk
    obtain ⟨k, rfl⟩ : ∃ m, k = m + 1 := ⟨k - 1, by omega⟩
    simp only [mullionlaw01_OctalSafe.l0]
    rw [if_neg (by rw [S_size]; simp; omega)]
    simp only [List.append_nil] at hl hk ⊢
    exact safeEnd pre k n hl (by rw [hn]; simp) (by simp at hk; omega)
  | cons c suf ih =>
    intro pre k n i hi hn hl hk
    obtain ⟨k, rfl⟩ : ∃ m, k = m + 1 := ⟨k - 1, by omega⟩
    have hlen : pre.length + (suf.length + 1) ≤ 1099511627776 := by simpa using hl
    have e : pre ++ c :: suf = (pre ++ [c]) ++ suf := by simp
    have wi : wrap64 (i + 1) = i + 1 := by unfold wrap64; omega
    have hwp := Oct.want_len pre
    have hle := (Oct.escape_len pre).2
    have hc1 : n = Oct.want pre + (suf.length + 1) := by rw [hn]; simp
    have wn : wrap64 (n + 3) = n + 3 := by unfold wrap64; omega
    simp only [mullionlaw01_OctalSafe.l0]
    rw [if_pos (by rw [S_size]; simp; omega), if_pos (by omega), bt_mid _ _ _ _ hi, wi, wn, e]
    rw [e] at hk
    simp only [List.length_cons] at hk
    cases hm : Oct.must c with
    | true =>
      have hw : Oct.want (pre ++ [c]) = Oct.want pre + 4 := by rw [want_app, Oct.want_cons, if_pos hm]; rfl
      have h := ih (pre ++ [c]) k (n + 3) (i + 1) (by rw [hi]; simp) (by rw [hw]; omega) (by rw [← e]; exact hl) (by omega)
      by_cases h32 : (c.toNat : Int) < 32
      · rw [if_pos h32]; exact h
      · have h92 : (c.toNat : Int) = 92 := by
          unfold Oct.must at hm
          simp at hm
          omega
        rw [if_neg h32, if_pos h92]; exact h
    | false =>
      have hw : Oct.want (pre ++ [c]) = Oct.want pre + 1 := by rw [want_app, Oct.want_cons, hm]; rfl
      have h := ih (pre ++ [c]) k n (i + 1) (by rw [hi]; simp) (by rw [hw]; omega) (by rw [← e]; exact hl) (by omega)
      unfold Oct.must at hm
      simp at hm
      rw [if_neg (by omega), if_neg (by omega)]
      exact h

theorem pureSafe (s : ByteArray) (h : s.size ≤ 1099511627776) : ∃ k, mullionlaw01_OctalSafe.f k s = some true := by
  rw [S_of s]
  have hl : s.data.toList.length ≤ 1099511627776 := by rw [data_len]; exact h
  generalize s.data.toList = l at hl ⊢
  refine ⟨l.length + (Oct.escape l).length + 4, ?_⟩
  unfold mullionlaw01_OctalSafe.f
  exact safeLoop0 l [] _ _ 0 rfl (by rw [S_size]; simp [Oct.want]) hl (by simp)

end Go.Proofs.YtgbdeloefdhmlaaDoor.Esc
