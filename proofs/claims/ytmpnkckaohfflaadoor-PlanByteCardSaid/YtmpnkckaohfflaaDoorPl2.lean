/- Parse and Text: what a text that is read is the text of. Plain, no program. No condition. -/
import Derived.Test.YtmpnkckaohfflaaDoorPl1
import Derived.Test.YtmpnkckaohfflaaDoorSumE
import Derived.Laws.BitsLemmas
namespace Go.Proofs.YtmpnkckaohfflaaDoor.PGiv
open Go.RowKit Go.Proofs.YtmpnkckaohfflaaDoorW.PrintWords Go.Proofs.YtmpnkckaohfflaaDoor.K Go.Proofs.YtmpnkckaohfflaaDoor.Num Go.Proofs.YtmpnkckaohfflaaDoor.Txt
set_option linter.unusedVariables false
set_option linter.unusedSimpArgs false

theorem grow_some : ∀ k, (∀ l d, l ≠ [] → 2 * l.length ≤ k → ∃ r, growF k l d = some r) ∧ (∀ c d kids sum l, 2 * l.length + 1 ≤ k → ∃ r, growL k c d kids sum l = some r) := by
  intro k
  induction k with
  | zero =>
    refine ⟨fun l d h1 h2 => ?_, fun c d kids sum l h => by omega⟩
    cases l with
    | nil => exact absurd rfl h1
    | cons x r => simp at h2
  | succ k ih =>
    obtain ⟨ih1, ih2⟩ := ih
    constructor
    · intro l d h1 h2
      cases l with
      | nil => exact absurd rfl h1
      | cons c r =>
        rw [growF]
        split
        · exact ⟨_, rfl⟩
        · exact ih2 _ _ _ _ _ (by simp at h2; omega)
    · intro c d kids sum l h
      have tail : ∀ (l : List S45), ∃ r, (if kids.length < 2 then some none else if sum = ext c.f1 c.f4 c.f5 then some (some ((⟨c.f1, c.f4, c.f5, 0, kids⟩ : Tr), l)) else some none) = some r := by
        intro l
        split
        · exact ⟨_, rfl⟩
        · split <;> exact ⟨_, rfl⟩
      cases l with
      | nil =>
        rw [growL, if_neg (by simp)]
        exact tail []
      | cons x r =>
        rw [growL]
        split
        · split
          · exact ⟨_, rfl⟩
          · obtain ⟨g, hg⟩ := ih1 (x :: r) (wrap64 (d + 1)) (by simp) (by simp at h ⊢; omega)
            rw [hg]
            cases g with
            | none => exact ⟨_, rfl⟩
            | some tr =>
              obtain ⟨t', rest'⟩ := tr
              have h1 := (grow_cnt k).1 _ _ _ _ hg
              have h2 := cntT_pos t'
              simp only [Option.bind_some]
              split
              · exact ih2 _ _ _ _ _ (by simp at h h1; omega)
              · exact ⟨_, rfl⟩
        · exact tail (x :: r)
theorem read_some (L : List S45) : ∃ r, readF L = some r := by
  cases L with
  | nil => exact ⟨_, rfl⟩
  | cons c l =>
    rw [readF]
    split
    · exact ⟨_, rfl⟩
    rename_i h64
    split
    · exact ⟨_, rfl⟩
    split
    · exact ⟨_, rfl⟩
    cases hs : seenF (c :: l) [] with
    | none => exact ⟨_, rfl⟩
    | some S =>
      simp only
      split
      · exact ⟨_, rfl⟩
      obtain ⟨g, hg⟩ := (grow_some 1000).1 (c :: l) 0 (by simp) (by omega)
      rw [hg]
      cases g with
      | none => exact ⟨_, rfl⟩
      | some tr =>
        obtain ⟨t, rest⟩ := tr
        simp only [Option.bind_some]
        split
        · exact ⟨_, rfl⟩
        · split <;> exact ⟨_, rfl⟩
theorem rd_mono : ∀ k, (∀ s a L d L' a', cellR k s a L d = some (some (L', a')) → a ≤ s.size → a < a' ∧ a' ≤ s.size) ∧ (∀ s a L d sh L' a', loopR k s a L d sh = some (some (L', a')) → a ≤ s.size → a < a' ∧ a' ≤ s.size) := by
  intro k
  induction k with
  | zero => exact ⟨fun s a L d L' a' h => by simp [cellR] at h, fun s a L d sh L' a' h => by simp [loopR] at h⟩
  | succ k ih =>
    obtain ⟨ih1, ih2⟩ := ih
    constructor
    · intro s a L d L' a' h ha
      rw [cellR] at h
      split at h
      · simp at h
      rename_i W a1 h1
      have l1 := number_le ha h1
      split at h
      · simp at h
      rename_i a2 h2
      have l2 := must_le h2
      split at h
      · simp at h
      rename_i H a3 h3
      have l3 := number_le l2.2 h3
      split at h
      · simp at h
      rename_i a4 h4
      have l4 := must_le h4
      split at h
      · simp at h
      rename_i X a5 h5
      have l5 := number_le l4.2 h5
      split at h
      · simp at h
      rename_i a6 h6
      have l6 := must_le h6
      split at h
      · simp at h
      rename_i Y a7 h7
      have l7 := number_le l6.2 h7
      split at h
      · simp at h
      rename_i c a8 h8
      have l8 := next_le h8
      split at h
      · split at h
        · simp at h
        · rename_i q a9 h9
          have l9 := number_le l8.2 h9
          simp only [Option.some.injEq, Prod.mk.injEq] at h
          obtain ⟨rfl, rfl⟩ := h
          omega
      · split at h
        · have := ih2 _ _ _ _ _ _ _ h l8.2
          omega
        · split at h
          · have := ih2 _ _ _ _ _ _ _ h l8.2
            omega
          · simp at h
    · intro s a L d sh L' a' h ha
      rw [loopR] at h
      obtain ⟨r, hr, h⟩ := Option.bind_eq_some_iff.1 h
      split at h
      · simp at h
      rename_i L1 b1
      have h1 := ih1 _ _ _ _ _ _ hr ha
      split at h
      · simp at h
      rename_i c b2 h2
      have l2 := next_le h2
      split at h
      · simp only [Option.some.injEq, Prod.mk.injEq] at h
        obtain ⟨rfl, rfl⟩ := h
        omega
      · split at h
        · have := ih2 _ _ _ _ _ _ _ h l2.2
          omega
        · simp at h
theorem rd_some : ∀ k, (∀ s a L d, a ≤ s.size → 2 * (s.size - a) + 2 ≤ k → ∃ r, cellR k s a L d = some r) ∧ (∀ s a L d sh, a ≤ s.size → 2 * (s.size - a) + 3 ≤ k → ∃ r, loopR k s a L d sh = some r) := by
  intro k
  induction k with
  | zero => exact ⟨fun s a L d _ h => by omega, fun s a L d sh _ h => by omega⟩
  | succ k ih =>
    obtain ⟨ih1, ih2⟩ := ih
    constructor
    · intro s a L d ha hk
      rw [cellR]
      split
      · exact ⟨_, rfl⟩
      rename_i W a1 h1
      have l1 := number_le ha h1
      split
      · exact ⟨_, rfl⟩
      rename_i a2 h2
      have l2 := must_le h2
      split
      · exact ⟨_, rfl⟩
      rename_i H a3 h3
      have l3 := number_le l2.2 h3
      split
      · exact ⟨_, rfl⟩
      rename_i a4 h4
      have l4 := must_le h4
      split
      · exact ⟨_, rfl⟩
      rename_i X a5 h5
      have l5 := number_le l4.2 h5
      split
      · exact ⟨_, rfl⟩
      rename_i a6 h6
      have l6 := must_le h6
      split
      · exact ⟨_, rfl⟩
      rename_i Y a7 h7
      have l7 := number_le l6.2 h7
      split
      · exact ⟨_, rfl⟩
      rename_i c a8 h8
      have l8 := next_le h8
      split
      · split <;> exact ⟨_, rfl⟩
      · split
        · exact ih2 _ _ _ _ _ l8.2 (by omega)
        · split
          · exact ih2 _ _ _ _ _ l8.2 (by omega)
          · exact ⟨_, rfl⟩
    · intro s a L d sh ha hk
      rw [loopR]
      obtain ⟨r, hr⟩ := ih1 s a L (wrap64 (d + 1)) ha (by omega)
      rw [hr]
      simp only [Option.bind_some]
      split
      · exact ⟨_, rfl⟩
      rename_i L1 b1
      have h1 := (rd_mono k).1 _ _ _ _ _ _ hr ha
      split
      · exact ⟨_, rfl⟩
      rename_i c b2 h2
      have l2 := next_le h2
      split
      · exact ⟨_, rfl⟩
      · split
        · exact ih2 _ _ _ _ _ l2.2 (by omega)
        · exact ⟨_, rfl⟩
theorem body_some (s : ByteArray) (h : s.size ≤ 2400) : ∃ r, bodyF s = some r := by
  obtain ⟨r, hr⟩ := (rd_some 5000).1 s 0 [] 0 (by omega) (by omega)
  unfold bodyF
  rw [hr]
  simp only [Option.bind_some]
  cases r with
  | none => exact ⟨_, rfl⟩
  | some p =>
    obtain ⟨L, a⟩ := p
    simp only
    split <;> exact ⟨_, rfl⟩
theorem i64_and15 (n : Int) : Go.bits .and .i64 n 15 = n % 16 := by
  have h15 : (BitVec.ofInt 64 15).toNat = 2 ^ 4 - 1 := by decide
  have key : (BitVec.ofInt 64 n &&& BitVec.ofInt 64 15).toNat = (n % ((2 ^ 64 : Nat) : Int)).toNat % 2 ^ 4 := by
    rw [BitVec.toNat_and, BitVec.toNat_ofInt, h15, Nat.and_two_pow_sub_one_eq_mod]
  show IntKind.i64.wrap ((BitVec.ofInt 64 n &&& BitVec.ofInt 64 15).toNat : Nat) = n % 16
  rw [key, IntKind.wrap_i64]
  omega
def fourT (n : Int) : ByteArray := strOfNums [bt hexD (n / 4096 % 16), bt hexD (n / 256 % 16), bt hexD (n / 16 % 16), bt hexD (n % 16)]
theorem fourT_size (n : Int) : (fourT n).size = 4 := strOfNums_size _
theorem four_eq (n : Int) : E.plan_four.f n = some (fourT n) := by
  unfold E.plan_four.f
  rw [i64_and15, i64_and15, i64_and15, i64_and15, if_pos (by omega), if_pos (by omega), if_pos (by omega), if_pos (by omega), if_pos (by omega), if_pos (by omega), if_pos (by omega), if_pos (by omega)]
  rfl
theorem sum_E (s : ByteArray) (h : s.size ≤ 100000) : E.plan_Sum.f 200000 s = some (Sm.sum (By s)) := Sm.sum_f (By s) 200000 (by rw [by_len]; omega) (by rw [by_len]; omega)

theorem by_ext {a b : ByteArray} (h : By a = By b) : a = b := (S_of a).trans ((congrArg S h).trans (S_of b).symm)
theorem by_app (a b : ByteArray) : By (a ++ b) = By a ++ By b := by simp [By]
theorem toList_by (s : ByteArray) : s.toList = By s := Lib.toList_data s
theorem by_S (l : List UInt8) : By ⟨l.toArray⟩ = l := rfl
theorem seg_all (B : List UInt8) : seg B 0 B.length = B := by simp [seg]
/-- a text, in three -/
theorem cut_text {s : ByteArray} (h : 4 < s.size) (h4 : s[4]'h = 44) : By s = By (s.extract 0 4) ++ [44] ++ By (s.extract 5 s.size) := by
  show By s = (s.extract 0 4).data.toList ++ [44] ++ (s.extract 5 s.size).data.toList
  rw [seg_extract, seg_extract]
  have e := seg_one (By s) (a := 4) (by rw [by_len]; exact h)
  have e4 : (By s)[4]'(by rw [by_len]; exact h) = s[4]'h := rfl
  rw [e4, h4] at e
  rw [← e, seg_app _ (by omega) (by omega), seg_app _ (by omega) (by omega)]
  exact (seg_all (By s)).symm
theorem read_len {L : List S45} {t : Tr} (h : readF L = some (some t)) : L.length ≤ 64 ∧ layT t 0 0 0 = L ∧ ∃ rest, growF 1000 L 0 = some (some (t, rest)) ∧ rest = [] := by
  cases L with
  | nil => simp [readF] at h
  | cons c l =>
    rw [readF] at h
    split at h
    · simp at h
    rename_i h64
    split at h
    · simp at h
    split at h
    · simp at h
    cases hs : seenF (c :: l) [] with
    | none => rw [hs] at h; simp at h
    | some S =>
      rw [hs] at h
      simp only at h
      split at h
      · simp at h
      obtain ⟨g, hg, h⟩ := Option.bind_eq_some_iff.1 h
      cases g with
      | none => simp at h
      | some tr =>
        obtain ⟨t', rest⟩ := tr
        simp only at h
        split at h
        · simp at h
        · rename_i hr
          split at h
          · rename_i hl
            simp only [Option.some.injEq] at h
            subst h
            exact ⟨by omega, hl, rest, hg, List.length_eq_zero_iff.1 (by omega)⟩
          · simp at h
/-- the text of a list that is a layout: its sum and its body -/
theorem text_of {L : List S45} {t : Tr} {B : List UInt8} {j : Nat} (hr : readF L = some (some t)) (hc : cellF 1000 L 0 = some (B, j)) (hok : ∀ c ∈ L, okC c) (hB : B ≠ []) (hl : B.length ≤ 100000) : plan_Text.f L = some (fourT (Sm.sum B) ++ (⟨#[44]⟩ : ByteArray) ++ ⟨B.toArray⟩, 0) := by
  unfold plan_Text.f
  rw [hr]
  simp only [Option.bind_some, Option.isSome_some, if_true]
  unfold textF
  rw [hc]
  simp only [Option.bind_some]
  rw [sum_E ⟨B.toArray⟩ hl]
  simp only [Option.bind_some]
  rw [four_eq]
  simp only [Option.bind_some]
  rw [if_pos ⟨hok, by have := (read_len hr).1; omega, hB, hl, by show (fourT _).size ≤ 1000; rw [fourT_size]; omega⟩]
  rfl
theorem parse_cases (s : ByteArray) : (∃ e : Int, e ≠ 0 ∧ plan_Parse.f s = some ([], e)) ∨ (∃ L, plan_Parse.f s = some (L, 0) ∧ plan_Text.f L = some (s, 0) ∧ layout_Check.f L = some 0) := by
  unfold plan_Parse.f
  split
  · exact .inl ⟨2, by decide, rfl⟩
  rename_i h1
  split
  · exact .inl ⟨50, by decide, rfl⟩
  rename_i h2
  split
  · exact .inl ⟨50, by decide, rfl⟩
  rename_i h3
  have h5 : 4 < s.size := by omega
  have h4 : s[4]'h5 = 44 := Classical.not_not.1 h3
  split
  · exact .inl ⟨50, by decide, rfl⟩
  have hsz : (s.extract 5 s.size).size ≤ 2043 := by rw [ByteArray.size_extract]; omega
  rw [sum_E _ (by omega)]
  simp only [Option.bind_some]
  rw [four_eq]
  simp only [Option.bind_some]
  split
  · rename_i hq
    obtain ⟨r, hr⟩ := body_some (s.extract 5 s.size) (by omega)
    unfold tailF
    rw [hr]
    simp only [Option.bind_some]
    cases r with
    | none => exact .inl ⟨50, by decide, rfl⟩
    | some L =>
      obtain ⟨rr, hrr⟩ := read_some L
      cases rr with
      | none =>
        have hck : layout_Check.f L = some 40 := by unfold layout_Check.f; rw [hrr]; rfl
        simp only
        rw [hck]
        exact .inl ⟨40, by decide, rfl⟩
      | some t =>
        have hck : layout_Check.f L = some 0 := by unfold layout_Check.f; rw [hrr]; rfl
        simp only
        rw [hck]
        refine .inr ⟨L, rfl, ?_, hck⟩
        obtain ⟨p, hp, hpr⟩ := Option.bind_eq_some_iff.1 hr
        cases p with
        | none => simp at hpr
        | some p =>
          obtain ⟨L2, a⟩ := p
          simp only at hpr
          split at hpr
          · rename_i ha
            obtain rfl := Option.some.inj (Option.some.inj hpr)
            subst ha
            obtain ⟨C, hC, G⟩ := (good_read 5000).1 _ 0 [] 0 _ _ (by omega) (by omega) (by omega) (by omega) hp
            rw [List.nil_append] at hC
            subst hC
            have hlen := (read_len hrr).1
            have hg := G.txt 1000 [] [] (by omega) (by simp)
            simp only [List.nil_append, List.append_nil, List.length_nil] at hg
            have hall : seg (By (s.extract 5 s.size)) 0 (s.extract 5 s.size).size = By (s.extract 5 s.size) := seg_all _
            rw [hall] at hg
            have hpos := G.lt
            have hne : By (s.extract 5 s.size) ≠ [] := fun e => by
              have h0 : (By (s.extract 5 s.size)).length = 0 := by rw [e]; rfl
              rw [by_len] at h0
              omega
            rw [text_of hrr hg G.ok hne (by rw [by_len]; omega)]
            rw [toList_by, toList_by] at hq
            generalize fourT (Sm.sum (By (s.extract 5 s.size))) = q at hq ⊢
            have hfin : q ++ (⟨#[44]⟩ : ByteArray) ++ ⟨(By (s.extract 5 s.size)).toArray⟩ = s := by
              apply by_ext
              rw [by_app, by_app, by_S, cut_text h5 h4, hq]
            rw [hfin]
          · simp at hpr
  · exact .inl ⟨51, by decide, rfl⟩
end Go.Proofs.YtmpnkckaohfflaaDoor.PGiv
