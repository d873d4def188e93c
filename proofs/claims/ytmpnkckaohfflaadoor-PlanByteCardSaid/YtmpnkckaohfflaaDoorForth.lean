/- PlanForth's plain law: a text that is read is the text of what was read. No condition. -/
import Derived.Test.YtmpnkckaohfflaaDoorPl2
import Derived.Test.YtmpnkckaohfflaaDoorMa2
namespace Go.Proofs.YtmpnkckaohfflaaDoor.PGiv
open Go.RowKit Go.Proofs.YtmpnkckaohfflaaDoorW.PrintWords Go.Proofs.YtmpnkckaohfflaaDoor.K Go.Proofs.YtmpnkckaohfflaaDoor.Num Go.Proofs.YtmpnkckaohfflaaDoor.Txt Go.Proofs.YtmpnkckaohfflaaDoor.M
set_option linter.unusedVariables false
set_option linter.unusedSimpArgs false

theorem same_l (a b : List S45) (hn : a.length = b.length) (hb : a.length ≤ 1000000) : ∀ (k i : Nat), i ≤ a.length → a.length < k + i → mullionlaw05_same.l0 k a b (i : Int) = some (decide (a.drop i = b.drop i)) := by
  intro k
  induction k with
  | zero => intro i h1 h2; omega
  | succ k ih =>
    intro i h1 h2
    rw [mullionlaw05_same.l0]
    by_cases hi : i < a.length
    · have hi' : i < b.length := by omega
      rw [if_pos (by omega), if_pos (by omega), if_pos (by omega), rd_at a i hi, rd_at b i hi']
      have da : a.drop i = a[i] :: a.drop (i + 1) := List.drop_eq_getElem_cons hi
      have db : b.drop i = b[i] :: b.drop (i + 1) := List.drop_eq_getElem_cons hi'
      have hw : wrap64 ((i : Int) + 1) = ((i + 1 : Nat) : Int) := (IntWalk.wrap64_in _ (by omega)).trans (by omega)
      have hiff : (a.drop i = b.drop i) ↔ (a[i] = b[i] ∧ a.drop (i + 1) = b.drop (i + 1)) := by
        rw [da, db]
        simp only [List.cons.injEq]
      split
      · rename_i h
        have hne : ¬ a.drop i = b.drop i := fun e => by
          rw [(hiff.1 e).1] at h
          simp at h
        simp only [hne, decide_false]
      · rename_i h
        have e := cell_eq (by simpa using h)
        rw [hw, ih (i + 1) (by omega) (by omega)]
        simp only [hiff, e, true_and]
    · rw [if_neg (by omega), List.drop_eq_nil_of_le (by omega), List.drop_eq_nil_of_le (by omega)]
      simp
theorem same_f (a b : List S45) (hb : a.length ≤ 1000000) (k : Nat) (hk : a.length < k) : mullionlaw05_same.f k a b = some (decide (a = b)) := by
  rw [mullionlaw05_same.f]
  by_cases hn : a.length = b.length
  · rw [if_pos (by omega)]
    have := same_l a b hn hb k 0 (by omega) (by omega)
    simpa using this
  · rw [if_neg (by omega)]
    have : ¬ a = b := fun e => hn (by rw [e])
    simp [this]

/-! what must come, whatever is asked -/
theorem num_lit {s : ByteArray} {a E u : Nat} (hE : digEnd (s.size - a) s a = E) (hd : (s.extract a E).data.toList = Lib.decDigits u) (hu : u ≤ 4611686018427387904) : rdNumber s a = some ((u : Int), E) := by
  unfold rdNumber
  rw [hE, hd, numOf_dec u hu]
  rfl
theorem dec80 : Lib.decDigits 80 = [56, 48] := by
  rw [dec_big 80 (by decide), Lib.decDigits_one (by decide)]
  decide
theorem dec24 : Lib.decDigits 24 = [50, 52] := by
  rw [dec_big 24 (by decide), Lib.decDigits_one (by decide)]
  decide
def sureS : ByteArray := ⟨#[56, 48, 120, 50, 52, 44, 48, 44, 48, 44, 49]⟩
theorem sure_body : bodyF sureS = some (some [⟨0, 1, 0, 0, 80, 24, 1⟩]) := by
  have h1 : rdNumber sureS 0 = some (80, 2) := num_lit (u := 80) (by decide) (by rw [dec80]; decide) (by decide)
  have h2 : rdMust sureS 2 120 = some 3 := by decide
  have h3 : rdNumber sureS 3 = some (24, 5) := num_lit (u := 24) (by decide) (by rw [dec24]; decide) (by decide)
  have h4 : rdMust sureS 5 44 = some 6 := by decide
  have h5 : rdNumber sureS 6 = some (0, 7) := num_lit (u := 0) (by decide) (by rw [Lib.decDigits_one (by decide)]; decide) (by decide)
  have h6 : rdMust sureS 7 44 = some 8 := by decide
  have h7 : rdNumber sureS 8 = some (0, 9) := num_lit (u := 0) (by decide) (by rw [Lib.decDigits_one (by decide)]; decide) (by decide)
  have h8 : rdNext sureS 9 = some (44, 10) := by decide
  have h9 : rdNumber sureS 10 = some (1, 11) := num_lit (u := 1) (by decide) (by rw [Lib.decDigits_one (by decide)]; decide) (by decide)
  unfold bodyF
  rw [show (5000 : Nat) = 4999 + 1 from rfl, cellR]
  rw [h1]
  simp only
  rw [h2]
  simp only
  rw [h3]
  simp only
  rw [h4]
  simp only
  rw [h5]
  simp only
  rw [h6]
  simp only
  rw [h7]
  simp only
  rw [h8]
  simp only [if_true]
  rw [h9]
  rfl
theorem sure_read : readF [⟨0, 1, 0, 0, 80, 24, 1⟩] = some (some ⟨1, 80, 24, 1, []⟩) := by kernel_rfl
def sureT : ByteArray := ⟨#[98, 50, 53, 101, 44, 56, 48, 120, 50, 52, 44, 48, 44, 48, 44, 49]⟩
theorem sure_parse : plan_Parse.f sureT = some ([⟨0, 1, 0, 0, 80, 24, 1⟩], 0) := by
  have hex : sureT.extract 5 sureT.size = sureS := by decide
  have hq : (sureT.extract 0 4).toList = (fourT (Sm.sum (By sureS))).toList := by
    rw [toList_by, toList_by]
    decide
  have hck : layout_Check.f [⟨0, 1, 0, 0, 80, 24, 1⟩] = some 0 := by unfold layout_Check.f; rw [sure_read]; rfl
  unfold plan_Parse.f
  rw [if_neg (by decide), dif_neg (by decide), if_neg (by decide), if_neg (by decide), hex, sum_E sureS (by decide)]
  simp only [Option.bind_some]
  rw [four_eq]
  simp only [Option.bind_some]
  rw [if_pos hq]
  unfold tailF
  rw [hex, sure_body]
  simp only [Option.bind_some]
  rw [hck]
  rfl
theorem sure_f (k : Nat) (hk : 2 ≤ k) : mullionlaw05_sure.f k = some true := by
  have hT : plan_Text.f [⟨0, 1, 0, 0, 80, 24, 1⟩] = some (sureT, 0) := by
    rcases parse_cases sureT with ⟨e, _, h⟩ | ⟨L, h, ht, _⟩
    · rw [sure_parse] at h
      simp at h
    · rw [sure_parse] at h
      obtain ⟨h1, _⟩ := Prod.mk.inj (Option.some.inj h)
      rw [h1]
      exact ht
  unfold mullionlaw05_sure.f
  simp only [Option.bind_some]
  rw [hT]
  simp only [Option.bind_some]
  rw [show (⟨#[98, 50, 53, 101, 44, 56, 48, 120, 50, 52, 44, 48, 44, 48, 44, 49]⟩ : ByteArray) = sureT from rfl, sure_parse]
  simp only [Option.bind_some]
  rw [if_pos (by rw [toList_by]; rfl), if_pos trivial, same_f _ _ (by simp) k (by simp; omega)]
  simp
theorem forth_f (k : Nat) (hk : 2 ≤ k) (s : ByteArray) : mullionlaw05_PlanForth.f k s = some true := by
  unfold mullionlaw05_PlanForth.f
  rcases parse_cases s with ⟨e, he, h⟩ | ⟨L, h, ht, hck⟩
  · rw [h]
    simp only [Option.bind_some]
    rw [if_neg he, if_pos (by simp), sure_f k hk]
    rfl
  · rw [h]
    simp only [Option.bind_some]
    rw [if_pos trivial, ht]
    simp only [Option.bind_some]
    rw [if_pos trivial, if_pos trivial, hck]
    simp only [Option.bind_some]
    rw [if_pos trivial, sure_f k hk]
    rfl
theorem pureForth (s : ByteArray) (h : s.size ≤ 140737488351232) : ∃ k, mullionlaw05_PlanForth.f k s = some true := ⟨2, forth_f 2 (by omega) s⟩
end Go.Proofs.YtmpnkckaohfflaaDoor.PGiv
