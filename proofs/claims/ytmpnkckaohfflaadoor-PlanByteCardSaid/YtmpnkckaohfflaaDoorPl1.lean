/- What the reader reads is the text of its cells. Plain lists, no program. Condition: the text has at most a million bytes. -/
import Derived.Test.YtmpnkckaohfflaaDoorGivPlan
import Derived.Test.YtmpnkckaohfflaaDoorNumPlain
namespace Go.Proofs.YtmpnkckaohfflaaDoor.PGiv
open Go.RowKit Go.Proofs.YtmpnkckaohfflaaDoor.K Go.Proofs.YtmpnkckaohfflaaDoor.Num
set_option linter.unusedVariables false
set_option linter.unusedSimpArgs false

def seg (B : List UInt8) (a b : Nat) : List UInt8 := (B.drop a).take (b - a)
theorem seg_app (B : List UInt8) {a b c : Nat} (h1 : a ≤ b) (h2 : b ≤ c) : seg B a b ++ seg B b c = seg B a c := by
  unfold seg
  have e : B.drop b = (B.drop a).drop (b - a) := by rw [List.drop_drop]; congr 1; omega
  rw [e, show c - a = (b - a) + (c - b) by omega, List.take_add]
theorem seg_one (B : List UInt8) {a : Nat} (h : a < B.length) : seg B a (a + 1) = [B[a]] := by
  unfold seg
  rw [show a + 1 - a = 1 by omega, List.drop_eq_getElem_cons h]
  rfl
theorem seg_extract (s : ByteArray) (a b : Nat) : (s.extract a b).data.toList = seg s.data.toList a b := by
  unfold seg
  rw [ByteArray.data_extract, Array.toList_extract, List.extract_eq_take_drop]
abbrev By (s : ByteArray) : List UInt8 := s.data.toList
theorem by_len (s : ByteArray) : (By s).length = s.size := rfl
theorem next_seg {s : ByteArray} {a a' : Nat} {c : UInt8} (h : rdNext s a = some (c, a')) : a' = a + 1 ∧ a < s.size ∧ seg (By s) a a' = [c] := by
  unfold rdNext at h
  split at h
  · rename_i ha
    obtain ⟨rfl, rfl⟩ := Prod.mk.inj (Option.some.inj h)
    exact ⟨rfl, ha, seg_one _ (by rw [by_len]; exact ha)⟩
  · cases h
theorem must_seg {s : ByteArray} {a a' : Nat} {c : UInt8} (h : rdMust s a c = some a') : a' = a + 1 ∧ a < s.size ∧ seg (By s) a a' = [c] := by
  unfold rdMust at h
  split at h
  · cases h
  · rename_i d a1 h1
    split at h
    · rename_i hd
      obtain rfl := Option.some.inj h
      subst hd
      exact next_seg h1
    · cases h
theorem number_seg {s : ByteArray} {a a' : Nat} {n : Int} (ha : a ≤ s.size) (h : rdNumber s a = some (n, a')) : a < a' ∧ a' ≤ s.size ∧ seg (By s) a a' = putNum n ∧ 0 ≤ n ∧ n ≤ 4611686018427387904 := by
  have hl := number_le ha h
  unfold rdNumber at h
  split at h
  · rename_i hn
    obtain ⟨rfl, rfl⟩ := Prod.mk.inj (Option.some.inj h)
    rw [seg_extract] at hn ⊢
    rcases numOf_cases (seg (By s) a (digEnd (s.size - a) s a)) with ⟨u, hu, hd, hq⟩ | hq
    · rw [hq]
      refine ⟨?_, hl.2, by rw [putNum_nat u hu]; exact hd, by simp, by simp; omega⟩
      rcases Nat.lt_or_ge a (digEnd (s.size - a) s a) with h' | h'
      · exact h'
      · exfalso
        have e : digEnd (s.size - a) s a - a = 0 := by omega
        have : seg (By s) a (digEnd (s.size - a) s a) = [] := by unfold seg; rw [e]; rfl
        rw [this] at hd
        exact dec_ne u hd.symm
    · rw [hq] at hn
      cases hn
  · cases h

structure GoodC (s : ByteArray) (a a' : Nat) (d : Int) (C : List S45) : Prop where
  head : ∃ x r, C = x :: r ∧ x.f0 = d ∧ ∀ y ∈ r, d < y.f0
  ok : ∀ x ∈ C, okC x
  lt : a < a'
  le : a' ≤ s.size
  txt : ∀ (F : Nat) (P Q : List S45), 2 * C.length ≤ F → (∀ y, Q.head? = some y → y.f0 ≤ d) → cellF F (P ++ C ++ Q) P.length = some (seg (By s) a a', P.length + C.length)
structure GoodL (s : ByteArray) (a a' : Nat) (d : Int) (sh : UInt8) (C : List S45) : Prop where
  head : ∃ x r, C = x :: r ∧ x.f0 = d + 1
  deep : ∀ y ∈ C, d < y.f0
  ok : ∀ x ∈ C, okC x
  lt : a < a'
  le : a' ≤ s.size
  txt : ∃ body, seg (By s) a a' = body ++ [sh] ∧ ∀ (F : Nat) (P Q : List S45) (first : Bool), 2 * C.length + 1 ≤ F → (∀ y, Q.head? = some y → y.f0 ≤ d) → cellL F (P ++ C ++ Q) d first P.length = some ((if first then [] else [44]) ++ body, P.length + C.length)

theorem at_head (P Q : List S45) (x : S45) (r : List S45) : (P ++ (x :: r) ++ Q)[P.length]? = some x := by simp
theorem at_end (P C Q : List S45) : (P ++ C ++ Q)[P.length + C.length]? = Q.head? := by
  rw [List.getElem?_append_right (by simp), List.length_append, Nat.sub_self]
  cases Q <;> rfl
theorem cellL_end {F : Nat} {P C Q : List S45} {d : Int} {first : Bool} (hF : 0 < F) (hQ : ∀ y, Q.head? = some y → y.f0 ≤ d) : cellL F (P ++ C ++ Q) d first (P.length + C.length) = some ([], P.length + C.length) := by
  obtain ⟨F, rfl⟩ : ∃ m, F = m + 1 := ⟨F - 1, by omega⟩
  rw [cellL, at_end]
  cases h : Q.head? with
  | none => rfl
  | some y =>
    have := hQ y h
    simp only
    rw [if_neg (by omega)]
theorem good_read : ∀ k, (∀ (s : ByteArray) (a : Nat) (L : List S45) (d : Int) (L' : List S45) (a' : Nat), s.size ≤ 1000000 → 0 ≤ d → d ≤ a → a ≤ s.size → cellR k s a L d = some (some (L', a')) → ∃ C, L' = L ++ C ∧ GoodC s a a' d C) ∧
    (∀ (s : ByteArray) (a : Nat) (L : List S45) (d : Int) (sh : UInt8) (L' : List S45) (a' : Nat), s.size ≤ 1000000 → 0 ≤ d → d + 1 ≤ a → a ≤ s.size → loopR k s a L d sh = some (some (L', a')) → ∃ C, L' = L ++ C ∧ GoodL s a a' d sh C) := by
  intro k
  induction k with
  | zero => exact ⟨fun s a L d L' a' _ _ _ _ h => by simp [cellR] at h, fun s a L d sh L' a' _ _ _ _ h => by simp [loopR] at h⟩
  | succ k ih =>
    obtain ⟨ih1, ih2⟩ := ih
    constructor
    · intro s a L d L' a' hs hd hda ha h
      rw [cellR] at h
      split at h
      · simp at h
      rename_i W a1 h1
      obtain ⟨l1, m1, t1, p1, q1⟩ := number_seg ha h1
      split at h
      · simp at h
      rename_i a2 h2
      obtain ⟨l2, m2, t2⟩ := must_seg h2
      split at h
      · simp at h
      rename_i H a3 h3
      obtain ⟨l3, m3, t3, p3, q3⟩ := number_seg (by omega) h3
      split at h
      · simp at h
      rename_i a4 h4
      obtain ⟨l4, m4, t4⟩ := must_seg h4
      split at h
      · simp at h
      rename_i X a5 h5
      obtain ⟨l5, m5, t5, p5, q5⟩ := number_seg (by omega) h5
      split at h
      · simp at h
      rename_i a6 h6
      obtain ⟨l6, m6, t6⟩ := must_seg h6
      split at h
      · simp at h
      rename_i Y a7 h7
      obtain ⟨l7, m7, t7, p7, q7⟩ := number_seg (by omega) h7
      split at h
      · simp at h
      rename_i c a8 h8
      obtain ⟨l8, m8, t8⟩ := next_seg h8
      have hhead : ∀ kd q, seg (By s) a a7 = headT ⟨d, kd, X, Y, W, H, q⟩ := fun kd q => by
        show _ = putNum W ++ [120] ++ putNum H ++ [44] ++ putNum X ++ [44] ++ putNum Y
        have e : seg (By s) a a1 ++ seg (By s) a1 a2 ++ seg (By s) a2 a3 ++ seg (By s) a3 a4 ++ seg (By s) a4 a5 ++ seg (By s) a5 a6 ++ seg (By s) a6 a7 = seg (By s) a a7 := by
          rw [seg_app _ (by omega) (by omega), seg_app _ (by omega) (by omega), seg_app _ (by omega) (by omega), seg_app _ (by omega) (by omega), seg_app _ (by omega) (by omega), seg_app _ (by omega) (by omega)]
        rw [t1, t2, t3, t4, t5, t6, t7] at e
        exact e.symm
      have hok : ∀ kd q, 0 ≤ q → q ≤ 4611686018427387904 → okC ⟨d, kd, X, Y, W, H, q⟩ := fun kd q h0 h1 => ⟨⟨by show _ ≤ X; omega, by show X ≤ _; omega⟩, ⟨by show _ ≤ Y; omega, by show Y ≤ _; omega⟩, ⟨by show _ ≤ W; omega, by show W ≤ _; omega⟩, ⟨by show _ ≤ H; omega, by show H ≤ _; omega⟩, ⟨by show _ ≤ q; omega, by show q ≤ _; omega⟩⟩
      have hloop : ∀ (kd : Int) (op sh : UInt8), kd ≠ 1 → c = op → (if kd = 3 then (91 : UInt8) else 123) = op → (if kd = 3 then (93 : UInt8) else 125) = sh → loopR k s a8 (L ++ [⟨d, kd, X, Y, W, H, 0⟩]) d sh = some (some (L', a')) → ∃ C, L' = L ++ C ∧ GoodC s a a' d C := by
        intro kd op sh hk1 hc hop hsh hl
        obtain ⟨C, rfl, G⟩ := ih2 s a8 _ d sh L' a' hs hd (by omega) (by omega) hl
        obtain ⟨body, hb, ht⟩ := G.txt
        have hlt := G.lt
        refine ⟨⟨d, kd, X, Y, W, H, 0⟩ :: C, by simp, ⟨⟨_, _, rfl, rfl, G.deep⟩, ?_, by omega, G.le, ?_⟩⟩
        · intro x hx
          rcases List.mem_cons.1 hx with rfl | hx
          · exact hok kd 0 (by omega) (by omega)
          · exact G.ok x hx
        · intro F P Q hF hQ
          obtain ⟨F, rfl⟩ : ∃ m, F = m + 1 := ⟨F - 1, by simp at hF; omega⟩
          rw [cellF, at_head]
          simp only
          rw [if_neg hk1]
          have e : P ++ (⟨d, kd, X, Y, W, H, 0⟩ : S45) :: C ++ Q = (P ++ [⟨d, kd, X, Y, W, H, 0⟩]) ++ C ++ Q := by simp
          have el : P.length + 1 = (P ++ [(⟨d, kd, X, Y, W, H, 0⟩ : S45)]).length := by simp
          rw [e, el, ht F _ Q true (by simp at hF; omega) hQ]
          simp only [Option.map_some, if_true, List.nil_append, Option.some.injEq, Prod.mk.injEq]
          refine ⟨?_, by simp; omega⟩
          rw [hop, hsh, ← hhead kd 0, ← hc, ← t8, List.append_assoc, ← hb, seg_app _ (by omega) (by omega), seg_app _ (by omega) (by omega)]
      split at h
      · rename_i hc
        split at h
        · simp at h
        · rename_i q a9 h9
          obtain ⟨l9, m9, t9, p9, q9⟩ := number_seg (by omega) h9
          simp only [Option.some.injEq, Prod.mk.injEq] at h
          obtain ⟨rfl, rfl⟩ := h
          refine ⟨[⟨d, 1, X, Y, W, H, q⟩], rfl, ⟨⟨_, [], rfl, rfl, by simp⟩, ?_, by omega, m9, ?_⟩⟩
          · intro x hx
            rw [List.mem_singleton] at hx
            subst hx
            exact hok 1 q p9 q9
          · intro F P Q hF hQ
            obtain ⟨F, rfl⟩ : ∃ m, F = m + 1 := ⟨F - 1, by simp at hF; omega⟩
            rw [cellF, at_head]
            simp only [if_true, Option.some.injEq, Prod.mk.injEq]
            refine ⟨?_, by simp⟩
            have e8 : [44] = seg (By s) a7 a8 := by rw [t8, hc]
            rw [← hhead 1 q, e8, ← t9, seg_app _ (by omega) (by omega), seg_app _ (by omega) (by omega)]
      · split at h
        · rename_i hc
          exact hloop 2 123 125 (by omega) hc rfl rfl h
        · split at h
          · rename_i hc
            exact hloop 3 91 93 (by omega) hc rfl rfl h
          · simp at h
    · intro s a L d sh L' a' hs hd hda ha h
      rw [loopR] at h
      obtain ⟨r, hr, h⟩ := Option.bind_eq_some_iff.1 h
      have hw : wrap64 (d + 1) = d + 1 := IntWalk.wrap64_in _ (by omega)
      split at h
      · simp at h
      rename_i L1 b1
      rw [hw] at hr
      obtain ⟨C1, rfl, G1⟩ := ih1 s a L (d + 1) L1 b1 hs (by omega) hda ha hr
      have lt1 := G1.lt
      have le1 := G1.le
      obtain ⟨x1, r1, hC1, hx1, hr1⟩ := G1.head
      have len1 : 1 ≤ C1.length := by rw [hC1]; simp
      have deep1 : ∀ y ∈ C1, d < y.f0 := by
        intro y hy
        rw [hC1] at hy
        rcases List.mem_cons.1 hy with rfl | hy
        · omega
        · have := hr1 y hy
          omega
      split at h
      · simp at h
      rename_i c b2 h2
      obtain ⟨l2, m2, t2⟩ := next_seg h2
      split at h
      · rename_i hc
        simp only [Option.some.injEq, Prod.mk.injEq] at h
        obtain ⟨rfl, rfl⟩ := h
        refine ⟨C1, rfl, ⟨⟨x1, r1, hC1, hx1⟩, deep1, G1.ok, by omega, by omega, seg (By s) a b1, ?_, ?_⟩⟩
        · rw [← hc, ← t2, seg_app _ (by omega) (by omega)]
        · intro F P Q first hF hQ
          obtain ⟨F, rfl⟩ : ∃ m, F = m + 1 := ⟨F - 1, by omega⟩
          have hg := G1.txt F P Q (by omega) (fun y hy => by have := hQ y hy; omega)
          rw [cellL, hC1, at_head]
          simp only
          rw [if_pos (by omega), ← hC1, hg]
          simp only [Option.bind_some]
          rw [cellL_end (by omega) hQ]
          simp
      · split at h
        · rename_i hc
          obtain ⟨C2, rfl, G2⟩ := ih2 s b2 _ d sh L' a' hs hd (by omega) (by omega) h
          obtain ⟨x2, r2, hC2, hx2⟩ := G2.head
          obtain ⟨body2, hb2, ht2⟩ := G2.txt
          have lt2 := G2.lt
          refine ⟨C1 ++ C2, by simp, ⟨⟨x1, r1 ++ C2, by rw [hC1]; rfl, hx1⟩, ?_, ?_, by omega, G2.le, seg (By s) a b1 ++ [44] ++ body2, ?_, ?_⟩⟩
          · intro y hy
            rcases List.mem_append.1 hy with hy | hy
            · exact deep1 y hy
            · exact G2.deep y hy
          · intro y hy
            rcases List.mem_append.1 hy with hy | hy
            · exact G1.ok y hy
            · exact G2.ok y hy
          · rw [← hc, ← t2, List.append_assoc, ← hb2, seg_app _ (by omega) (by omega), seg_app _ (by omega) (by omega)]
          · intro F P Q first hF hQ
            obtain ⟨F, rfl⟩ : ∃ m, F = m + 1 := ⟨F - 1, by omega⟩
            rw [List.length_append] at hF
            have hg := G1.txt F P (C2 ++ Q) (by omega) (fun y hy => by rw [hC2] at hy; simp at hy; rw [← hy]; omega)
            have e1 : P ++ (C1 ++ C2) ++ Q = P ++ C1 ++ (C2 ++ Q) := by simp
            have e2 : P ++ C1 ++ (C2 ++ Q) = (P ++ C1) ++ C2 ++ Q := by simp
            have hg2 := ht2 F (P ++ C1) Q false (by omega) hQ
            rw [List.length_append] at hg2
            rw [e1, cellL]
            have hh : (P ++ C1 ++ (C2 ++ Q))[P.length]? = some x1 := by rw [hC1]; exact at_head _ _ _ _
            rw [hh]
            simp only
            rw [if_pos (by omega), hg]
            simp only [Option.bind_some]
            rw [e2, hg2]
            simp only [Option.map_some, Bool.false_eq_true, if_false, Option.some.injEq, Prod.mk.injEq, List.length_append]
            refine ⟨by simp, by omega⟩
        · simp at h
end Go.Proofs.YtmpnkckaohfflaaDoor.PGiv
