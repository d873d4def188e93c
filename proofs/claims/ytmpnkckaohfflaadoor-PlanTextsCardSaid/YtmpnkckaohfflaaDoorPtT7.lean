/- Of the texts of this claim, what it needs, put together by a program of this claim's author. Conditions: as each theorem says. -/
import Derived.Lib.Strings
import Derived.Lib.Bytealg
import Derived.Laws.BitsAllLaws
import Derived.Laws.BitsLemmas
import Derived.Deep.Slices
import Derived.ChangeArms
import Derived.SizedLaws
import Derived.Stop.LaidErr
import Derived.Test.YtmpnkckaohfflaaDoorCards
import Derived.Test.YtmpnkckaohfflaaDoorTie
import Derived.WalkKit
import Derived.ProofKit
import Derived.OpenShut
import Derived.ShutString
import Derived.ChangeOld
import Derived.Below
import Derived.JoinedCond
import Derived.Deep.DeepHandedRow
import Derived.Lib.LaidTab
import Derived.Test.YtmpnkckaohfflaaDoorPtT6
section
namespace Go.Proofs.YtmpnkckaohfflaaDoor.PGiv
open Go.RowKit Go.Proofs.YtmpnkckaohfflaaDoor.K Go.Proofs.YtmpnkckaohfflaaDoor.Num
set_option linter.unusedVariables false
set_option linter.unusedSimpArgs false
def seg (B : List UInt8) (a b : Nat) : List UInt8 := (B.drop a).take (b - a)
theorem seg_app (B : List UInt8) {a b c : Nat} (h1 : a ≤ b) (h2 : b ≤ c) : seg B a b ++ seg B b c = seg B a c := by
  unfold seg
  have e : B.drop b = (B.drop a).drop (b - a) := by rw [List.drop_drop]; congr 1; omega
  rw [e, show c - a = (b - a) + (c - b) by omega, List.take_add]
theorem seg_one (B : List UInt8) {a : Nat} (h : a < B.length) : seg B a (a + 1) = [B[a]] := by
  unfold seg
  rw [show a + 1 - a = 1 by omega, List.drop_eq_getElem_cons h]
  rfl
theorem seg_extract (s : ByteArray) (a b : Nat) : (s.extract a b).data.toList = seg s.data.toList a b := by
  unfold seg
  rw [ByteArray.data_extract, Array.toList_extract, List.extract_eq_take_drop]
abbrev By (s : ByteArray) : List UInt8 := s.data.toList
theorem by_len (s : ByteArray) : (By s).length = s.size := rfl
theorem next_seg {s : ByteArray} {a a' : Nat} {c : UInt8} (h : rdNext s a = some (c, a')) : a' = a + 1 ∧ a < s.size ∧ seg (By s) a a' = [c] := by
  unfold rdNext at h
  split at h
  · rename_i ha
    obtain ⟨rfl, rfl⟩ := Prod.mk.inj (Option.some.inj h)
    exact ⟨rfl, ha, seg_one _ (by rw [by_len]; exact ha)⟩
  · cases h
theorem must_seg {s : ByteArray} {a a' : Nat} {c : UInt8} (h : rdMust s a c = some a') : a' = a + 1 ∧ a < s.size ∧ seg (By s) a a' = [c] := by
  unfold rdMust at h
  split at h
  · cases h
  · rename_i d a1 h1
    split at h
    · rename_i hd
      obtain rfl := Option.some.inj h
      subst hd
      exact next_seg h1
    · cases h
theorem number_seg {s : ByteArray} {a a' : Nat} {n : Int} (ha : a ≤ s.size) (h : rdNumber s a = some (n, a')) : a < a' ∧ a' ≤ s.size ∧ seg (By s) a a' = putNum n ∧ 0 ≤ n ∧ n ≤ 4611686018427387904 := by
  have hl := number_le ha h
  unfold rdNumber at h
  split at h
  · rename_i hn
    obtain ⟨rfl, rfl⟩ := Prod.mk.inj (Option.some.inj h)
    rw [seg_extract] at hn ⊢
    rcases numOf_cases (seg (By s) a (digEnd (s.size - a) s a)) with ⟨u, hu, hd, hq⟩ | hq
    · rw [hq]
      refine ⟨?_, hl.2, by rw [putNum_nat u hu]; exact hd, by simp, by simp; omega⟩
      rcases Nat.lt_or_ge a (digEnd (s.size - a) s a) with h' | h'
      · exact h'
      · exfalso
        have e : digEnd (s.size - a) s a - a = 0 := by omega
        have : seg (By s) a (digEnd (s.size - a) s a) = [] := by unfold seg; rw [e]; rfl
        rw [this] at hd
        exact dec_ne u hd.symm
    · rw [hq] at hn
      cases hn
  · cases h
structure GoodC (s : ByteArray) (a a' : Nat) (d : Int) (C : List S45) : Prop where
  head : ∃ x r, C = x :: r ∧ x.f0 = d ∧ ∀ y ∈ r, d < y.f0
  ok : ∀ x ∈ C, okC x
  lt : a < a'
  le : a' ≤ s.size
  txt : ∀ (F : Nat) (P Q : List S45), 2 * C.length ≤ F → (∀ y, Q.head? = some y → y.f0 ≤ d) → cellF F (P ++ C ++ Q) P.length = some (seg (By s) a a', P.length + C.length)
structure GoodL (s : ByteArray) (a a' : Nat) (d : Int) (sh : UInt8) (C : List S45) : Prop where
  head : ∃ x r, C = x :: r ∧ x.f0 = d + 1
  deep : ∀ y ∈ C, d < y.f0
  ok : ∀ x ∈ C, okC x
  lt : a < a'
  le : a' ≤ s.size
  txt : ∃ body, seg (By s) a a' = body ++ [sh] ∧ ∀ (F : Nat) (P Q : List S45) (first : Bool), 2 * C.length + 1 ≤ F → (∀ y, Q.head? = some y → y.f0 ≤ d) → cellL F (P ++ C ++ Q) d first P.length = some ((if first then [] else [44]) ++ body, P.length + C.length)
theorem at_head (P Q : List S45) (x : S45) (r : List S45) : (P ++ (x :: r) ++ Q)[P.length]? = some x := by simp
theorem at_end (P C Q : List S45) : (P ++ C ++ Q)[P.length + C.length]? = Q.head? := by
  rw [List.getElem?_append_right (by simp), List.length_append, Nat.sub_self]
  cases Q <;> rfl
theorem cellL_end {F : Nat} {P C Q : List S45} {d : Int} {first : Bool} (hF : 0 < F) (hQ : ∀ y, Q.head? = some y → y.f0 ≤ d) : cellL F (P ++ C ++ Q) d first (P.length + C.length) = some ([], P.length + C.length) := by
  obtain ⟨F, rfl⟩ : ∃ m, F = m + 1 := ⟨F - 1, by omega⟩
  rw [cellL, at_end]
  cases h : Q.head? with
  | none => rfl
  | some y =>
    have := hQ y h
    simp only
    rw [if_neg (by omega)]
theorem good_read : ∀ k, (∀ (s : ByteArray) (a : Nat) (L : List S45) (d : Int) (L' : List S45) (a' : Nat), s.size ≤ 1000000 → 0 ≤ d → d ≤ a → a ≤ s.size → cellR k s a L d = some (some (L', a')) → ∃ C, L' = L ++ C ∧ GoodC s a a' d C) ∧
    (∀ (s : ByteArray) (a : Nat) (L : List S45) (d : Int) (sh : UInt8) (L' : List S45) (a' : Nat), s.size ≤ 1000000 → 0 ≤ d → d + 1 ≤ a → a ≤ s.size → loopR k s a L d sh = some (some (L', a')) → ∃ C, L' = L ++ C ∧ GoodL s a a' d sh C) := by
  intro k
  induction k with
  | zero => exact ⟨fun s a L d L' a' _ _ _ _ h => by simp [cellR] at h, fun s a L d sh L' a' _ _ _ _ h => by simp [loopR] at h⟩
  | succ k ih =>
    obtain ⟨ih1, ih2⟩ := ih
    constructor
    · intro s a L d L' a' hs hd hda ha h
      rw [cellR] at h
      split at h
      · simp at h
      rename_i W a1 h1
      obtain ⟨l1, m1, t1, p1, q1⟩ := number_seg ha h1
      split at h
      · simp at h
      rename_i a2 h2
      obtain ⟨l2, m2, t2⟩ := must_seg h2
      split at h
      · simp at h
      rename_i H a3 h3
      obtain ⟨l3, m3, t3, p3, q3⟩ := number_seg (by omega) h3
      split at h
      · simp at h
      rename_i a4 h4
      obtain ⟨l4, m4, t4⟩ := must_seg h4
      split at h
      · simp at h
      rename_i X a5 h5
      obtain ⟨l5, m5, t5, p5, q5⟩ := number_seg (by omega) h5
      split at h
      · simp at h
      rename_i a6 h6
      obtain ⟨l6, m6, t6⟩ := must_seg h6
      split at h
      · simp at h
      rename_i Y a7 h7
      obtain ⟨l7, m7, t7, p7, q7⟩ := number_seg (by omega) h7
      split at h
      · simp at h
      rename_i c a8 h8
      obtain ⟨l8, m8, t8⟩ := next_seg h8
      have hhead : ∀ kd q, seg (By s) a a7 = headT ⟨d, kd, X, Y, W, H, q⟩ := fun kd q => by
        show _ = putNum W ++ [120] ++ putNum H ++ [44] ++ putNum X ++ [44] ++ putNum Y
        have e : seg (By s) a a1 ++ seg (By s) a1 a2 ++ seg (By s) a2 a3 ++ seg (By s) a3 a4 ++ seg (By s) a4 a5 ++ seg (By s) a5 a6 ++ seg (By s) a6 a7 = seg (By s) a a7 := by
          rw [seg_app _ (by omega) (by omega), seg_app _ (by omega) (by omega), seg_app _ (by omega) (by omega), seg_app _ (by omega) (by omega), seg_app _ (by omega) (by omega), seg_app _ (by omega) (by omega)]
        rw [t1, t2, t3, t4, t5, t6, t7] at e
        exact e.symm
      have hok : ∀ kd q, 0 ≤ q → q ≤ 4611686018427387904 → okC ⟨d, kd, X, Y, W, H, q⟩ := fun kd q h0 h1 => ⟨⟨by show _ ≤ X; omega, by show X ≤ _; omega⟩, ⟨by show _ ≤ Y; omega, by show Y ≤ _; omega⟩, ⟨by show _ ≤ W; omega, by show W ≤ _; omega⟩, ⟨by show _ ≤ H; omega, by show H ≤ _; omega⟩, ⟨by show _ ≤ q; omega, by show q ≤ _; omega⟩⟩
      have hloop : ∀ (kd : Int) (op sh : UInt8), kd ≠ 1 → c = op → (if kd = 3 then (91 : UInt8) else 123) = op → (if kd = 3 then (93 : UInt8) else 125) = sh → loopR k s a8 (L ++ [⟨d, kd, X, Y, W, H, 0⟩]) d sh = some (some (L', a')) → ∃ C, L' = L ++ C ∧ GoodC s a a' d C := by
        intro kd op sh hk1 hc hop hsh hl
        obtain ⟨C, rfl, G⟩ := ih2 s a8 _ d sh L' a' hs hd (by omega) (by omega) hl
        obtain ⟨body, hb, ht⟩ := G.txt
        have hlt := G.lt
        refine ⟨⟨d, kd, X, Y, W, H, 0⟩ :: C, by simp, ⟨⟨_, _, rfl, rfl, G.deep⟩, ?_, by omega, G.le, ?_⟩⟩
        · intro x hx
          rcases List.mem_cons.1 hx with rfl | hx
          · exact hok kd 0 (by omega) (by omega)
          · exact G.ok x hx
        · intro F P Q hF hQ
          obtain ⟨F, rfl⟩ : ∃ m, F = m + 1 := ⟨F - 1, by simp at hF; omega⟩
          rw [cellF, at_head]
          simp only
          rw [if_neg hk1]
          have e : P ++ (⟨d, kd, X, Y, W, H, 0⟩ : S45) :: C ++ Q = (P ++ [⟨d, kd, X, Y, W, H, 0⟩]) ++ C ++ Q := by simp
          have el : P.length + 1 = (P ++ [(⟨d, kd, X, Y, W, H, 0⟩ : S45)]).length := by simp
          rw [e, el, ht F _ Q true (by simp at hF; omega) hQ]
          simp only [Option.map_some, if_true, List.nil_append, Option.some.injEq, Prod.mk.injEq]
          refine ⟨?_, by simp; omega⟩
          rw [hop, hsh, ← hhead kd 0, ← hc, ← t8, List.append_assoc, ← hb, seg_app _ (by omega) (by omega), seg_app _ (by omega) (by omega)]
      split at h
      · rename_i hc
        split at h
        · simp at h
        · rename_i q a9 h9
          obtain ⟨l9, m9, t9, p9, q9⟩ := number_seg (by omega) h9
          simp only [Option.some.injEq, Prod.mk.injEq] at h
          obtain ⟨rfl, rfl⟩ := h
          refine ⟨[⟨d, 1, X, Y, W, H, q⟩], rfl, ⟨⟨_, [], rfl, rfl, by simp⟩, ?_, by omega, m9, ?_⟩⟩
          · intro x hx
            rw [List.mem_singleton] at hx
            subst hx
            exact hok 1 q p9 q9
          · intro F P Q hF hQ
            obtain ⟨F, rfl⟩ : ∃ m, F = m + 1 := ⟨F - 1, by simp at hF; omega⟩
            rw [cellF, at_head]
            simp only [if_true, Option.some.injEq, Prod.mk.injEq]
            refine ⟨?_, by simp⟩
            have e8 : [44] = seg (By s) a7 a8 := by rw [t8, hc]
            rw [← hhead 1 q, e8, ← t9, seg_app _ (by omega) (by omega), seg_app _ (by omega) (by omega)]
      · split at h
        · rename_i hc
          exact hloop 2 123 125 (by omega) hc rfl rfl h
        · split at h
          · rename_i hc
            exact hloop 3 91 93 (by omega) hc rfl rfl h
          · simp at h
    · intro s a L d sh L' a' hs hd hda ha h
      rw [loopR] at h
      obtain ⟨r, hr, h⟩ := Option.bind_eq_some_iff.1 h
      have hw : wrap64 (d + 1) = d + 1 := IntWalk.wrap64_in _ (by omega)
      split at h
      · simp at h
      rename_i L1 b1
      rw [hw] at hr
      obtain ⟨C1, rfl, G1⟩ := ih1 s a L (d + 1) L1 b1 hs (by omega) hda ha hr
      have lt1 := G1.lt
      have le1 := G1.le
      obtain ⟨x1, r1, hC1, hx1, hr1⟩ := G1.head
      have len1 : 1 ≤ C1.length := by rw [hC1]; simp
      have deep1 : ∀ y ∈ C1, d < y.f0 := by
        intro y hy
        rw [hC1] at hy
        rcases List.mem_cons.1 hy with rfl | hy
        · omega
        · have := hr1 y hy
          omega
      split at h
      · simp at h
      rename_i c b2 h2
      obtain ⟨l2, m2, t2⟩ := next_seg h2
      split at h
      · rename_i hc
        simp only [Option.some.injEq, Prod.mk.injEq] at h
        obtain ⟨rfl, rfl⟩ := h
        refine ⟨C1, rfl, ⟨⟨x1, r1, hC1, hx1⟩, deep1, G1.ok, by omega, by omega, seg (By s) a b1, ?_, ?_⟩⟩
        · rw [← hc, ← t2, seg_app _ (by omega) (by omega)]
        · intro F P Q first hF hQ
          obtain ⟨F, rfl⟩ : ∃ m, F = m + 1 := ⟨F - 1, by omega⟩
          have hg := G1.txt F P Q (by omega) (fun y hy => by have := hQ y hy; omega)
          rw [cellL, hC1, at_head]
          simp only
          rw [if_pos (by omega), ← hC1, hg]
          simp only [Option.bind_some]
          rw [cellL_end (by omega) hQ]
          simp
      · split at h
        · rename_i hc
          obtain ⟨C2, rfl, G2⟩ := ih2 s b2 _ d sh L' a' hs hd (by omega) (by omega) h
          obtain ⟨x2, r2, hC2, hx2⟩ := G2.head
          obtain ⟨body2, hb2, ht2⟩ := G2.txt
          have lt2 := G2.lt
          refine ⟨C1 ++ C2, by simp, ⟨⟨x1, r1 ++ C2, by rw [hC1]; rfl, hx1⟩, ?_, ?_, by omega, G2.le, seg (By s) a b1 ++ [44] ++ body2, ?_, ?_⟩⟩
          · intro y hy
            rcases List.mem_append.1 hy with hy | hy
            · exact deep1 y hy
            · exact G2.deep y hy
          · intro y hy
            rcases List.mem_append.1 hy with hy | hy
            · exact G1.ok y hy
            · exact G2.ok y hy
          · rw [← hc, ← t2, List.append_assoc, ← hb2, seg_app _ (by omega) (by omega), seg_app _ (by omega) (by omega)]
          · intro F P Q first hF hQ
            obtain ⟨F, rfl⟩ : ∃ m, F = m + 1 := ⟨F - 1, by omega⟩
            rw [List.length_append] at hF
            have hg := G1.txt F P (C2 ++ Q) (by omega) (fun y hy => by rw [hC2] at hy; simp at hy; rw [← hy]; omega)
            have e1 : P ++ (C1 ++ C2) ++ Q = P ++ C1 ++ (C2 ++ Q) := by simp
            have e2 : P ++ C1 ++ (C2 ++ Q) = (P ++ C1) ++ C2 ++ Q := by simp
            have hg2 := ht2 F (P ++ C1) Q false (by omega) hQ
            rw [List.length_append] at hg2
            rw [e1, cellL]
            have hh : (P ++ C1 ++ (C2 ++ Q))[P.length]? = some x1 := by rw [hC1]; exact at_head _ _ _ _
            rw [hh]
            simp only
            rw [if_pos (by omega), hg]
            simp only [Option.bind_some]
            rw [e2, hg2]
            simp only [Option.map_some, Bool.false_eq_true, if_false, Option.some.injEq, Prod.mk.injEq, List.length_append]
            refine ⟨by simp, by omega⟩
        · simp at h
end Go.Proofs.YtmpnkckaohfflaaDoor.PGiv
end
section
namespace Go.Proofs.YtmpnkckaohfflaaDoor.Txt
open Go.RowKit Go.Proofs.YtmpnkckaohfflaaDoorW.PrintWords
set_option linter.unusedVariables false
abbrev S (l : List UInt8) : ByteArray := ⟨l.toArray⟩
abbrev nums (l : List UInt8) : List Int := l.map fun b => (b.toNat : Int)
theorem S_of (s : ByteArray) : s = S s.data.toList := (Lib.mk_data s).symm
theorem S_size (l : List UInt8) : (S l).size = l.length := by simp [ByteArray.size]
theorem S_app (a b : List UInt8) : S a ++ S b = S (a ++ b) := by
  apply ByteArray.ext
  simp [S]
theorem S_nums (l : List UInt8) : strOfNums (nums l) = S l := by
  unfold strOfNums nums
  congr 2
  rw [List.map_map]
  have e : ((fun n : Int => UInt8.ofNat n.toNat) ∘ fun b : UInt8 => (b.toNat : Int)) = id := by
    funext b
    simp
  rw [e, List.map_id]
theorem bt_mid (pre suf : List UInt8) (c : UInt8) (i : Int) (hi : i = pre.length) : bt (S (pre ++ c :: suf)) i = (c.toNat : Int) := by
  subst hi
  unfold bt
  have h : ((pre.length : Int)).toNat < (S (pre ++ c :: suf)).size := by rw [S_size]; simp
  rw [dif_pos h]
  congr 2
  simp [ByteArray.getElem_eq_getElem_data]
theorem ext (a b : UInt8) (h : a.toNat = b.toNat) : a = b := UInt8.toNat_inj.1 h
end Go.Proofs.YtmpnkckaohfflaaDoor.Txt
end
section
namespace Go.Proofs.YtmpnkckaohfflaaDoor.Sm
open Go.RowKit Go.Proofs.YtmpnkckaohfflaaDoor.Txt Go.Proofs.YtmpnkckaohfflaaDoorW.PrintWords
set_option linter.unusedVariables false
def step (n c : Int) : Int := (n / 2 + n % 2 * 32768 + c) % 65536
def sumFrom (n : Int) (l : List UInt8) : Int := l.foldl (fun n c => step n (c.toNat : Int)) n
def sum (l : List UInt8) : Int := sumFrom 0 l
theorem step_range (n c : Int) : 0 ≤ step n c ∧ step n c ≤ 65535 := by unfold step; omega
theorem sumFrom_range (l : List UInt8) : ∀ n, 0 ≤ n → n ≤ 65535 → 0 ≤ sumFrom n l ∧ sumFrom n l ≤ 65535 := by
  induction l with
  | nil => intro n h0 h1; exact ⟨h0, h1⟩
  | cons c l ih => intro n _ _; exact ih _ (step_range _ _).1 (step_range _ _).2
theorem sum_range (l : List UInt8) : 0 ≤ sum l ∧ sum l ≤ 65535 := sumFrom_range l 0 (by omega) (by omega)
theorem sumFrom_cons (n : Int) (c : UInt8) (l : List UInt8) : sumFrom n (c :: l) = sumFrom (step n (c.toNat : Int)) l := rfl
end Go.Proofs.YtmpnkckaohfflaaDoor.Sm
end
section
namespace Go.Proofs.YtmpnkckaohfflaaDoor.Sm
open Go.RowKit Go.Proofs.YtmpnkckaohfflaaDoor.E Go.Proofs.YtmpnkckaohfflaaDoor.Txt Go.Proofs.YtmpnkckaohfflaaDoorW.PrintWords Go.Proofs.YtmpnkckaohfflaaDoorW.PrintLast
set_option linter.unusedVariables false
theorem or_turn (a b : Nat) (ha : a < 32768) : a ||| b * 32768 = a + b * 32768 := by
  have h := Nat.two_pow_add_eq_or_of_lt (i := 15) (b := a) (by omega) b
  rw [Nat.or_comm, Nat.mul_comm b 32768]
  have e : 2 ^ 15 = 32768 := by decide
  rw [e] at h
  omega
theorem step_own (n c : Int) (h0 : 0 ≤ n) (h1 : n ≤ 65535) (c0 : 0 ≤ c) (c1 : c ≤ 255) :
    IntKind.u16.wrap ((Go.bits .or .u16 (n / 2) (IntKind.u16.wrap (n * 32768))) + IntKind.u16.wrap c) = step n c := by
  unfold step
  rw [IntKind.wrap_u16, IntKind.wrap_u16, IntKind.wrap_u16]
  have e : n * 32768 % 65536 = n % 2 * 32768 := by omega
  rw [e]
  rw [u16_or _ _ (by omega) (by omega) (by omega) (by omega)]
  obtain ⟨m, rfl⟩ := Int.eq_ofNat_of_zero_le h0
  have e1 : ((m : Int) / 2).toNat = m / 2 := by omega
  have e2 : ((m : Int) % 2 * 32768).toNat = m % 2 * 32768 := by omega
  rw [e1, e2, or_turn _ _ (by omega)]
  omega
theorem sumLoop (suf : List UInt8) : ∀ (pre : List UInt8) (k : Nat) (n i : Int), i = pre.length → 0 ≤ n → n ≤ 65535 → (pre ++ suf).length ≤ 9223372036854775806 → suf.length < k →
    plan_Sum.l0 k (S (pre ++ suf)) n i = some (sumFrom n suf) := by
  induction suf with
  | nil =>
    intro pre k n i hi n0 n1 hl hk
    obtain ⟨k, rfl⟩ : ∃ m, k = m + 1 := ⟨k - 1, by simp at hk; omega⟩
    simp only [plan_Sum.l0]
    rw [if_neg (by rw [S_size]; simp; omega)]
    congr 1
    unfold wrap64
    show _ = n
    omega
  | cons c suf ih =>
    intro pre k n i hi n0 n1 hl hk
    obtain ⟨k, rfl⟩ : ∃ m, k = m + 1 := ⟨k - 1, by simp at hk; omega⟩
    have hlen : pre.length + (suf.length + 1) ≤ 9223372036854775806 := by simpa using hl
    have e : pre ++ c :: suf = (pre ++ [c]) ++ suf := by simp
    have wi : wrap64 (i + 1) = i + 1 := by unfold wrap64; omega
    have hc : c.toNat < 256 := c.toNat_lt
    have h := ih (pre ++ [c]) k (step n (c.toNat : Int)) (i + 1) (by rw [hi]; simp) (step_range _ _).1 (step_range _ _).2 (by rw [← e]; exact hl) (by simp at hk; omega)
    simp only [plan_Sum.l0]
    rw [if_pos (by rw [S_size]; simp; omega), if_pos (by omega), bt_mid _ _ _ _ hi, wi, step_own n _ n0 n1 (by omega) (by omega), sumFrom_cons, e]
    exact h
theorem sum_f (l : List UInt8) (k : Nat) (hl : l.length ≤ 9223372036854775806) (hk : l.length < k) : plan_Sum.f k (S l) = some (sum l) :=
  sumLoop l [] k 0 0 rfl (by omega) (by omega) hl hk
end Go.Proofs.YtmpnkckaohfflaaDoor.Sm
end
section
namespace Go.Proofs.YtmpnkckaohfflaaDoor.PGiv
open Go.RowKit Go.Proofs.YtmpnkckaohfflaaDoorW.PrintWords Go.Proofs.YtmpnkckaohfflaaDoor.K Go.Proofs.YtmpnkckaohfflaaDoor.Num Go.Proofs.YtmpnkckaohfflaaDoor.Txt
set_option linter.unusedVariables false
set_option linter.unusedSimpArgs false
theorem grow_some : ∀ k, (∀ l d, l ≠ [] → 2 * l.length ≤ k → ∃ r, growF k l d = some r) ∧ (∀ c d kids sum l, 2 * l.length + 1 ≤ k → ∃ r, growL k c d kids sum l = some r) := by
  intro k
  induction k with
  | zero =>
    refine ⟨fun l d h1 h2 => ?_, fun c d kids sum l h => by omega⟩
    cases l with
    | nil => exact absurd rfl h1
    | cons x r => simp at h2
  | succ k ih =>
    obtain ⟨ih1, ih2⟩ := ih
    constructor
    · intro l d h1 h2
      cases l with
      | nil => exact absurd rfl h1
      | cons c r =>
        rw [growF]
        split
        · exact ⟨_, rfl⟩
        · exact ih2 _ _ _ _ _ (by simp at h2; omega)
    · intro c d kids sum l h
      have tail : ∀ (l : List S45), ∃ r, (if kids.length < 2 then some none else if sum = ext c.f1 c.f4 c.f5 then some (some ((⟨c.f1, c.f4, c.f5, 0, kids⟩ : Tr), l)) else some none) = some r := by
        intro l
        split
        · exact ⟨_, rfl⟩
        · split <;> exact ⟨_, rfl⟩
      cases l with
      | nil =>
        rw [growL, if_neg (by simp)]
        exact tail []
      | cons x r =>
        rw [growL]
        split
        · split
          · exact ⟨_, rfl⟩
          · obtain ⟨g, hg⟩ := ih1 (x :: r) (wrap64 (d + 1)) (by simp) (by simp at h ⊢; omega)
            rw [hg]
            cases g with
            | none => exact ⟨_, rfl⟩
            | some tr =>
              obtain ⟨t', rest'⟩ := tr
              have h1 := (grow_cnt k).1 _ _ _ _ hg
              have h2 := cntT_pos t'
              simp only [Option.bind_some]
              split
              · exact ih2 _ _ _ _ _ (by simp at h h1; omega)
              · exact ⟨_, rfl⟩
        · exact tail (x :: r)
theorem read_some (L : List S45) : ∃ r, readF L = some r := by
  cases L with
  | nil => exact ⟨_, rfl⟩
  | cons c l =>
    rw [readF]
    split
    · exact ⟨_, rfl⟩
    rename_i h64
    split
    · exact ⟨_, rfl⟩
    split
    · exact ⟨_, rfl⟩
    cases hs : seenF (c :: l) [] with
    | none => exact ⟨_, rfl⟩
    | some S =>
      simp only
      split
      · exact ⟨_, rfl⟩
      obtain ⟨g, hg⟩ := (grow_some 1000).1 (c :: l) 0 (by simp) (by omega)
      rw [hg]
      cases g with
      | none => exact ⟨_, rfl⟩
      | some tr =>
        obtain ⟨t, rest⟩ := tr
        simp only [Option.bind_some]
        split
        · exact ⟨_, rfl⟩
        · split <;> exact ⟨_, rfl⟩
theorem rd_mono : ∀ k, (∀ s a L d L' a', cellR k s a L d = some (some (L', a')) → a ≤ s.size → a < a' ∧ a' ≤ s.size) ∧ (∀ s a L d sh L' a', loopR k s a L d sh = some (some (L', a')) → a ≤ s.size → a < a' ∧ a' ≤ s.size) := by
  intro k
  induction k with
  | zero => exact ⟨fun s a L d L' a' h => by simp [cellR] at h, fun s a L d sh L' a' h => by simp [loopR] at h⟩
  | succ k ih =>
    obtain ⟨ih1, ih2⟩ := ih
    constructor
    · intro s a L d L' a' h ha
      rw [cellR] at h
      split at h
      · simp at h
      rename_i W a1 h1
      have l1 := number_le ha h1
      split at h
      · simp at h
      rename_i a2 h2
      have l2 := must_le h2
      split at h
      · simp at h
      rename_i H a3 h3
      have l3 := number_le l2.2 h3
      split at h
      · simp at h
      rename_i a4 h4
      have l4 := must_le h4
      split at h
      · simp at h
      rename_i X a5 h5
      have l5 := number_le l4.2 h5
      split at h
      · simp at h
      rename_i a6 h6
      have l6 := must_le h6
      split at h
      · simp at h
      rename_i Y a7 h7
      have l7 := number_le l6.2 h7
      split at h
      · simp at h
      rename_i c a8 h8
      have l8 := next_le h8
      split at h
      · split at h
        · simp at h
        · rename_i q a9 h9
          have l9 := number_le l8.2 h9
          simp only [Option.some.injEq, Prod.mk.injEq] at h
          obtain ⟨rfl, rfl⟩ := h
          omega
      · split at h
        · have := ih2 _ _ _ _ _ _ _ h l8.2
          omega
        · split at h
          · have := ih2 _ _ _ _ _ _ _ h l8.2
            omega
          · simp at h
    · intro s a L d sh L' a' h ha
      rw [loopR] at h
      obtain ⟨r, hr, h⟩ := Option.bind_eq_some_iff.1 h
      split at h
      · simp at h
      rename_i L1 b1
      have h1 := ih1 _ _ _ _ _ _ hr ha
      split at h
      · simp at h
      rename_i c b2 h2
      have l2 := next_le h2
      split at h
      · simp only [Option.some.injEq, Prod.mk.injEq] at h
        obtain ⟨rfl, rfl⟩ := h
        omega
      · split at h
        · have := ih2 _ _ _ _ _ _ _ h l2.2
          omega
        · simp at h
theorem rd_some : ∀ k, (∀ s a L d, a ≤ s.size → 2 * (s.size - a) + 2 ≤ k → ∃ r, cellR k s a L d = some r) ∧ (∀ s a L d sh, a ≤ s.size → 2 * (s.size - a) + 3 ≤ k → ∃ r, loopR k s a L d sh = some r) := by
  intro k
  induction k with
  | zero => exact ⟨fun s a L d _ h => by omega, fun s a L d sh _ h => by omega⟩
  | succ k ih =>
    obtain ⟨ih1, ih2⟩ := ih
    constructor
    · intro s a L d ha hk
      rw [cellR]
      split
      · exact ⟨_, rfl⟩
      rename_i W a1 h1
      have l1 := number_le ha h1
      split
      · exact ⟨_, rfl⟩
      rename_i a2 h2
      have l2 := must_le h2
      split
      · exact ⟨_, rfl⟩
      rename_i H a3 h3
      have l3 := number_le l2.2 h3
      split
      · exact ⟨_, rfl⟩
      rename_i a4 h4
      have l4 := must_le h4
      split
      · exact ⟨_, rfl⟩
      rename_i X a5 h5
      have l5 := number_le l4.2 h5
      split
      · exact ⟨_, rfl⟩
      rename_i a6 h6
      have l6 := must_le h6
      split
      · exact ⟨_, rfl⟩
      rename_i Y a7 h7
      have l7 := number_le l6.2 h7
      split
      · exact ⟨_, rfl⟩
      rename_i c a8 h8
      have l8 := next_le h8
      split
      · split <;> exact ⟨_, rfl⟩
      · split
        · exact ih2 _ _ _ _ _ l8.2 (by omega)
        · split
          · exact ih2 _ _ _ _ _ l8.2 (by omega)
          · exact ⟨_, rfl⟩
    · intro s a L d sh ha hk
      rw [loopR]
      obtain ⟨r, hr⟩ := ih1 s a L (wrap64 (d + 1)) ha (by omega)
      rw [hr]
      simp only [Option.bind_some]
      split
      · exact ⟨_, rfl⟩
      rename_i L1 b1
      have h1 := (rd_mono k).1 _ _ _ _ _ _ hr ha
      split
      · exact ⟨_, rfl⟩
      rename_i c b2 h2
      have l2 := next_le h2
      split
      · exact ⟨_, rfl⟩
      · split
        · exact ih2 _ _ _ _ _ l2.2 (by omega)
        · exact ⟨_, rfl⟩
theorem body_some (s : ByteArray) (h : s.size ≤ 2400) : ∃ r, bodyF s = some r := by
  obtain ⟨r, hr⟩ := (rd_some 5000).1 s 0 [] 0 (by omega) (by omega)
  unfold bodyF
  rw [hr]
  simp only [Option.bind_some]
  cases r with
  | none => exact ⟨_, rfl⟩
  | some p =>
    obtain ⟨L, a⟩ := p
    simp only
    split <;> exact ⟨_, rfl⟩
theorem i64_and15 (n : Int) : Go.bits .and .i64 n 15 = n % 16 := by
  have h15 : (BitVec.ofInt 64 15).toNat = 2 ^ 4 - 1 := by decide
  have key : (BitVec.ofInt 64 n &&& BitVec.ofInt 64 15).toNat = (n % ((2 ^ 64 : Nat) : Int)).toNat % 2 ^ 4 := by
    rw [BitVec.toNat_and, BitVec.toNat_ofInt, h15, Nat.and_two_pow_sub_one_eq_mod]
  show IntKind.i64.wrap ((BitVec.ofInt 64 n &&& BitVec.ofInt 64 15).toNat : Nat) = n % 16
  rw [key, IntKind.wrap_i64]
  omega
def fourT (n : Int) : ByteArray := strOfNums [bt hexD (n / 4096 % 16), bt hexD (n / 256 % 16), bt hexD (n / 16 % 16), bt hexD (n % 16)]
theorem fourT_size (n : Int) : (fourT n).size = 4 := strOfNums_size _
theorem four_eq (n : Int) : E.plan_four.f n = some (fourT n) := by
  unfold E.plan_four.f
  rw [i64_and15, i64_and15, i64_and15, i64_and15, if_pos (by omega), if_pos (by omega), if_pos (by omega), if_pos (by omega), if_pos (by omega), if_pos (by omega), if_pos (by omega), if_pos (by omega)]
  rfl
theorem sum_E (s : ByteArray) (h : s.size ≤ 100000) : E.plan_Sum.f 200000 s = some (Sm.sum (By s)) := Sm.sum_f (By s) 200000 (by rw [by_len]; omega) (by rw [by_len]; omega)
theorem by_ext {a b : ByteArray} (h : By a = By b) : a = b := (S_of a).trans ((congrArg S h).trans (S_of b).symm)
theorem by_app (a b : ByteArray) : By (a ++ b) = By a ++ By b := by simp [By]
theorem toList_by (s : ByteArray) : s.toList = By s := Lib.toList_data s
theorem by_S (l : List UInt8) : By ⟨l.toArray⟩ = l := rfl
theorem seg_all (B : List UInt8) : seg B 0 B.length = B := by simp [seg]
theorem cut_text {s : ByteArray} (h : 4 < s.size) (h4 : s[4]'h = 44) : By s = By (s.extract 0 4) ++ [44] ++ By (s.extract 5 s.size) := by
  show By s = (s.extract 0 4).data.toList ++ [44] ++ (s.extract 5 s.size).data.toList
  rw [seg_extract, seg_extract]
  have e := seg_one (By s) (a := 4) (by rw [by_len]; exact h)
  have e4 : (By s)[4]'(by rw [by_len]; exact h) = s[4]'h := rfl
  rw [e4, h4] at e
  rw [← e, seg_app _ (by omega) (by omega), seg_app _ (by omega) (by omega)]
  exact (seg_all (By s)).symm
theorem read_len {L : List S45} {t : Tr} (h : readF L = some (some t)) : L.length ≤ 64 ∧ layT t 0 0 0 = L ∧ ∃ rest, growF 1000 L 0 = some (some (t, rest)) ∧ rest = [] := by
  cases L with
  | nil => simp [readF] at h
  | cons c l =>
    rw [readF] at h
    split at h
    · simp at h
    rename_i h64
    split at h
    · simp at h
    split at h
    · simp at h
    cases hs : seenF (c :: l) [] with
    | none => rw [hs] at h; simp at h
    | some S =>
      rw [hs] at h
      simp only at h
      split at h
      · simp at h
      obtain ⟨g, hg, h⟩ := Option.bind_eq_some_iff.1 h
      cases g with
      | none => simp at h
      | some tr =>
        obtain ⟨t', rest⟩ := tr
        simp only at h
        split at h
        · simp at h
        · rename_i hr
          split at h
          · rename_i hl
            simp only [Option.some.injEq] at h
            subst h
            exact ⟨by omega, hl, rest, hg, List.length_eq_zero_iff.1 (by omega)⟩
          · simp at h
theorem text_of {L : List S45} {t : Tr} {B : List UInt8} {j : Nat} (hr : readF L = some (some t)) (hc : cellF 1000 L 0 = some (B, j)) (hok : ∀ c ∈ L, okC c) (hB : B ≠ []) (hl : B.length ≤ 100000) : plan_Text.f L = some (fourT (Sm.sum B) ++ (⟨#[44]⟩ : ByteArray) ++ ⟨B.toArray⟩, 0) := by
  unfold plan_Text.f
  rw [hr]
  simp only [Option.bind_some, Option.isSome_some, if_true]
  unfold textF
  rw [hc]
  simp only [Option.bind_some]
  rw [sum_E ⟨B.toArray⟩ hl]
  simp only [Option.bind_some]
  rw [four_eq]
  simp only [Option.bind_some]
  rw [if_pos ⟨hok, by have := (read_len hr).1; omega, hB, hl, by show (fourT _).size ≤ 1000; rw [fourT_size]; omega⟩]
  rfl
theorem parse_cases (s : ByteArray) : (∃ e : Int, e ≠ 0 ∧ plan_Parse.f s = some ([], e)) ∨ (∃ L, plan_Parse.f s = some (L, 0) ∧ plan_Text.f L = some (s, 0) ∧ layout_Check.f L = some 0) := by
  unfold plan_Parse.f
  split
  · exact .inl ⟨2, by decide, rfl⟩
  rename_i h1
  split
  · exact .inl ⟨50, by decide, rfl⟩
  rename_i h2
  split
  · exact .inl ⟨50, by decide, rfl⟩
  rename_i h3
  have h5 : 4 < s.size := by omega
  have h4 : s[4]'h5 = 44 := Classical.not_not.1 h3
  split
  · exact .inl ⟨50, by decide, rfl⟩
  have hsz : (s.extract 5 s.size).size ≤ 2043 := by rw [ByteArray.size_extract]; omega
  rw [sum_E _ (by omega)]
  simp only [Option.bind_some]
  rw [four_eq]
  simp only [Option.bind_some]
  split
  · rename_i hq
    obtain ⟨r, hr⟩ := body_some (s.extract 5 s.size) (by omega)
    unfold tailF
    rw [hr]
    simp only [Option.bind_some]
    cases r with
    | none => exact .inl ⟨50, by decide, rfl⟩
    | some L =>
      obtain ⟨rr, hrr⟩ := read_some L
      cases rr with
      | none =>
        have hck : layout_Check.f L = some 40 := by unfold layout_Check.f; rw [hrr]; rfl
        simp only
        rw [hck]
        exact .inl ⟨40, by decide, rfl⟩
      | some t =>
        have hck : layout_Check.f L = some 0 := by unfold layout_Check.f; rw [hrr]; rfl
        simp only
        rw [hck]
        refine .inr ⟨L, rfl, ?_, hck⟩
        obtain ⟨p, hp, hpr⟩ := Option.bind_eq_some_iff.1 hr
        cases p with
        | none => simp at hpr
        | some p =>
          obtain ⟨L2, a⟩ := p
          simp only at hpr
          split at hpr
          · rename_i ha
            obtain rfl := Option.some.inj (Option.some.inj hpr)
            subst ha
            obtain ⟨C, hC, G⟩ := (good_read 5000).1 _ 0 [] 0 _ _ (by omega) (by omega) (by omega) (by omega) hp
            rw [List.nil_append] at hC
            subst hC
            have hlen := (read_len hrr).1
            have hg := G.txt 1000 [] [] (by omega) (by simp)
            simp only [List.nil_append, List.append_nil, List.length_nil] at hg
            have hall : seg (By (s.extract 5 s.size)) 0 (s.extract 5 s.size).size = By (s.extract 5 s.size) := seg_all _
            rw [hall] at hg
            have hpos := G.lt
            have hne : By (s.extract 5 s.size) ≠ [] := fun e => by
              have h0 : (By (s.extract 5 s.size)).length = 0 := by rw [e]; rfl
              rw [by_len] at h0
              omega
            rw [text_of hrr hg G.ok hne (by rw [by_len]; omega)]
            rw [toList_by, toList_by] at hq
            generalize fourT (Sm.sum (By (s.extract 5 s.size))) = q at hq ⊢
            have hfin : q ++ (⟨#[44]⟩ : ByteArray) ++ ⟨(By (s.extract 5 s.size)).toArray⟩ = s := by
              apply by_ext
              rw [by_app, by_app, by_S, cut_text h5 h4, hq]
            rw [hfin]
          · simp at hpr
  · exact .inl ⟨51, by decide, rfl⟩
end Go.Proofs.YtmpnkckaohfflaaDoor.PGiv
end
section
namespace Go.Proofs.YtmpnkckaohfflaaDoor.PGiv
open Go.RowKit Go.Proofs.YtmpnkckaohfflaaDoorW.PrintWords Go.Proofs.YtmpnkckaohfflaaDoor.K Go.Proofs.YtmpnkckaohfflaaDoor.Num Go.Proofs.YtmpnkckaohfflaaDoor.Txt
set_option linter.unusedVariables false
set_option linter.unusedSimpArgs false
def sumL (kind : Int) : List Tr → Int
  | [] => 0
  | k :: r => ext kind k.w k.h + 1 + sumL kind r
mutual
def goodT : Tr → Prop
  | ⟨kind, w, h, id, kids⟩ => (1 ≤ w ∧ w ≤ 1000 ∧ 1 ≤ h ∧ h ≤ 1000) ∧ ((kind = 1 ∧ 1 ≤ id ∧ id ≤ 4611686018427387904 ∧ kids = []) ∨ ((kind = 2 ∨ kind = 3) ∧ id = 0 ∧ 2 ≤ kids.length ∧ goodL kind w h kids ∧ sumL kind kids = ext kind w h + 1))
def goodL : Int → Int → Int → List Tr → Prop
  | _, _, _, [] => True
  | kind, W, H, k :: r => k.kind ≠ kind ∧ ext (5 - kind) k.w k.h = ext (5 - kind) W H ∧ goodT k ∧ goodL kind W H r
end
theorem goodT_def (kind w h id : Int) (kids : List Tr) : goodT ⟨kind, w, h, id, kids⟩ ↔ (1 ≤ w ∧ w ≤ 1000 ∧ 1 ≤ h ∧ h ≤ 1000) ∧ ((kind = 1 ∧ 1 ≤ id ∧ id ≤ 4611686018427387904 ∧ kids = []) ∨ ((kind = 2 ∨ kind = 3) ∧ id = 0 ∧ 2 ≤ kids.length ∧ goodL kind w h kids ∧ sumL kind kids = ext kind w h + 1)) := by
  rw [goodT]
theorem goodL_snoc (kind W H : Int) (t : Tr) : ∀ ks, goodL kind W H ks → t.kind ≠ kind → ext (5 - kind) t.w t.h = ext (5 - kind) W H → goodT t → goodL kind W H (ks ++ [t])
  | [], _, h1, h2, h3 => by rw [List.nil_append, goodL, goodL]; exact ⟨h1, h2, h3, trivial⟩
  | k :: r, h, h1, h2, h3 => by
    rw [goodL] at h
    rw [List.cons_append, goodL]
    exact ⟨h.1, h.2.1, h.2.2.1, goodL_snoc kind W H t r h.2.2.2 h1 h2 h3⟩
theorem sumL_snoc (kind : Int) (t : Tr) : ∀ ks, sumL kind (ks ++ [t]) = sumL kind ks + (ext kind t.w t.h + 1)
  | [] => by simp [sumL]
  | k :: r => by
    rw [List.cons_append, sumL, sumL, sumL_snoc kind t r]
    omega
theorem good_dim {t : Tr} (h : goodT t) : 1 ≤ t.w ∧ t.w ≤ 1000 ∧ 1 ≤ t.h ∧ t.h ≤ 1000 := by
  obtain ⟨kind, w, h', id, kids⟩ := t
  exact ((goodT_def _ _ _ _ _).1 h).1
theorem ext_rng {kind W H : Int} (h : 1 ≤ W ∧ W ≤ 1000 ∧ 1 ≤ H ∧ H ≤ 1000) : 1 ≤ ext kind W H ∧ ext kind W H ≤ 1000 := by
  unfold ext
  split <;> omega
theorem sumL_rng (kind W H : Int) : ∀ ks, goodL kind W H ks → 0 ≤ sumL kind ks ∧ sumL kind ks ≤ 1001 * ks.length
  | [], _ => by simp [sumL]
  | k :: r, h => by
    rw [goodL] at h
    have h1 := sumL_rng kind W H r h.2.2.2
    have h2 := ext_rng (kind := kind) (good_dim h.2.2.1)
    rw [sumL, List.length_cons]
    push_cast
    omega
def cellOK (c : S45) : Prop := (1 ≤ c.f4 ∧ c.f4 ≤ 1000 ∧ 1 ≤ c.f5 ∧ c.f5 ≤ 1000) ∧ ((c.f1 = 1 ∧ 1 ≤ c.f6 ∧ c.f6 ≤ 4611686018427387904) ∨ (c.f1 = 2 ∨ c.f1 = 3))
def panes (l : List S45) : List Int := (l.filter fun c => c.f1 == 1).map fun c => c.f6
theorem seen_ok : ∀ (l : List S45) (S S' : List Int), seenF l S = some S' → (∀ c ∈ l, cellOK c) ∧ S'.length = (panes l).length + S.length
  | [], S, S', h => by
    rw [seenF] at h
    obtain rfl := Option.some.inj h
    simp [panes]
  | c :: r, S, S', h => by
    rw [seenF_step] at h
    split at h
    · cases h
    rename_i hb
    split at h
    · rename_i hk
      split at h
      · cases h
      rename_i hid
      have hid1 : idB c.f6 = true := by
        cases hx : idB c.f6
        · exact absurd (Or.inl hx) hid
        · rfl
      simp [idB] at hid1
      obtain ⟨h1, h2⟩ := seen_ok r _ _ h
      refine ⟨fun x hx => ?_, ?_⟩
      · rcases List.mem_cons.1 hx with rfl | hx
        · exact ⟨by omega, .inl ⟨hk, hid1.1, hid1.2⟩⟩
        · exact h1 x hx
      · rw [h2]
        simp [panes, hk]
        omega
    · rename_i hk
      split at h
      · cases h
      rename_i hid
      have hkd : kindB c.f1 = true := by
        cases hx : kindB c.f1
        · exact absurd (Or.inr hx) hid
        · rfl
      simp [kindB] at hkd
      obtain ⟨h1, h2⟩ := seen_ok r _ _ h
      refine ⟨fun x hx => ?_, ?_⟩
      · rcases List.mem_cons.1 hx with rfl | hx
        · exact ⟨by omega, .inr hkd⟩
        · exact h1 x hx
      · rw [h2]
        simp [panes, hk]
theorem grow_good : ∀ k, (∀ l d t rest, l.length ≤ 1000 → (∀ c ∈ l, cellOK c) → growF k l d = some (some (t, rest)) → goodT t ∧ (∀ c r, l = c :: r → t.kind = c.f1) ∧ (∀ c ∈ rest, cellOK c) ∧ rest.length < l.length) ∧
    (∀ c d kids sum l t rest, kids.length + l.length ≤ 1000 → cellOK c → c.f1 ≠ 1 → (∀ c ∈ l, cellOK c) → goodL c.f1 c.f4 c.f5 kids → sum = sumL c.f1 kids - 1 → growL k c d kids sum l = some (some (t, rest)) → goodT t ∧ t.kind = c.f1 ∧ (∀ c ∈ rest, cellOK c) ∧ rest.length ≤ l.length) := by
  intro k
  induction k with
  | zero => exact ⟨fun l d t rest _ _ h => by simp [growF] at h, fun c d kids sum l t rest _ _ _ _ _ _ h => by simp [growL] at h⟩
  | succ k ih =>
    obtain ⟨ih1, ih2⟩ := ih
    constructor
    · intro l d t rest hl hok h
      cases l with
      | nil => simp [growF] at h
      | cons c r =>
        have hc := hok c List.mem_cons_self
        have hr : ∀ c ∈ r, cellOK c := fun x hx => hok x (List.mem_cons_of_mem _ hx)
        rw [growF] at h
        split at h
        · rename_i hk
          simp only [Option.some.injEq, Prod.mk.injEq] at h
          obtain ⟨rfl, rfl⟩ := h
          refine ⟨(goodT_def _ _ _ _ _).2 ⟨hc.1, .inl ⟨rfl, ?_⟩⟩, fun c' r' e => by injection e with e1 _; rw [← e1]; exact hk.symm, hr, by simp⟩
          rcases hc.2 with h | h
          · exact ⟨h.2.1, h.2.2, rfl⟩
          · omega
        · rename_i hk
          obtain ⟨h1, h2, h3, h4⟩ := ih2 c d [] (-1) r t rest (by simp at hl ⊢; omega) hc hk hr (by rw [goodL]; trivial) (by simp [sumL]) h
          exact ⟨h1, fun c' r' e => by injection e with e1 _; rw [← e1]; exact h2, h3, by simp; omega⟩
    · intro c d kids sum l t rest hl hc hk hok hg hs h
      have hs1 := sumL_rng _ _ _ kids hg
      have hw5 : wrap64 (5 - c.f1) = 5 - c.f1 := IntWalk.wrap64_in _ (by rcases hc.2 with h | h <;> omega)
      have tail : ∀ (l' : List S45), l' = l → (if kids.length < 2 then some none else if sum = ext c.f1 c.f4 c.f5 then some (some ((⟨c.f1, c.f4, c.f5, 0, kids⟩ : Tr), l')) else some none) = some (some (t, rest)) → goodT t ∧ t.kind = c.f1 ∧ (∀ c ∈ rest, cellOK c) ∧ rest.length ≤ l.length := by
        intro l' hl' ht
        subst hl'
        split at ht
        · simp at ht
        split at ht
        · rename_i hsum
          simp only [Option.some.injEq, Prod.mk.injEq] at ht
          obtain ⟨rfl, rfl⟩ := ht
          refine ⟨(goodT_def _ _ _ _ _).2 ⟨hc.1, .inr ⟨?_, rfl, by omega, hg, by omega⟩⟩, rfl, hok, Nat.le_refl _⟩
          rcases hc.2 with h | h
          · exact absurd h.1 hk
          · exact h
        · simp at ht
      cases l with
      | nil =>
        rw [growL, if_neg (by simp)] at h
        exact tail [] rfl h
      | cons x r =>
        rw [growL] at h
        split at h
        · split at h
          · simp at h
          · rename_i hx
            obtain ⟨g, hgr, h⟩ := Option.bind_eq_some_iff.1 h
            cases g with
            | none => simp at h
            | some tr =>
              obtain ⟨t', rest'⟩ := tr
              obtain ⟨g1, g2, g3, g4⟩ := ih1 _ _ _ _ (by omega) hok hgr
              simp only at h
              split at h
              · rename_i he
                have hkx : t'.kind ≠ c.f1 := by
                  rw [g2 x r rfl]
                  simpa using hx
                have h1 := ext_rng (kind := c.f1) (good_dim g1)
                have hkl : (kids.length : Int) ≤ 1000 := by omega
                have hsum : wrap64 (sum + wrap64 (ext c.f1 t'.w t'.h + 1)) = sumL c.f1 (kids ++ [t']) - 1 := by
                  rw [sumL_snoc, IntWalk.wrap64_in (ext c.f1 t'.w t'.h + 1) (by omega), IntWalk.wrap64_in _ (by omega)]
                  omega
                have := ih2 c d (kids ++ [t']) _ rest' t rest (by simp at hl g4 ⊢; omega) hc hk g3 (goodL_snoc _ _ _ _ _ hg hkx (by rw [hw5] at he; exact he) g1) hsum h
                exact ⟨this.1, this.2.1, this.2.2.1, by have := this.2.2.2; omega⟩
              · simp at h
        · exact tail (x :: r) rfl h
mutual
def txtT : Tr → Int → Int → List UInt8
  | ⟨kind, w, h, id, kids⟩, x, y => putNum w ++ [120] ++ putNum h ++ [44] ++ putNum x ++ [44] ++ putNum y ++ (if kind = 1 then [44] ++ putNum id else [if kind = 3 then 91 else 123] ++ txtL kind true kids x y ++ [if kind = 3 then 93 else 125])
def txtL : Int → Bool → List Tr → Int → Int → List UInt8
  | _, _, [], _, _ => []
  | kind, first, k :: r, x, y => (if first then [] else [44]) ++ txtT k x y ++ txtL kind false r (if kind = 2 then wrap64 (x + wrap64 (k.w + 1)) else x) (if kind = 2 then y else wrap64 (y + wrap64 (k.h + 1)))
end
theorem layT_head (t : Tr) (d x y : Int) : ∃ c r, layT t d x y = c :: r ∧ c.f0 = d := by
  obtain ⟨kind, w, h, id, kids⟩ := t
  rw [layT]
  split
  · exact ⟨_, _, rfl, rfl⟩
  · exact ⟨_, _, rfl, rfl⟩
theorem layL_cons (kind : Int) (k : Tr) (r : List Tr) (d x y : Int) : layL kind (k :: r) d x y = layT k d x y ++ layL kind r d (if kind = 2 then wrap64 (x + wrap64 (k.w + 1)) else x) (if kind = 2 then y else wrap64 (y + wrap64 (k.h + 1))) := by rw [layL]
theorem txtL_cons (kind : Int) (first : Bool) (k : Tr) (r : List Tr) (x y : Int) : txtL kind first (k :: r) x y = (if first then [] else [44]) ++ txtT k x y ++ txtL kind false r (if kind = 2 then wrap64 (x + wrap64 (k.w + 1)) else x) (if kind = 2 then y else wrap64 (y + wrap64 (k.h + 1))) := by rw [txtL]
theorem cntT_mem (t : Tr) : ∀ ks : List Tr, t ∈ ks → cntT t ≤ cntL ks
  | k :: r, h => by
    rw [cntL]
    rcases List.mem_cons.1 h with rfl | h
    · omega
    · have := cntT_mem t r h
      omega
theorem write_list (kind : Int) (d : Int) : ∀ (ks : List Tr), (∀ t ∈ ks, ∀ (x y : Int) (F : Nat) (P Q : List S45), 2 * (layT t (d + 1) x y).length ≤ F → (∀ c, Q.head? = some c → c.f0 ≤ d + 1) → cellF F (P ++ layT t (d + 1) x y ++ Q) P.length = some (txtT t x y, P.length + (layT t (d + 1) x y).length)) →
    ∀ (x y : Int) (F : Nat) (P Q : List S45) (first : Bool), 2 * (layL kind ks (d + 1) x y).length + 1 ≤ F → (∀ c, Q.head? = some c → c.f0 ≤ d) →
      cellL F (P ++ layL kind ks (d + 1) x y ++ Q) d first P.length = some (txtL kind first ks x y, P.length + (layL kind ks (d + 1) x y).length)
  | [], _, x, y, F, P, Q, first, hF, hQ => by
    have := cellL_end (F := F) (P := P) (C := []) (Q := Q) (d := d) (first := first) (by omega) hQ
    rw [layL, txtL]
    simpa using this
  | k :: r, hk, x, y, F, P, Q, first, hF, hQ => by
    obtain ⟨F, rfl⟩ : ∃ m, F = m + 1 := ⟨F - 1, by omega⟩
    obtain ⟨c, rr, hc, hc0⟩ := layT_head k (d + 1) x y
    have hl : 1 ≤ (layT k (d + 1) x y).length := by rw [hc]; simp
    rw [layL_cons] at hF ⊢
    rw [txtL_cons]
    generalize hx' : (if kind = 2 then wrap64 (x + wrap64 (k.w + 1)) else x) = x' at *
    generalize hy' : (if kind = 2 then y else wrap64 (y + wrap64 (k.h + 1))) = y' at *
    rw [List.length_append] at hF
    have h1 := hk k List.mem_cons_self x y F P (layL kind r (d + 1) x' y' ++ Q) (by omega) (fun c hc => by
      cases r with
      | nil =>
        rw [layL, List.nil_append] at hc
        have := hQ c hc
        omega
      | cons k2 r2 =>
        obtain ⟨c2, rr2, hc2, hc20⟩ := layT_head k2 (d + 1) x' y'
        rw [layL_cons, hc2] at hc
        simp at hc
        rw [← hc]
        omega)
    have h2 := write_list kind d r (fun t ht => hk t (List.mem_cons_of_mem _ ht)) x' y' F (P ++ layT k (d + 1) x y) Q false (by omega) hQ
    have e1 : P ++ (layT k (d + 1) x y ++ layL kind r (d + 1) x' y') ++ Q = P ++ layT k (d + 1) x y ++ (layL kind r (d + 1) x' y' ++ Q) := by simp
    have e2 : P ++ layT k (d + 1) x y ++ (layL kind r (d + 1) x' y' ++ Q) = (P ++ layT k (d + 1) x y) ++ layL kind r (d + 1) x' y' ++ Q := by simp
    have hh : (P ++ layT k (d + 1) x y ++ (layL kind r (d + 1) x' y' ++ Q))[P.length]? = some c := by rw [hc]; exact at_head _ _ _ _
    rw [e1, cellL, hh]
    simp only
    rw [if_pos (by omega), h1]
    simp only [Option.bind_some]
    rw [List.length_append] at h2
    rw [e2, h2]
    simp only [Option.map_some, Option.some.injEq, Prod.mk.injEq, List.length_append]
    refine ⟨?_, by omega⟩
    first | trivial | rfl
theorem write_tree : ∀ (t : Tr) (d x y : Int) (F : Nat) (P Q : List S45), 0 ≤ d → d + cntT t ≤ 1000000 → 2 * (layT t d x y).length ≤ F → (∀ c, Q.head? = some c → c.f0 ≤ d) → cellF F (P ++ layT t d x y ++ Q) P.length = some (txtT t x y, P.length + (layT t d x y).length) := by
  refine Tr.ind ?_
  intro kind W H id kids ih d x y F P Q hd hcn hF hQ
  rw [cntT] at hcn
  obtain ⟨F, rfl⟩ : ∃ m, F = m + 1 := ⟨F - 1, by
    obtain ⟨c, r, hc, _⟩ := layT_head ⟨kind, W, H, id, kids⟩ d x y
    rw [hc] at hF
    simp at hF
    omega⟩
  rw [layT] at hF ⊢
  rw [txtT]
  by_cases hk : kind = 1
  · subst hk
    rw [if_pos rfl, if_pos rfl, cellF, at_head]
    simp only [if_true, Option.some.injEq, Prod.mk.injEq]
    exact ⟨by simp [headT], by simp⟩
  · rw [if_neg hk] at hF ⊢
    rw [if_neg hk, cellF, at_head]
    simp only
    have hw : wrap64 (d + 1) = d + 1 := IntWalk.wrap64_in _ (by omega)
    rw [hw] at hF ⊢
    rw [if_neg hk]
    have hcn' : ∀ t ∈ kids, cntT t ≤ cntL kids := fun t ht => cntT_mem t kids ht
    have h2 := write_list kind d kids (fun t ht x y F P Q hF hQ => ih t ht (d + 1) x y F P Q (by omega) (by have := hcn' t ht; omega) hF hQ) x y F (P ++ [⟨d, kind, x, y, W, H, 0⟩]) Q true (by simp at hF; omega) hQ
    have e : P ++ (⟨d, kind, x, y, W, H, 0⟩ : S45) :: layL kind kids (d + 1) x y ++ Q = (P ++ [⟨d, kind, x, y, W, H, 0⟩]) ++ layL kind kids (d + 1) x y ++ Q := by simp
    have el : P.length + 1 = (P ++ [(⟨d, kind, x, y, W, H, 0⟩ : S45)]).length := by simp
    rw [e, el, h2]
    simp only [Option.map_some, Option.some.injEq, Prod.mk.injEq]
    exact ⟨by simp [headT], by simp; omega⟩
end Go.Proofs.YtmpnkckaohfflaaDoor.PGiv
end
section
namespace Go.Proofs.YtmpnkckaohfflaaDoor.PGiv
open Go.RowKit Go.Proofs.YtmpnkckaohfflaaDoorW.PrintWords Go.Proofs.YtmpnkckaohfflaaDoor.K Go.Proofs.YtmpnkckaohfflaaDoor.Num Go.Proofs.YtmpnkckaohfflaaDoor.Txt
set_option linter.unusedVariables false
set_option linter.unusedSimpArgs false
def NoD (R : List UInt8) : Prop := ∀ c r, R = c :: r → ¬ (48 ≤ c.toNat ∧ c.toNat ≤ 57)
theorem at_drop {s : ByteArray} {a : Nat} {c : UInt8} {R : List UInt8} (h : (By s).drop a = c :: R) : ∃ ha : a < s.size, s[a] = c ∧ (By s).drop (a + 1) = R := by
  have hl : a < (By s).length := by
    rcases Nat.lt_or_ge a (By s).length with h' | h'
    · exact h'
    · rw [List.drop_eq_nil_of_le h'] at h
      cases h
  have e := List.drop_eq_getElem_cons hl
  rw [h] at e
  injection e with e1 e2
  exact ⟨hl, e1.symm, e2.symm⟩
theorem drop_drop {s : ByteArray} {a : Nat} {D R : List UInt8} (h : (By s).drop a = D ++ R) : (By s).drop (a + D.length) = R := by
  rw [← List.drop_drop, h, List.drop_left]
theorem digEnd_run (s : ByteArray) {R : List UInt8} (hR : NoD R) : ∀ (D : List UInt8) (k a : Nat), (∀ c ∈ D, 48 ≤ c.toNat ∧ c.toNat ≤ 57) → (By s).drop a = D ++ R → D.length ≤ k → digEnd k s a = a + D.length
  | [], k, a, _, hd, _ => by
    cases k with
    | zero => rfl
    | succ k =>
      rw [digEnd]
      split
      · rename_i h
        have e := List.drop_eq_getElem_cons (l := By s) (i := a) h
        rw [hd, List.nil_append] at e
        have hn : ¬ (48 ≤ s[a].toNat ∧ s[a].toNat ≤ 57) := hR _ _ e
        rw [if_neg hn]
        rfl
      · rfl
  | c :: D, k, a, hc, hd, hk => by
    obtain ⟨k, rfl⟩ : ∃ m, k = m + 1 := ⟨k - 1, by simp at hk; omega⟩
    obtain ⟨ha, h1, h2⟩ := at_drop hd
    rw [digEnd, dif_pos ha, h1, if_pos (hc c List.mem_cons_self), digEnd_run s hR D k (a + 1) (fun x hx => hc x (List.mem_cons_of_mem _ hx)) h2 (by simp at hk; omega)]
    simp
    omega
theorem putNum_digit (n : Int) : ∀ c ∈ putNum n, 48 ≤ c.toNat ∧ c.toNat ≤ 57 := by
  rcases putNum_cases n with ⟨_, h⟩ | ⟨u, _, _, h⟩
  · rw [h]
    simp
  · rw [h]
    exact dec_digit u
theorem number_run {s : ByteArray} {a : Nat} {n : Int} {R : List UInt8} (h0 : 0 ≤ n) (h1 : n ≤ 4611686018427387904) (hd : (By s).drop a = putNum n ++ R) (hR : NoD R) : rdNumber s a = some (n, a + (putNum n).length) := by
  have hl : (putNum n).length ≤ s.size - a := by
    have e := congrArg List.length hd
    rw [List.length_drop, List.length_append, by_len] at e
    omega
  have hE := digEnd_run s hR (putNum n) (s.size - a) a (putNum_digit n) hd hl
  unfold rdNumber
  rw [hE, seg_extract]
  have hs : seg (By s) a (a + (putNum n).length) = putNum n := by
    unfold seg
    rw [hd, show a + (putNum n).length - a = (putNum n).length by omega, List.take_left]
  have hq : numOf (putNum n) = (n, true) := by rw [numOf_put, if_neg (by omega)]
  rw [hs, hq]
  rfl
theorem next_run {s : ByteArray} {a : Nat} {c : UInt8} {R : List UInt8} (h : (By s).drop a = c :: R) : rdNext s a = some (c, a + 1) := by
  obtain ⟨ha, h1, _⟩ := at_drop h
  unfold rdNext
  rw [dif_pos ha, h1]
theorem must_run {s : ByteArray} {a : Nat} {c : UInt8} {R : List UInt8} (h : (By s).drop a = c :: R) : rdMust s a c = some (a + 1) := by
  unfold rdMust
  rw [next_run h]
  simp
theorem noD_cons {c : UInt8} {R : List UInt8} (h : c.toNat < 48 ∨ 57 < c.toNat) : NoD (c :: R) := fun c' r e => by
  injection e with e _
  rw [← e]
  omega
def room (kind W H x y : Int) (ks : List Tr) : Prop := 0 ≤ x ∧ 0 ≤ y ∧ ((kind = 2 ∧ x + sumL kind ks ≤ 1001 ∧ y + H ≤ 1000) ∨ (kind = 3 ∧ y + sumL kind ks ≤ 1001 ∧ x + W ≤ 1000))
theorem room_step {kind W H x y : Int} {k : Tr} {r : List Tr} (hr : room kind W H x y (k :: r)) (hg : goodL kind W H (k :: r)) :
    (0 ≤ x ∧ x + k.w ≤ 1000 ∧ 0 ≤ y ∧ y + k.h ≤ 1000) ∧ room kind W H (if kind = 2 then wrap64 (x + wrap64 (k.w + 1)) else x) (if kind = 2 then y else wrap64 (y + wrap64 (k.h + 1))) r := by
  obtain ⟨h0, h1, h2⟩ := hr
  rw [goodL] at hg
  have hd := good_dim hg.2.2.1
  have hs := sumL_rng kind W H r hg.2.2.2
  have he := hg.2.1
  rw [sumL] at h2
  rcases h2 with ⟨rfl, h2, h3⟩ | ⟨rfl, h2, h3⟩
  · have e1 : ext 2 k.w k.h = k.w := rfl
    have e2 : ext (5 - 2) k.w k.h = k.h := rfl
    have e3 : ext (5 - 2) W H = H := rfl
    rw [e2, e3] at he
    rw [e1] at h2
    have hw1 : wrap64 (k.w + 1) = k.w + 1 := IntWalk.wrap64_in _ (by omega)
    have hw2 : wrap64 (x + (k.w + 1)) = x + (k.w + 1) := IntWalk.wrap64_in _ (by omega)
    rw [if_pos rfl, if_pos rfl, hw1, hw2]
    exact ⟨by omega, by omega, by omega, .inl ⟨rfl, by omega, by omega⟩⟩
  · have e1 : ext 3 k.w k.h = k.h := rfl
    have e2 : ext (5 - 3) k.w k.h = k.w := rfl
    have e3 : ext (5 - 3) W H = W := rfl
    rw [e2, e3] at he
    rw [e1] at h2
    have hw1 : wrap64 (k.h + 1) = k.h + 1 := IntWalk.wrap64_in _ (by omega)
    have hw2 : wrap64 (y + (k.h + 1)) = y + (k.h + 1) := IntWalk.wrap64_in _ (by omega)
    rw [if_neg (by decide), if_neg (by decide), hw1, hw2]
    exact ⟨by omega, by omega, by omega, .inr ⟨rfl, by omega, by omega⟩⟩
theorem txt_snoc (kind : Int) (k : Tr) (r : List Tr) (x y : Int) : txtL kind false (k :: r) x y = 44 :: txtL kind true (k :: r) x y := by
  rw [txtL_cons, txtL_cons]
  simp
theorem read_list (kind d : Int) (sh : UInt8) (hsh : sh = 93 ∨ sh = 125) (hd1 : wrap64 (d + 1) = d + 1) (W H : Int) : ∀ (ks : List Tr),
    (∀ t ∈ ks, ∀ (x y : Int), goodT t → 0 ≤ x → x + t.w ≤ 1000 → 0 ≤ y → y + t.h ≤ 1000 → ∀ (F : Nat) (s : ByteArray) (a : Nat) (L : List S45) (R : List UInt8), 2 * cntT t ≤ F → (By s).drop a = txtT t x y ++ R → NoD R → cellR F s a L (d + 1) = some (some (L ++ layT t (d + 1) x y, a + (txtT t x y).length))) →
    ∀ (x y : Int) (F : Nat) (s : ByteArray) (a : Nat) (L : List S45) (R : List UInt8), ks ≠ [] → goodL kind W H ks → room kind W H x y ks → 2 * cntL ks + 1 ≤ F → (By s).drop a = txtL kind true ks x y ++ sh :: R →
      loopR F s a L d sh = some (some (L ++ layL kind ks (d + 1) x y, a + (txtL kind true ks x y).length + 1))
  | [], _, x, y, F, s, a, L, R, hne, _, _, _, _ => absurd rfl hne
  | k :: r, hk, x, y, F, s, a, L, R, _, hg, hr, hF, hd => by
    obtain ⟨F, rfl⟩ : ∃ m, F = m + 1 := ⟨F - 1, by omega⟩
    obtain ⟨⟨b1, b2, b3, b4⟩, hr'⟩ := room_step hr hg
    have hg' := hg
    rw [goodL] at hg'
    rw [cntL] at hF
    rw [layL_cons, txtL_cons]
    rw [txtL_cons] at hd
    generalize hx' : (if kind = 2 then wrap64 (x + wrap64 (k.w + 1)) else x) = x' at *
    generalize hy' : (if kind = 2 then y else wrap64 (y + wrap64 (k.h + 1))) = y' at *
    simp only [if_true, List.nil_append] at hd ⊢
    have hshD : sh.toNat < 48 ∨ 57 < sh.toNat := by rcases hsh with rfl | rfl <;> decide
    have hsh44 : ¬ (44 : UInt8) = sh := by rcases hsh with rfl | rfl <;> decide
    have hrd : (By s).drop a = txtT k x y ++ (txtL kind false r x' y' ++ sh :: R) := by rw [hd]; simp
    have hno : NoD (txtL kind false r x' y' ++ sh :: R) := by
      cases r with
      | nil =>
        rw [txtL, List.nil_append]
        exact noD_cons hshD
      | cons k2 r2 =>
        rw [txt_snoc, List.cons_append]
        exact noD_cons (by decide)
    have h1 := hk k List.mem_cons_self x y hg'.2.2.1 b1 b2 b3 b4 F s a L _ (by have := cntT_pos k; omega) hrd hno
    have hd2 := drop_drop hrd
    rw [loopR, hd1, h1]
    simp only [Option.bind_some]
    cases r with
    | nil =>
      rw [txtL, List.nil_append] at hd2
      rw [next_run hd2]
      simp only [if_true, Option.some.injEq, Prod.mk.injEq]
      rw [layL, txtL]
      simp
    | cons k2 r2 =>
      rw [txt_snoc, List.cons_append] at hd2
      rw [next_run hd2]
      simp only
      rw [if_neg hsh44, if_pos trivial]
      have hd3 := (at_drop hd2).2.2
      have := read_list kind d sh hsh hd1 W H (k2 :: r2) (fun t ht => hk t (List.mem_cons_of_mem _ ht)) x' y' F s _ (L ++ layT k (d + 1) x y) R (by simp) hg'.2.2.2 hr' (by have := cntT_pos k; omega) hd3
      rw [this, txt_snoc]
      simp only [Option.some.injEq, Prod.mk.injEq, List.length_append, List.length_cons]
      exact ⟨by simp, by omega⟩
theorem read_tree : ∀ (t : Tr) (d x y : Int), goodT t → 0 ≤ x → x + t.w ≤ 1000 → 0 ≤ y → y + t.h ≤ 1000 → 0 ≤ d → d + cntT t ≤ 1000000 → ∀ (F : Nat) (s : ByteArray) (a : Nat) (L : List S45) (R : List UInt8), 2 * cntT t ≤ F → (By s).drop a = txtT t x y ++ R → NoD R →
    cellR F s a L d = some (some (L ++ layT t d x y, a + (txtT t x y).length)) := by
  refine Tr.ind ?_
  intro kind W H id kids ih d x y hg hx0 hx1 hy0 hy1 hd0 hcn F s a L R hF hdr hR
  rw [cntT] at hcn hF
  obtain ⟨F, rfl⟩ : ∃ m, F = m + 1 := ⟨F - 1, by omega⟩
  have hx1 : x + W ≤ 1000 := hx1
  have hy1 : y + H ≤ 1000 := hy1
  obtain ⟨hdim, hk⟩ := (goodT_def _ _ _ _ _).1 hg
  rw [txtT] at hdr ⊢
  rw [layT]
  generalize htail : (if kind = 1 then [44] ++ putNum id else [if kind = 3 then 91 else 123] ++ txtL kind true kids x y ++ [if kind = 3 then 93 else 125]) = T at hdr ⊢
  have hTne : ∃ c r, T = c :: r ∧ (c.toNat < 48 ∨ 57 < c.toNat) := by
    rw [← htail]
    split
    · exact ⟨44, _, rfl, by decide⟩
    · split
      · exact ⟨91, _, rfl, by decide⟩
      · exact ⟨123, _, rfl, by decide⟩
  have d0 : (By s).drop a = putNum W ++ (120 :: (putNum H ++ (44 :: (putNum x ++ (44 :: (putNum y ++ (T ++ R))))))) := by rw [hdr]; simp
  have n1 := number_run (n := W) (by omega) (by omega) d0 (noD_cons (by decide))
  have d1 := drop_drop d0
  have m1 := must_run d1
  have d2 := (at_drop d1).2.2
  have n2 := number_run (n := H) (by omega) (by omega) d2 (noD_cons (by decide))
  have d3 := drop_drop d2
  have m2 := must_run d3
  have d4 := (at_drop d3).2.2
  have n3 := number_run (n := x) (by omega) (by omega) d4 (noD_cons (by decide))
  have d5 := drop_drop d4
  have m3 := must_run d5
  have d6 := (at_drop d5).2.2
  have n4 := number_run (n := y) (by omega) (by omega) d6 (by
    obtain ⟨c, r, e, h⟩ := hTne
    rw [e, List.cons_append]
    exact noD_cons h)
  have d7 := drop_drop d6
  rw [cellR, n1]
  simp only
  rw [m1]
  simp only
  rw [n2]
  simp only
  rw [m2]
  simp only
  rw [n3]
  simp only
  rw [m3]
  simp only
  rw [n4]
  simp only
  rcases hk with ⟨rfl, hi0, hi1, rfl⟩ | ⟨hk, hi, hlen, hgl, hsum⟩
  · rw [if_pos rfl] at htail
    subst htail
    have d8 : (By s).drop (a + (putNum W).length + 1 + (putNum H).length + 1 + (putNum x).length + 1 + (putNum y).length) = 44 :: (putNum id ++ R) := by rw [d7]; simp
    rw [next_run d8]
    simp only [if_true]
    rw [number_run (n := id) (by omega) hi1 (at_drop d8).2.2 hR]
    simp only [Option.some.injEq, Prod.mk.injEq, List.length_append, List.length_cons, List.length_nil]
    exact ⟨trivial, by omega⟩
  · have hk1 : kind ≠ 1 := by omega
    rw [if_neg hk1] at htail
    rw [if_neg hk1]
    have hw : wrap64 (d + 1) = d + 1 := IntWalk.wrap64_in _ (by omega)
    rw [hw]
    have hroom : room kind W H x y kids := by
      refine ⟨hx0, hy0, ?_⟩
      rcases hk with rfl | rfl
      · left
        have : ext 2 W H = W := rfl
        rw [this] at hsum
        exact ⟨rfl, by omega, by omega⟩
      · right
        have : ext 3 W H = H := rfl
        rw [this] at hsum
        exact ⟨rfl, by omega, by omega⟩
    have hkne : kids ≠ [] := fun e => by rw [e] at hlen; simp at hlen
    have hall := fun sh hsh => read_list kind d sh hsh hw W H kids (fun t ht x y hg h0 h1 h2 h3 F s a L R hF hdr hR => ih t ht (d + 1) x y hg h0 h1 h2 h3 (by omega) (by have := cntT_mem t kids ht; omega) F s a L R hF hdr hR)
    rcases hk with rfl | rfl
    · subst htail
      have d8 : (By s).drop (a + (putNum W).length + 1 + (putNum H).length + 1 + (putNum x).length + 1 + (putNum y).length) = 123 :: (txtL 2 true kids x y ++ 125 :: R) := by rw [d7]; simp
      rw [next_run d8]
      simp only
      rw [if_neg (by decide), if_pos trivial, hall 125 (.inr rfl) x y F s _ _ R hkne hgl hroom (by omega) (at_drop d8).2.2]
      simp only [Option.some.injEq, Prod.mk.injEq, List.length_append, List.length_cons, List.length_nil]
      exact ⟨by simp, by omega⟩
    · subst htail
      have d8 : (By s).drop (a + (putNum W).length + 1 + (putNum H).length + 1 + (putNum x).length + 1 + (putNum y).length) = 91 :: (txtL 3 true kids x y ++ 93 :: R) := by rw [d7]; simp
      rw [next_run d8]
      simp only
      rw [if_neg (by decide), if_neg (by decide), if_pos trivial, hall 93 (.inl rfl) x y F s _ _ R hkne hgl hroom (by omega) (at_drop d8).2.2]
      simp only [Option.some.injEq, Prod.mk.injEq, List.length_append, List.length_cons, List.length_nil]
      exact ⟨by simp, by omega⟩
theorem putNum_small {n : Int} (h0 : 0 ≤ n) (h1 : n < 10000) : (putNum n).length ≤ 4 := by
  rcases putNum_cases n with ⟨_, h⟩ | ⟨u, hu, _, h⟩
  · rw [h]
    simp
  · rw [h]
    exact dec_len 3 u (by omega)
theorem putNum_big (n : Int) : (putNum n).length ≤ 19 := by
  rcases putNum_cases n with ⟨_, h⟩ | ⟨u, hu, hm, h⟩
  · rw [h]
    simp
  · rw [h]
    exact dec_len 18 u (by omega)
theorem panes_app (a b : List S45) : panes (a ++ b) = panes a ++ panes b := by simp [panes]
theorem txtL_len (kind W H d : Int) : ∀ (ks : List Tr), (∀ t ∈ ks, ∀ x y d : Int, goodT t → 0 ≤ x → x + t.w ≤ 1000 → 0 ≤ y → y + t.h ≤ 1000 → (txtT t x y).length + 1 ≤ 22 * (layT t d x y).length + 18 * (panes (layT t d x y)).length) →
    ∀ (x y : Int) (first : Bool), goodL kind W H ks → room kind W H x y ks → (txtL kind first ks x y).length ≤ 22 * (layL kind ks d x y).length + 18 * (panes (layL kind ks d x y)).length
  | [], _, x, y, first, _, _ => by rw [txtL]; simp
  | k :: r, hk, x, y, first, hg, hr => by
    obtain ⟨⟨b1, b2, b3, b4⟩, hr'⟩ := room_step hr hg
    rw [goodL] at hg
    have h1 := hk k List.mem_cons_self x y d hg.2.2.1 b1 b2 b3 b4
    have h2 := txtL_len kind W H d r (fun t ht => hk t (List.mem_cons_of_mem _ ht)) _ _ false hg.2.2.2 hr'
    obtain ⟨c, rr, hc, _⟩ := layT_head k d x y
    have h3 : 1 ≤ (layT k d x y).length := by rw [hc]; simp
    rw [txtL_cons, layL_cons, panes_app]
    have h4 : ((if first then [] else [44]) : List UInt8).length ≤ 1 := by cases first <;> simp
    simp only [List.length_append]
    omega
theorem txtT_len : ∀ (t : Tr) (x y d : Int), goodT t → 0 ≤ x → x + t.w ≤ 1000 → 0 ≤ y → y + t.h ≤ 1000 → (txtT t x y).length + 1 ≤ 22 * (layT t d x y).length + 18 * (panes (layT t d x y)).length := by
  refine Tr.ind ?_
  intro kind W H id kids ih x y d hg hx0 hx1 hy0 hy1
  have hx1 : x + W ≤ 1000 := hx1
  have hy1 : y + H ≤ 1000 := hy1
  obtain ⟨hdim, hk⟩ := (goodT_def _ _ _ _ _).1 hg
  have l1 := putNum_small (n := W) (by omega) (by omega)
  have l2 := putNum_small (n := H) (by omega) (by omega)
  have l3 := putNum_small (n := x) (by omega) (by omega)
  have l4 := putNum_small (n := y) (by omega) (by omega)
  rw [txtT, layT]
  rcases hk with ⟨rfl, hi0, hi1, rfl⟩ | ⟨hk, hi, hlen, hgl, hsum⟩
  · have l5 := putNum_big id
    rw [if_pos rfl, if_pos rfl]
    simp [panes]
    omega
  · have hk1 : kind ≠ 1 := by omega
    have hroom : room kind W H x y kids := by
      refine ⟨hx0, hy0, ?_⟩
      rcases hk with rfl | rfl
      · left
        have : ext 2 W H = W := rfl
        rw [this] at hsum
        exact ⟨rfl, by omega, by omega⟩
      · right
        have : ext 3 W H = H := rfl
        rw [this] at hsum
        exact ⟨rfl, by omega, by omega⟩
    have h2 := txtL_len kind W H (wrap64 (d + 1)) kids (fun t ht x y d hg a b c e => ih t ht x y d hg a b c e) x y true hgl hroom
    rw [if_neg hk1, if_neg hk1]
    have hp : panes ((⟨d, kind, x, y, W, H, 0⟩ : S45) :: layL kind kids (wrap64 (d + 1)) x y) = panes (layL kind kids (wrap64 (d + 1)) x y) := by simp [panes, hk1]
    rw [hp]
    simp only [List.length_append, List.length_cons, List.length_nil]
    omega
end Go.Proofs.YtmpnkckaohfflaaDoor.PGiv
end
section
namespace Go.Proofs.YtmpnkckaohfflaaDoor.M
end Go.Proofs.YtmpnkckaohfflaaDoor.M
end
section
namespace Go.Proofs.YtmpnkckaohfflaaDoor.PGiv
open Go.RowKit Go.Proofs.YtmpnkckaohfflaaDoorW.PrintWords Go.Proofs.YtmpnkckaohfflaaDoor.K Go.Proofs.YtmpnkckaohfflaaDoor.Num Go.Proofs.YtmpnkckaohfflaaDoor.Txt Go.Proofs.YtmpnkckaohfflaaDoor.M
set_option linter.unusedVariables false
set_option linter.unusedSimpArgs false
theorem num_lit {s : ByteArray} {a E u : Nat} (hE : digEnd (s.size - a) s a = E) (hd : (s.extract a E).data.toList = Lib.decDigits u) (hu : u ≤ 4611686018427387904) : rdNumber s a = some ((u : Int), E) := by
  unfold rdNumber
  rw [hE, hd, numOf_dec u hu]
  rfl
theorem dec80 : Lib.decDigits 80 = [56, 48] := by
  rw [dec_big 80 (by decide), Lib.decDigits_one (by decide)]
  decide
theorem dec24 : Lib.decDigits 24 = [50, 52] := by
  rw [dec_big 24 (by decide), Lib.decDigits_one (by decide)]
  decide
def sureS : ByteArray := ⟨#[56, 48, 120, 50, 52, 44, 48, 44, 48, 44, 49]⟩
theorem sure_body : bodyF sureS = some (some [⟨0, 1, 0, 0, 80, 24, 1⟩]) := by
  have h1 : rdNumber sureS 0 = some (80, 2) := num_lit (u := 80) (by decide) (by rw [dec80]; decide) (by decide)
  have h2 : rdMust sureS 2 120 = some 3 := by decide
  have h3 : rdNumber sureS 3 = some (24, 5) := num_lit (u := 24) (by decide) (by rw [dec24]; decide) (by decide)
  have h4 : rdMust sureS 5 44 = some 6 := by decide
  have h5 : rdNumber sureS 6 = some (0, 7) := num_lit (u := 0) (by decide) (by rw [Lib.decDigits_one (by decide)]; decide) (by decide)
  have h6 : rdMust sureS 7 44 = some 8 := by decide
  have h7 : rdNumber sureS 8 = some (0, 9) := num_lit (u := 0) (by decide) (by rw [Lib.decDigits_one (by decide)]; decide) (by decide)
  have h8 : rdNext sureS 9 = some (44, 10) := by decide
  have h9 : rdNumber sureS 10 = some (1, 11) := num_lit (u := 1) (by decide) (by rw [Lib.decDigits_one (by decide)]; decide) (by decide)
  unfold bodyF
  rw [show (5000 : Nat) = 4999 + 1 from rfl, cellR]
  rw [h1]
  simp only
  rw [h2]
  simp only
  rw [h3]
  simp only
  rw [h4]
  simp only
  rw [h5]
  simp only
  rw [h6]
  simp only
  rw [h7]
  simp only
  rw [h8]
  simp only [if_true]
  rw [h9]
  rfl
theorem sure_read : readF [⟨0, 1, 0, 0, 80, 24, 1⟩] = some (some ⟨1, 80, 24, 1, []⟩) := by kernel_rfl
def sureT : ByteArray := ⟨#[98, 50, 53, 101, 44, 56, 48, 120, 50, 52, 44, 48, 44, 48, 44, 49]⟩
theorem sure_parse : plan_Parse.f sureT = some ([⟨0, 1, 0, 0, 80, 24, 1⟩], 0) := by
  have hex : sureT.extract 5 sureT.size = sureS := by decide
  have hq : (sureT.extract 0 4).toList = (fourT (Sm.sum (By sureS))).toList := by
    rw [toList_by, toList_by]
    decide
  have hck : layout_Check.f [⟨0, 1, 0, 0, 80, 24, 1⟩] = some 0 := by unfold layout_Check.f; rw [sure_read]; rfl
  unfold plan_Parse.f
  rw [if_neg (by decide), dif_neg (by decide), if_neg (by decide), if_neg (by decide), hex, sum_E sureS (by decide)]
  simp only [Option.bind_some]
  rw [four_eq]
  simp only [Option.bind_some]
  rw [if_pos hq]
  unfold tailF
  rw [hex, sure_body]
  simp only [Option.bind_some]
  rw [hck]
  rfl
end Go.Proofs.YtmpnkckaohfflaaDoor.PGiv
end
section
namespace Go.Proofs.YtmpnkckaohfflaaDoor.PGiv
open Go.RowKit Go.ChangeShapes Go.WideShapes Go.Proofs.YtmpnkckaohfflaaDoorW.PrintWords Go.Proofs.YtmpnkckaohfflaaDoor.K
set_option linter.unusedVariables false
set_option linter.unusedSimpArgs false
theorem cell_type : ∃ fs : Array Field, Tryd.prog.underlying 45 = some (.struct fs) ∧ fs.map (fun f => (f.type, f.offset)) = #[(3, 0), (3, 1), (3, 2), (3, 3), (3, 4), (3, 5), (3, 6)] := ⟨_, Tryd.underlying45, by kernel_rfl⟩
theorem cell_cells : Tryd.prog.cellsOf 45 = 7 := by kernel_rfl
theorem int_cells : Tryd.prog.cellsOf 3 = 1 := by kernel_rfl
def wfC (c : S45) : Prop := (Lit.int .i64 c.f0).wf = true ∧ (Lit.int .i64 c.f1).wf = true ∧ (Lit.int .i64 c.f2).wf = true ∧ (Lit.int .i64 c.f3).wf = true ∧ (Lit.int .i64 c.f4).wf = true ∧ (Lit.int .i64 c.f5).wf = true ∧ (Lit.int .i64 c.f6).wf = true
set_option maxRecDepth 100000 in
theorem open_cell {H : Type} {enc : TypeId × Value → H} {w : World} {base : Nat} {spare : Nat → Bool} {held : Bool} {fuel : Nat} {cs : List Value} {x : DataW H × List MemPlace} (h : DataW.trod enc Tryd.prog w base spare held fuel 45 cs = some x) :
    ∃ c : S45, cs = [.int .i64 c.f0, .int .i64 c.f1, .int .i64 c.f2, .int .i64 c.f3, .int .i64 c.f4, .int .i64 c.f5, .int .i64 c.f6] ∧ wfC c := by
  obtain ⟨fs, hu, hfs⟩ := cell_type
  obtain ⟨xs, n, _, _, hl, hxl, hf⟩ := DataW.trod_struct hu h
  have hsz : fs.size = 7 := by simpa using congrArg Array.size hfs
  rw [cell_cells] at hl
  have one : ∀ (i : Nat), i < 7 → ∃ n : Int, (cs.drop i).take 1 = [.int .i64 n] ∧ (Lit.int .i64 n).wf = true := by
    intro i hi
    have hi' : i < fs.size := by omega
    have e := congrArg (·[i]?) hfs
    simp only [Array.getElem?_map, Array.getElem?_eq_getElem hi', Option.map_some] at e
    have e2 : fs[i].type = 3 ∧ fs[i].offset = i := by
      have hi7 : i = 0 ∨ i = 1 ∨ i = 2 ∨ i = 3 ∨ i = 4 ∨ i = 5 ∨ i = 6 := by omega
      rcases hi7 with rfl | rfl | rfl | rfl | rfl | rfl | rfl <;> simpa using e
    have := hf i fs[i] (Array.getElem?_eq_getElem hi')
    rw [e2.1, e2.2, int_cells] at this
    obtain ⟨y, hy⟩ : ∃ y, xs[i]? = some y := ⟨_, List.getElem?_eq_getElem (by omega)⟩
    rw [hy] at this
    obtain ⟨n, h1, _, h2⟩ := DataW.trod_int Tryd.underlying3 this
    exact ⟨n, h1, h2⟩
  obtain ⟨n0, h0, w0⟩ := one 0 (by omega)
  obtain ⟨n1, h1, w1⟩ := one 1 (by omega)
  obtain ⟨n2, h2, w2⟩ := one 2 (by omega)
  obtain ⟨n3, h3, w3⟩ := one 3 (by omega)
  obtain ⟨n4, h4, w4⟩ := one 4 (by omega)
  obtain ⟨n5, h5, w5⟩ := one 5 (by omega)
  obtain ⟨n6, h6, w6⟩ := one 6 (by omega)
  match cs, hl with
  | [v0, v1, v2, v3, v4, v5, v6], _ =>
    simp at h0 h1 h2 h3 h4 h5 h6
    subst h0 h1 h2 h3 h4 h5 h6
    exact ⟨⟨n0, n1, n2, n3, n4, n5, n6⟩, rfl, w0, w1, w2, w3, w4, w5, w6⟩
theorem open_cells {H : Type} {enc : TypeId × Value → H} {w : World} {base : Nat} {spare : Nat → Bool} {held : Bool} {t fuel : Nat} {A : Option Addr} {len cap : Nat} {x : DataW H × List MemPlace} (ht : Tryd.prog.underlying t = some (.slice 45)) (h : DataW.trod enc Tryd.prog w base spare held fuel t [.slice A len cap] = some x) :
    ∃ l : List S45, l.length = len ∧ len ≤ cap ∧ cap ≤ maxLen ∧ Kd.C k45 w A l.length l ∧ ∀ c ∈ l, wfC c := by
  rcases Go.Deep.open_slice ht h with ⟨hcs, _⟩ | ⟨a, len', cap', m, n, D, Pl, hcs, hb, hl, hm, hmm, _, hx⟩
  · simp at hcs
    obtain ⟨rfl, rfl, rfl⟩ := hcs
    exact ⟨[], rfl, by omega, by decide, ⟨rfl, by simp, fun h => by simp at h⟩, by simp⟩
  · simp at hcs
    obtain ⟨rfl, rfl, rfl⟩ := hcs
    have hlm : len ≤ m := by rw [hmm]; split <;> omega
    have each : ∀ i, i < len → ∃ c : S45, w.cells? base (a.add (i * 7)) 7 = some [.int .i64 c.f0, .int .i64 c.f1, .int .i64 c.f2, .int .i64 c.f3, .int .i64 c.f4, .int .i64 c.f5, .int .i64 c.f6] ∧ wfC c := by
      intro i hi
      obtain ⟨cs', h1, h2⟩ := hx i (by omega)
      rw [cell_cells] at h1
      obtain ⟨c, rfl, hw⟩ := open_cell h2
      exact ⟨c, h1, hw⟩
    haveI : Inhabited S45 := ⟨z45⟩
    obtain ⟨q, hq⟩ := Go.Deep.choose_lt each
    refine ⟨(List.range len).map q, by simp, hl, hm, ?_, ?_⟩
    · have hmax : maxLen ≤ 9223372036854775807 := by decide
      refine ⟨rfl, by simp; omega, fun _ => ⟨a, rfl, fun j p hj => ?_⟩⟩
      obtain ⟨hj1, hj2⟩ := List.getElem?_eq_some_iff.1 hj
      simp at hj1 hj2
      subst hj2
      obtain ⟨h1, _⟩ := hq j hj1
      obtain ⟨_, hlen, hcell⟩ := World.cells?_some h1
      refine ⟨_, rfl, k45_mk w (q j), fun i u hu => ?_⟩
      have hi : i < 7 := by
        obtain ⟨h, _⟩ := List.getElem?_eq_some_iff.1 hu
        simpa using h
      have := hcell i hi
      rw [hu] at this
      rw [← this]
      show w.cell? (a.add (j * 7 + i)) = w.cell? ((a.add (j * 7)).add i)
      rw [Go.Deep.add_add]
    · intro c hc
      obtain ⟨i, hi, rfl⟩ := List.mem_map.1 hc
      exact (hq i (List.mem_range.1 hi)).2
end Go.Proofs.YtmpnkckaohfflaaDoor.PGiv
end
section
namespace Go.Proofs.YtmpnkckaohfflaaDoor.PGiv
open Go.RowKit Go.Proofs.YtmpnkckaohfflaaDoorW.PrintWords Go.Proofs.YtmpnkckaohfflaaDoor.K Go.Proofs.YtmpnkckaohfflaaDoor.Num Go.Proofs.YtmpnkckaohfflaaDoor.Txt Go.Proofs.YtmpnkckaohfflaaDoor.M
set_option linter.unusedVariables false
set_option linter.unusedSimpArgs false
theorem read_good {L : List S45} {t : Tr} (h : readF L = some (some t)) : goodT t ∧ (∀ c ∈ L, cellOK c) ∧ (panes L).length ≤ 32 ∧ L.length ≤ 64 ∧ layT t 0 0 0 = L ∧ cntT t ≤ 64 := by
  cases L with
  | nil => simp [readF] at h
  | cons c l =>
    rw [readF] at h
    split at h
    · simp at h
    rename_i h64
    split at h
    · simp at h
    split at h
    · simp at h
    cases hs : seenF (c :: l) [] with
    | none => rw [hs] at h; simp at h
    | some S =>
      rw [hs] at h
      simp only at h
      split at h
      · simp at h
      rename_i h32
      obtain ⟨g, hg, h⟩ := Option.bind_eq_some_iff.1 h
      cases g with
      | none => simp at h
      | some tr =>
        obtain ⟨t', rest⟩ := tr
        simp only at h
        split at h
        · simp at h
        · split at h
          · rename_i hl
            simp only [Option.some.injEq] at h
            subst h
            obtain ⟨h1, h2⟩ := seen_ok _ _ _ hs
            obtain ⟨g1, _⟩ := (grow_good 1000).1 _ _ _ _ (by omega) h1 hg
            have hcn := (grow_cnt 1000).1 _ _ _ _ hg
            exact ⟨g1, h1, by simp at h2; omega, by omega, hl, by omega⟩
          · simp at h
theorem lay_ok : ∀ (t : Tr) (x y d : Int), goodT t → 0 ≤ x → x + t.w ≤ 1000 → 0 ≤ y → y + t.h ≤ 1000 → ∀ c ∈ layT t d x y, okC c := by
  refine Tr.ind ?_
  intro kind W H id kids ih x y d hg hx0 hx1 hy0 hy1
  have hx1 : x + W ≤ 1000 := hx1
  have hy1 : y + H ≤ 1000 := hy1
  obtain ⟨hdim, hk⟩ := (goodT_def _ _ _ _ _).1 hg
  rw [layT]
  have ok : ∀ q : Int, 0 ≤ q → q ≤ 4611686018427387904 → okC ⟨d, kind, x, y, W, H, q⟩ := fun q h0 h1 => ⟨⟨by show _ ≤ x; omega, by show x ≤ _; omega⟩, ⟨by show _ ≤ y; omega, by show y ≤ _; omega⟩, ⟨by show _ ≤ W; omega, by show W ≤ _; omega⟩, ⟨by show _ ≤ H; omega, by show H ≤ _; omega⟩, ⟨by show _ ≤ q; omega, by show q ≤ _; omega⟩⟩
  rcases hk with ⟨rfl, hi0, hi1, rfl⟩ | ⟨hk, hi, hlen, hgl, hsum⟩
  · rw [if_pos rfl]
    intro c hc
    rw [List.mem_singleton] at hc
    rw [hc]
    exact ok id (by omega) hi1
  · have hk1 : kind ≠ 1 := by omega
    rw [if_neg hk1]
    have hroom : room kind W H x y kids := by
      refine ⟨hx0, hy0, ?_⟩
      rcases hk with rfl | rfl
      · left
        have : ext 2 W H = W := rfl
        rw [this] at hsum
        exact ⟨rfl, by omega, by omega⟩
      · right
        have : ext 3 W H = H := rfl
        rw [this] at hsum
        exact ⟨rfl, by omega, by omega⟩
    have all : ∀ (ks : List Tr) (x y : Int), (∀ t ∈ ks, t ∈ kids) → goodL kind W H ks → room kind W H x y ks → ∀ c ∈ layL kind ks (wrap64 (d + 1)) x y, okC c := by
      intro ks
      induction ks with
      | nil => intro x y _ _ _ c hc; rw [layL] at hc; simp at hc
      | cons k r ihr =>
        intro x y hm hg hr c hc
        obtain ⟨⟨b1, b2, b3, b4⟩, hr'⟩ := room_step hr hg
        rw [goodL] at hg
        rw [layL_cons] at hc
        rcases List.mem_append.1 hc with hc | hc
        · exact ih k (hm k List.mem_cons_self) x y _ hg.2.2.1 b1 b2 b3 b4 c hc
        · exact ihr _ _ (fun t ht => hm t (List.mem_cons_of_mem _ ht)) hg.2.2.2 hr' c hc
    intro c hc
    rcases List.mem_cons.1 hc with rfl | hc
    · exact ok 0 (by omega) (by omega)
    · exact all kids x y (fun t ht => ht) hgl hroom c hc
theorem txt_ne (t : Tr) (x y : Int) : txtT t x y ≠ [] := by
  obtain ⟨kind, w, h, id, kids⟩ := t
  rw [txtT]
  simp
theorem bt_at (s : ByteArray) (i : Nat) (h : i < s.size) : bt s (i : Int) = (s[i].toNat : Int) := by
  unfold bt
  rw [dif_pos (by simpa using h)]
  rfl
theorem hex_at : ∀ i : Nat, i < 16 → 0 ≤ Lib.indexByte hexD.data.toList (UInt8.ofNat (bt hexD (i : Int)).toNat) := by decide
theorem hex_mod (n : Int) : 0 ≤ Lib.indexByte hexD.data.toList (UInt8.ofNat (bt hexD (n % 16)).toNat) := by
  have := hex_at (n % 16).toNat (by omega)
  rwa [Int.toNat_of_nonneg (by omega)] at this
theorem four_list (n : Int) : By (fourT n) = [UInt8.ofNat (bt hexD (n / 4096 % 16)).toNat, UInt8.ofNat (bt hexD (n / 256 % 16)).toNat, UInt8.ofNat (bt hexD (n / 16 % 16)).toNat, UInt8.ofNat (bt hexD (n % 16)).toNat] := rfl
theorem parts (n : Int) (B : List UInt8) (s : ByteArray) (hs : By s = By (fourT n) ++ [44] ++ B) : s.size = 5 + B.length ∧ s.extract 0 4 = fourT n ∧ s.extract 5 s.size = ⟨B.toArray⟩ ∧ (∀ h : 4 < s.size, s[4] = 44) ∧ hexTo s 4 0 = true := by
  have h4 := four_list n
  have hsz : s.size = 5 + B.length := by
    have e := congrArg List.length hs
    rw [by_len, h4] at e
    simp at e
    omega
  refine ⟨hsz, ?_, ?_, ?_, ?_⟩
  · apply by_ext
    show (s.extract 0 4).data.toList = _
    rw [seg_extract]
    show seg (By s) 0 4 = _
    rw [hs, h4]
    rfl
  · apply by_ext
    show (s.extract 5 s.size).data.toList = _
    rw [seg_extract]
    show seg (By s) 5 s.size = B
    rw [hs, h4, hsz]
    unfold seg
    simp
  · intro h
    have : (By s)[4]? = some 44 := by rw [hs, h4]; rfl
    rw [List.getElem?_eq_getElem (by rw [by_len]; exact h)] at this
    exact Option.some.inj this
  · have at_ : ∀ (i : Nat) (c : UInt8), (By s)[i]? = some c → 0 ≤ Lib.indexByte hexD.data.toList c → hexAt s i = true := by
      intro i c hc h0
      obtain ⟨hi, e⟩ := List.getElem?_eq_some_iff.1 hc
      have hi' : i < s.size := hi
      have e' : s[i] = c := e
      rw [hexAt, dif_pos hi', e', decide_eq_true h0]
    have a0 := at_ 0 _ (by rw [hs, h4]; rfl) (hex_mod (n / 4096))
    have a1 := at_ 1 _ (by rw [hs, h4]; rfl) (hex_mod (n / 256))
    have a2 := at_ 2 _ (by rw [hs, h4]; rfl) (hex_mod (n / 16))
    have a3 := at_ 3 _ (by rw [hs, h4]; rfl) (hex_mod n)
    rw [hexTo, hexTo, hexTo, hexTo, hexTo, a0, a1, a2, a3]
    rfl
theorem text_back {L : List S45} {t : Tr} (h : readF L = some (some t)) : ∃ s : ByteArray, plan_Text.f L = some (s, 0) ∧ By s = By (fourT (Sm.sum (txtT t 0 0))) ++ [44] ++ txtT t 0 0 ∧ s.size ≤ 2048 ∧ plan_Parse.f s = some (L, 0) := by
  obtain ⟨hg, hok, h32, h64, hl, hcnt⟩ := read_good h
  have hdim := good_dim hg
  have hlen := txtT_len t 0 0 0 hg (by omega) (by omega) (by omega) (by omega)
  rw [hl] at hlen
  have hw := write_tree t 0 0 0 1000 [] [] (by omega) (by omega) (by rw [hl]; omega) (by simp)
  rw [hl] at hw
  simp only [List.nil_append, List.append_nil, List.length_nil] at hw
  have hokC : ∀ c ∈ L, okC c := by
    rw [← hl]
    exact lay_ok t 0 0 0 hg (by omega) (by omega) (by omega) (by omega)
  have ht := text_of h hw hokC (txt_ne t 0 0) (by omega)
  refine ⟨_, ht, ?_, ?_, ?_⟩
  · rw [by_app, by_app]
  · rw [ByteArray.size_append, ByteArray.size_append, fourT_size]
    show 4 + 1 + (txtT t 0 0).length ≤ 2048
    omega
  · generalize hS : fourT (Sm.sum (txtT t 0 0)) ++ (⟨#[44]⟩ : ByteArray) ++ ⟨(txtT t 0 0).toArray⟩ = s
    have hbs : By s = By (fourT (Sm.sum (txtT t 0 0))) ++ [44] ++ txtT t 0 0 := by
      rw [← hS, by_app, by_app]
    obtain ⟨p1, p2, p3, p4, p5⟩ := parts _ _ s hbs
    unfold plan_Parse.f
    rw [if_neg (by omega), dif_neg (by omega), if_neg (by rw [p4]; simp), if_neg (by rw [p5]; simp), p3, sum_E _ (by show (txtT t 0 0).length ≤ 100000; omega)]
    simp only [Option.bind_some]
    rw [four_eq]
    simp only [Option.bind_some]
    rw [if_pos (by rw [p2])]
    unfold tailF
    rw [p3]
    have hr := read_tree t 0 0 0 hg (by omega) (by omega) (by omega) (by omega) (by omega) (by omega) 5000 ⟨(txtT t 0 0).toArray⟩ 0 [] [] (by omega) (by simp [By]) (fun c r e => by cases e)
    rw [hl, List.nil_append] at hr
    have hb : bodyF ⟨(txtT t 0 0).toArray⟩ = some (some L) := by
      unfold bodyF
      rw [hr]
      simp only [Option.bind_some]
      rw [if_pos (by show 0 + (txtT t 0 0).length = (txtT t 0 0).toArray.size; simp)]
    rw [hb]
    simp only [Option.bind_some]
    have hck : layout_Check.f L = some 0 := by unfold layout_Check.f; rw [h]; rfl
    rw [hck]
    rfl
end Go.Proofs.YtmpnkckaohfflaaDoor.PGiv
end
section
namespace Go.Proofs.YtmpnkckaohfflaaDoor.PGiv
open Go.RowKit Go.Proofs.YtmpnkckaohfflaaDoorW.PrintWords Go.Proofs.YtmpnkckaohfflaaDoor.K Go.Proofs.YtmpnkckaohfflaaDoor.Num Go.Proofs.YtmpnkckaohfflaaDoor.Txt Go.Proofs.YtmpnkckaohfflaaDoor.L
set_option linter.unusedVariables false
set_option linter.unusedSimpArgs false
mutual
def gF : Nat → List S45 → Option (S72 × List S45)
  | 0, _ => none
  | _ + 1, [] => none
  | k + 1, c :: r => gL k c [] r
def gL : Nat → S45 → List S72 → List S45 → Option (S72 × List S45)
  | 0, _, _, _ => none
  | k + 1, c, kids, l => match l with
    | [] => some (⟨c.f1, c.f4, c.f5, c.f6, kids⟩, [])
    | x :: r => if c.f0 < x.f0 then (gF k (x :: r)).bind fun p => gL k c (kids ++ [p.1]) p.2 else some (⟨c.f1, c.f4, c.f5, c.f6, kids⟩, x :: r)
end
theorem g_drop : ∀ k, (∀ s t rest, gF k s = some (t, rest) → ∃ m, 1 ≤ m ∧ m ≤ s.length ∧ rest = s.drop m) ∧ (∀ c kids s t rest, gL k c kids s = some (t, rest) → ∃ m, m ≤ s.length ∧ rest = s.drop m) := by
  intro k
  induction k with
  | zero => exact ⟨fun s t rest h => by simp [gF] at h, fun c kids s t rest h => by simp [gL] at h⟩
  | succ k ih =>
    obtain ⟨ih1, ih2⟩ := ih
    constructor
    · intro s t rest h
      cases s with
      | nil => simp [gF] at h
      | cons c r =>
        rw [gF] at h
        obtain ⟨m, hm, e⟩ := ih2 _ _ _ _ _ h
        exact ⟨m + 1, by omega, by simp; omega, by rw [e]; rfl⟩
    · intro c kids s t rest h
      cases s with
      | nil =>
        simp only [gL, Option.some.injEq, Prod.mk.injEq] at h
        exact ⟨0, by simp, h.2.symm⟩
      | cons x r =>
        rw [gL] at h
        split at h
        · obtain ⟨⟨t1, r1⟩, h1, h2⟩ := Option.bind_eq_some_iff.1 h
          obtain ⟨m1, l1, l2, e1⟩ := ih1 _ _ _ h1
          obtain ⟨m2, l3, e2⟩ := ih2 _ _ _ _ _ h2
          simp only at e2 l3
          subst e1
          rw [List.length_drop] at l3
          exact ⟨m1 + m2, by omega, by rw [e2, List.drop_drop]⟩
        · simp only [Option.some.injEq, Prod.mk.injEq] at h
          exact ⟨0, by simp, h.2.symm⟩
mutual
def ofS : S72 → Tr
  | ⟨kind, w, h, id, kids⟩ => ⟨kind, w, h, id, ofL kids⟩
def ofL : List S72 → List Tr
  | [] => []
  | k :: r => ofS k :: ofL r
end
mutual
def toS : Tr → S72
  | ⟨kind, w, h, id, kids⟩ => ⟨kind, w, h, id, toL kids⟩
def toL : List Tr → List S72
  | [] => []
  | k :: r => toS k :: toL r
end
theorem ofL_map : ∀ ks, ofL ks = ks.map ofS
  | [] => by rw [ofL]; rfl
  | k :: r => by rw [ofL, ofL_map r]; rfl
theorem toL_map : ∀ ks, toL ks = ks.map toS
  | [] => by rw [toL]; rfl
  | k :: r => by rw [toL, toL_map r]; rfl
theorem toL_len (ks : List Tr) : (toL ks).length = ks.length := by rw [toL_map, List.length_map]
theorem of_to : ∀ t : Tr, ofS (toS t) = t := Tr.ind fun kind w h id kids ih => by
  rw [toS, ofS, toL_map, ofL_map, List.map_map]
  have : kids.map (ofS ∘ toS) = kids := (List.map_congr_left fun t ht => ih t ht).trans (List.map_id _)
  rw [this]
mutual
theorem to_of : ∀ n : S72, toS (ofS n) = n
  | ⟨kind, w, h, id, kids⟩ => by
    rw [ofS, toS, to_ofL kids]
theorem to_ofL : ∀ ks : List S72, toL (ofL ks) = ks
  | [] => by rw [ofL, toL]
  | k :: r => by rw [ofL, toL, to_of k, to_ofL r]
end
theorem gL_lay (kind d : Int) (hd1 : wrap64 (d + 1) = d + 1) : ∀ (ks : List Tr), (∀ t ∈ ks, ∀ (k : Nat) (x y : Int) (Q : List S45), goodT t → 2 * cntT t ≤ k → (∀ c, Q.head? = some c → c.f0 ≤ d + 1) → gF k (layT t (d + 1) x y ++ Q) = some (toS t, Q)) →
    ∀ (k : Nat) (c : S45) (acc : List S72) (W H x y : Int) (Q : List S45), c.f0 = d → goodL kind W H ks → 2 * cntL ks + 1 ≤ k → (∀ c, Q.head? = some c → c.f0 ≤ d) → gL k c acc (layL kind ks (d + 1) x y ++ Q) = some (⟨c.f1, c.f4, c.f5, c.f6, acc ++ toL ks⟩, Q)
  | [], _, k, c, acc, W, H, x, y, Q, hc, hg, hk, hQ => by
    obtain ⟨k, rfl⟩ : ∃ m, k = m + 1 := ⟨k - 1, by omega⟩
    rw [layL, toL, List.append_nil, List.nil_append]
    cases Q with
    | nil => rw [gL]
    | cons q Q =>
      have := hQ q rfl
      rw [gL]
      rw [if_neg (by omega)]
  | t :: r, ih, k, c, acc, W, H, x, y, Q, hc, hg, hk, hQ => by
    obtain ⟨k, rfl⟩ : ∃ m, k = m + 1 := ⟨k - 1, by omega⟩
    rw [cntL] at hk
    rw [goodL] at hg
    obtain ⟨q, qs, hq, hq0⟩ := layT_head t (d + 1) x y
    rw [layL_cons, List.append_assoc]
    generalize (if kind = 2 then wrap64 (x + wrap64 (t.w + 1)) else x) = x'
    generalize (if kind = 2 then y else wrap64 (y + wrap64 (t.h + 1))) = y'
    have h1 := ih t List.mem_cons_self k x y (layL kind r (d + 1) x' y' ++ Q) hg.2.2.1 (by omega) (fun e he => by
      cases r with
      | nil =>
        rw [layL, List.nil_append] at he
        have := hQ e he
        omega
      | cons t2 r2 =>
        obtain ⟨q2, qs2, hq2, hq20⟩ := layT_head t2 (d + 1) x' y'
        rw [layL_cons, hq2] at he
        simp at he
        rw [← he]
        omega)
    have h2 := gL_lay kind d hd1 r (fun t ht => ih t (List.mem_cons_of_mem _ ht)) k c (acc ++ [toS t]) W H x' y' Q hc hg.2.2.2 (by have := cntT_pos t; omega) hQ
    rw [hq] at h1 ⊢
    rw [List.cons_append] at h1 ⊢
    rw [gL]
    rw [if_pos (by omega), h1]
    simp only [Option.bind_some]
    rw [h2, toL]
    simp
theorem gF_lay : ∀ (t : Tr) (k : Nat) (d x y : Int) (Q : List S45), goodT t → 2 * cntT t ≤ k → 0 ≤ d → d + cntT t ≤ 1000000 → (∀ c, Q.head? = some c → c.f0 ≤ d) → gF k (layT t d x y ++ Q) = some (toS t, Q) := by
  refine Tr.ind ?_
  intro kind W H id kids ih k d x y Q hg hk hd hdc hQ
  rw [cntT] at hk hdc
  obtain ⟨k, rfl⟩ : ∃ m, k = m + 1 := ⟨k - 1, by omega⟩
  obtain ⟨hdim, hkk⟩ := (goodT_def _ _ _ _ _).1 hg
  rw [layT, toS]
  rcases hkk with ⟨rfl, hi0, hi1, rfl⟩ | ⟨hkk, rfl, hlen, hgl, hsum⟩
  · rw [if_pos rfl, List.cons_append, List.nil_append, gF]
    obtain ⟨k, rfl⟩ : ∃ m, k = m + 1 := ⟨k - 1, by omega⟩
    cases Q with
    | nil => rw [gL, toL]
    | cons q Q =>
      have hq : q.f0 ≤ d := hQ q rfl
      rw [gL]
      rw [if_neg (show ¬ d < q.f0 by omega), toL]
  · have hk1 : kind ≠ 1 := by omega
    have hw : wrap64 (d + 1) = d + 1 := IntWalk.wrap64_in _ (by omega)
    rw [if_neg hk1, List.cons_append, gF, hw]
    have := gL_lay kind d hw kids (fun t ht k x y Q hg hk hQ => ih t ht k (d + 1) x y Q hg hk (by omega) (by have := cntT_mem t kids ht; omega) hQ) k ⟨d, kind, x, y, W, H, 0⟩ [] W H x y Q rfl hgl (by omega) hQ
    rw [this]
    simp
theorem g_cnt : ∀ k, (∀ s t rest, gF k s = some (t, rest) → cntT (ofS t) + rest.length = s.length) ∧ (∀ c kids s t rest, gL k c kids s = some (t, rest) → cntT (ofS t) + rest.length = 1 + cntL (ofL kids) + s.length) := by
  intro k
  induction k with
  | zero => exact ⟨fun s t rest h => by simp [gF] at h, fun c kids s t rest h => by simp [gL] at h⟩
  | succ k ih =>
    obtain ⟨ih1, ih2⟩ := ih
    constructor
    · intro s t rest h
      cases s with
      | nil => simp [gF] at h
      | cons c r =>
        rw [gF] at h
        have := ih2 _ _ _ _ _ h
        rw [ofL, cntL] at this
        rw [List.length_cons]
        omega
    · intro c kids s t rest h
      have done : ∀ (l : List S45), some ((⟨c.f1, c.f4, c.f5, c.f6, kids⟩ : S72), l) = some (t, rest) → cntT (ofS t) + rest.length = 1 + cntL (ofL kids) + l.length := fun l e => by
        simp only [Option.some.injEq, Prod.mk.injEq] at e
        obtain ⟨rfl, rfl⟩ := e
        rw [ofS, cntT]
      cases s with
      | nil =>
        rw [gL] at h
        exact done [] h
      | cons x r =>
        rw [gL] at h
        split at h
        · obtain ⟨⟨t1, r1⟩, h1, h2⟩ := Option.bind_eq_some_iff.1 h
          have e1 := ih1 _ _ _ h1
          have e2 := ih2 _ _ _ _ _ h2
          have e3 : cntL (ofL (kids ++ [t1])) = cntL (ofL kids) + cntT (ofS t1) := by
            rw [ofL_map, ofL_map, List.map_append]
            generalize kids.map ofS = ks
            induction ks with
            | nil => simp [cntL]
            | cons a b ihb =>
              rw [List.cons_append, cntL, cntL, ihb]
              omega
          simp only at e2
          rw [e3] at e2
          omega
        · exact done _ h
theorem g_whole : ∀ k c kids s t rest, (∀ x ∈ s, c.f0 < x.f0) → gL k c kids s = some (t, rest) → rest = [] := by
  intro k
  induction k with
  | zero => intro c kids s t rest _ h; simp [gL] at h
  | succ k ih =>
    intro c kids s t rest hs h
    cases s with
    | nil =>
      simp only [gL, Option.some.injEq, Prod.mk.injEq] at h
      exact h.2.symm
    | cons x r =>
      rw [gL] at h
      rw [if_pos (hs x List.mem_cons_self)] at h
      obtain ⟨⟨t1, r1⟩, h1, h2⟩ := Option.bind_eq_some_iff.1 h
      obtain ⟨m, _, _, e⟩ := (g_drop k).1 _ _ _ h1
      exact ih _ _ _ _ _ (fun y hy => hs y (by rw [e] at hy; exact List.mem_of_mem_drop hy)) h2
theorem g_some : ∀ k, (∀ s, s ≠ [] → 2 * s.length ≤ k → ∃ r, gF k s = some r) ∧ (∀ c kids s, 2 * s.length + 1 ≤ k → ∃ r, gL k c kids s = some r) := by
  intro k
  induction k with
  | zero =>
    refine ⟨fun s h1 h2 => ?_, fun c kids s h => by omega⟩
    cases s with
    | nil => exact absurd rfl h1
    | cons x r => simp at h2
  | succ k ih =>
    obtain ⟨ih1, ih2⟩ := ih
    constructor
    · intro s h1 h2
      cases s with
      | nil => exact absurd rfl h1
      | cons c r =>
        rw [gF]
        exact ih2 _ _ _ (by simp at h2; omega)
    · intro c kids s h
      cases s with
      | nil => exact ⟨_, by rw [gL]⟩
      | cons x r =>
        rw [gL]
        split
        · obtain ⟨⟨t1, r1⟩, h1⟩ := ih1 (x :: r) (by simp) (by simp at h ⊢; omega)
          rw [h1]
          simp only [Option.bind_some]
          obtain ⟨m, l1, l2, e⟩ := (g_drop k).1 _ _ _ h1
          have : r1.length ≤ r.length := by rw [e, List.length_drop]; simp; omega
          exact ih2 _ _ _ (by simp at h; omega)
        · exact ⟨_, rfl⟩
theorem grown_eq : ∀ k, (∀ (l : List S45) (i : Nat) t rest, l.length ≤ 1000 → gF k (l.drop i) = some (t, rest) → mullionref04_grown.f k l (i : Int) = some (t.f0, t.f1, t.f2, t.f3, t.f4, ((l.length - rest.length : Nat) : Int))) ∧
    (∀ (c : S45) (kids : List S72) (l : List S45) (j : Nat) t rest, l.length ≤ 1000 → j ≤ l.length → kids.length ≤ j → gL k c kids (l.drop j) = some (t, rest) → mullionref04_grown.l0 k l (j : Int) c.f0 c.f1 c.f2 c.f3 c.f4 c.f5 c.f6 c.f1 c.f4 c.f5 c.f6 kids = some (t.f0, t.f1, t.f2, t.f3, t.f4, ((l.length - rest.length : Nat) : Int))) := by
  intro k
  induction k with
  | zero => exact ⟨fun l i t rest _ h => by simp [gF] at h, fun c kids l j t rest _ _ _ h => by simp [gL] at h⟩
  | succ k ih =>
    obtain ⟨ih1, ih2⟩ := ih
    constructor
    · intro l i t rest hl h
      by_cases hi : i < l.length
      · have hdr : l.drop i = l[i] :: l.drop (i + 1) := List.drop_eq_getElem_cons hi
        rw [hdr, gF] at h
        rw [mullionref04_grown.f, if_pos (by omega), if_pos (by omega), rd_at l i hi, IntWalk.wrap64_in _ (by omega)]
        exact ih2 l[i] [] l (i + 1) t rest hl (by omega) (by simp) h
      · rw [List.drop_eq_nil_of_le (by omega)] at h
        simp [gF] at h
    · intro c kids l j t rest hl hj hk h
      by_cases hi : j < l.length
      · have hdr : l.drop j = l[j] :: l.drop (j + 1) := List.drop_eq_getElem_cons hi
        rw [mullionref04_grown.l0, if_pos (by omega), if_pos (by omega), rd_at l j hi]
        rw [hdr, gL] at h
        by_cases hd : c.f0 < l[j].f0
        · rw [if_pos hd] at h
          rw [if_pos hd]
          obtain ⟨⟨t1, r1⟩, E1, E2⟩ := Option.bind_eq_some_iff.1 h
          rw [← hdr] at E1
          obtain ⟨m, m1, m2, hr1⟩ := (g_drop k).1 _ _ _ E1
          rw [List.drop_drop] at hr1
          rw [List.length_drop] at m2
          rw [ih1 l j t1 r1 hl E1]
          simp only [Option.bind_some]
          rw [if_pos (by omega)]
          have hn : l.length - r1.length = j + m := by rw [hr1, List.length_drop]; omega
          rw [hn]
          simp only at E2
          rw [hr1] at E2
          have := ih2 c (kids ++ [t1]) l (j + m) t rest hl (by omega) (by rw [List.length_append]; simp; omega) E2
          obtain ⟨a0, a1, a2, a3, a4⟩ := t1
          exact this
        · rw [if_neg hd] at h
          rw [if_neg (show ¬ l[j].f0 > c.f0 from hd)]
          simp only [Option.some.injEq, Prod.mk.injEq] at h
          obtain ⟨rfl, rfl⟩ := h
          rw [← hdr, List.length_drop]
          have : l.length - (l.length - j) = j := by omega
          rw [this]
      · rw [mullionref04_grown.l0, if_neg (by omega)]
        rw [List.drop_eq_nil_of_le (by omega)] at h
        simp only [gL, Option.some.injEq, Prod.mk.injEq] at h
        obtain ⟨rfl, rfl⟩ := h
        have : l.length - ([] : List S45).length = j := by simp; omega
        rw [this]
theorem rd_toL (ks : List Tr) (i : Nat) (h : i < ks.length) : rd_T72 (toL ks) (i : Int) = toS ks[i] := by
  rw [toL_map]
  simp [rd_T72, List.getD_eq_getElem?_getD, List.getElem?_map, List.getElem?_eq_getElem h]
theorem toS_f (t : Tr) : (toS t).f0 = t.kind ∧ (toS t).f1 = t.w ∧ (toS t).f2 = t.h ∧ (toS t).f3 = t.id ∧ (toS t).f4 = toL t.kids := by
  obtain ⟨kind, w, h, id, kids⟩ := t
  rw [toS]
  exact ⟨rfl, rfl, rfl, rfl, rfl⟩
mutual
def idsT : Tr → List Int
  | ⟨kind, _, _, id, kids⟩ => if kind = 1 then [id] else idsL kids
def idsL : List Tr → List Int
  | [] => []
  | k :: r => idsT k ++ idsL r
end
theorem idsL_len : ∀ ks : List Tr, (∀ t ∈ ks, (idsT t).length ≤ cntT t) → (idsL ks).length ≤ cntL ks
  | [], _ => by rw [idsL, cntL]; simp
  | k :: r, h => by
    have h1 := h k List.mem_cons_self
    have h2 := idsL_len r fun t ht => h t (List.mem_cons_of_mem _ ht)
    rw [idsL, cntL, List.length_append]
    omega
theorem idsT_len : ∀ t : Tr, (idsT t).length ≤ cntT t := Tr.ind fun kind w h id kids ih => by
  rw [idsT, cntT]
  have := idsL_len kids ih
  split
  · simp
  · omega
theorem ids_loop (kind w h id : Int) (kids : List Tr) (hk : kids.length ≤ 1000000) (ih : ∀ t ∈ kids, ∀ k, 2 * cntT t ≤ k → mullionref04_Ids.f k t.kind t.w t.h t.id (toL t.kids) = some (idsT t)) :
    ∀ (r : List Tr) (i : Nat) (L : List Int) (k : Nat), kids.drop i = r → i ≤ kids.length → L.length + cntL r ≤ 1000000 → 2 * cntL r + 1 ≤ k → mullionref04_Ids.l0 k L (i : Int) kind w h id (toL kids) = some (L ++ idsL r)
  | [], i, L, k, hr, hi, hL, hf => by
    have hi' : kids.length ≤ i := by
      have := congrArg List.length hr
      rw [List.length_drop] at this
      simp at this
      omega
    obtain ⟨k, rfl⟩ : ∃ m, k = m + 1 := ⟨k - 1, by omega⟩
    rw [mullionref04_Ids.l0, if_neg (by rw [toL_len]; omega), idsL, List.append_nil]
  | t :: r, i, L, k, hr, hi, hL, hf => by
    have hi' : i < kids.length := by
      have := congrArg List.length hr
      rw [List.length_drop] at this
      simp at this
      omega
    have hc := List.drop_eq_getElem_cons hi'
    rw [hr] at hc
    injection hc with e1 e2
    rw [cntL] at hL hf
    have hpos := cntT_pos t
    obtain ⟨k, rfl⟩ : ∃ m, k = m + 1 := ⟨k - 1, by omega⟩
    obtain ⟨a0, a1, a2, a3, a4⟩ := toS_f t
    rw [mullionref04_Ids.l0, if_pos (by rw [toL_len]; omega), if_pos (by omega), rd_toL kids i hi', ← e1, a0, a1, a2, a3, a4, ih t (by rw [e1]; exact List.getElem_mem hi') k (by omega)]
    simp only [Option.bind_some]
    have := idsT_len t
    rw [if_pos (by omega), IntWalk.wrap64_in _ (by omega)]
    have := ids_loop kind w h id kids hk ih r (i + 1) (L ++ idsT t) k e2.symm (by omega) (by rw [List.length_append]; omega) (by omega)
    rw [show ((i : Int) + 1) = ((i + 1 : Nat) : Int) from rfl, this, idsL, List.append_assoc]
theorem ids_f : ∀ (t : Tr) (k : Nat), cntT t ≤ 1000000 → 2 * cntT t ≤ k → mullionref04_Ids.f k t.kind t.w t.h t.id (toL t.kids) = some (idsT t) := by
  refine Tr.ind ?_
  intro kind w h id kids ih k hc hk
  rw [cntT] at hc hk
  obtain ⟨k, rfl⟩ : ∃ m, k = m + 1 := ⟨k - 1, by omega⟩
  rw [mullionref04_Ids.f, idsT]
  by_cases e : kind = 1
  · rw [if_pos e, if_pos e]
  · rw [if_neg e, if_neg e]
    have hl := len_cntL kids
    have := ids_loop kind w h id kids (by omega) (fun t ht k hk' => ih t ht k (by have := cntT_mem t kids ht; omega) hk') kids 0 [] k rfl (by omega) (by simp; omega) (by omega)
    exact this
theorem rdI (l : List Int) (i : Nat) (h : i < l.length) : rd l (i : Int) = l[i] := by
  simp [rd, List.getD_eq_getElem?_getD, List.getElem?_eq_getElem h]
open Classical in
theorem twice_l1 (l : List Int) (i : Nat) (hi : i < l.length) (hl : l.length ≤ 1000000) : ∀ m j k, j + m = i → m + 1 ≤ k → mullionref04_twice.l1 k l (i : Int) (j : Int) = if ∃ a, j ≤ a ∧ a < i ∧ l.getD a 0 = l.getD i 0 then some true else mullionref04_twice.l0 (k - m - 1) l ((i + 1 : Nat) : Int)
  | 0, j, k, e, hk => by
    obtain ⟨k, rfl⟩ : ∃ m, k = m + 1 := ⟨k - 1, by omega⟩
    rw [mullionref04_twice.l1, if_neg (by omega), if_neg (by rintro ⟨a, h1, h2, _⟩; omega), IntWalk.wrap64_in _ (by omega)]
    rfl
  | m + 1, j, k, e, hk => by
    obtain ⟨k, rfl⟩ : ∃ m, k = m + 1 := ⟨k - 1, by omega⟩
    have hj : j < l.length := by omega
    have e1 : l.getD j 0 = l[j] := by simp [List.getD_eq_getElem?_getD, List.getElem?_eq_getElem hj]
    have e2 : l.getD i 0 = l[i] := by simp [List.getD_eq_getElem?_getD, List.getElem?_eq_getElem hi]
    rw [mullionref04_twice.l1, if_pos (by omega), if_pos (by omega), if_pos (by omega), if_pos (by omega), if_pos (by omega), rdI l j hj, rdI l i hi]
    by_cases h : l[j] = l[i]
    · rw [if_pos h, if_pos ⟨j, by omega, by omega, by rw [e1, e2]; exact h⟩]
    · rw [if_neg h, IntWalk.wrap64_in _ (by omega)]
      have := twice_l1 l i hi hl m (j + 1) k (by omega) (by omega)
      rw [show ((j : Int) + 1) = ((j + 1 : Nat) : Int) from rfl, this]
      have e3 : k + 1 - (m + 1) - 1 = k - m - 1 := by omega
      rw [e3]
      have e4 : (∃ a, j + 1 ≤ a ∧ a < i ∧ l.getD a 0 = l.getD i 0) ↔ ∃ a, j ≤ a ∧ a < i ∧ l.getD a 0 = l.getD i 0 := by
        constructor
        · rintro ⟨a, h1, h2, h3⟩
          exact ⟨a, by omega, h2, h3⟩
        · rintro ⟨a, h1, h2, h3⟩
          refine ⟨a, ?_, h2, h3⟩
          rcases Nat.lt_or_ge j a with h4 | h4
          · omega
          · obtain rfl : a = j := by omega
            rw [e1, e2] at h3
            exact absurd h3 h
      simp only [e4]
open Classical in
theorem twice_l0 (l : List Int) (hl : l.length ≤ 1000000) : ∀ m i k, i + m = l.length → (l.length + 2) * m + 1 ≤ k → mullionref04_twice.l0 k l (i : Int) = some (decide (∃ b, i ≤ b ∧ b < l.length ∧ ∃ a, a < b ∧ l.getD a 0 = l.getD b 0))
  | 0, i, k, e, hk => by
    obtain ⟨k, rfl⟩ : ∃ m, k = m + 1 := ⟨k - 1, by omega⟩
    rw [mullionref04_twice.l0, if_neg (by omega), decide_eq_false (by rintro ⟨b, h1, h2, _⟩; omega)]
  | m + 1, i, k, e, hk => by
    have hm : (l.length + 2) * (m + 1) = (l.length + 2) * m + l.length + 2 := by rw [Nat.mul_add]; omega
    obtain ⟨k, rfl⟩ : ∃ m, k = m + 1 := ⟨k - 1, by omega⟩
    rw [mullionref04_twice.l0, if_pos (by omega)]
    have : mullionref04_twice.l1 k l (i : Int) 0 = _ := twice_l1 l i (by omega) hl i 0 k (by omega) (by omega)
    rw [this]
    by_cases h : ∃ a, 0 ≤ a ∧ a < i ∧ l.getD a 0 = l.getD i 0
    · rw [if_pos h, decide_eq_true]
      obtain ⟨a, _, h2, h3⟩ := h
      exact ⟨i, by omega, by omega, a, h2, h3⟩
    · rw [if_neg h, twice_l0 l hl m (i + 1) _ (by omega) (by omega)]
      congr 1
      have e4 : (∃ b, i + 1 ≤ b ∧ b < l.length ∧ ∃ a, a < b ∧ l.getD a 0 = l.getD b 0) ↔ ∃ b, i ≤ b ∧ b < l.length ∧ ∃ a, a < b ∧ l.getD a 0 = l.getD b 0 := by
        constructor
        · rintro ⟨b, h1, h2⟩
          exact ⟨b, by omega, h2⟩
        · rintro ⟨b, h1, h2, a, h3, h4⟩
          refine ⟨b, ?_, h2, a, h3, h4⟩
          rcases Nat.lt_or_ge i b with h5 | h5
          · omega
          · obtain rfl : b = i := by omega
            exact absurd ⟨a, by omega, h3, h4⟩ h
      simp only [e4]
open Classical in
theorem twice_f (l : List Int) (k : Nat) (hl : l.length ≤ 1000000) (hk : (l.length + 2) * l.length + 1 ≤ k) : mullionref04_twice.f k l = some (decide (¬ l.Nodup)) := by
  rw [mullionref04_twice.f]
  have : mullionref04_twice.l0 k l 0 = _ := twice_l0 l hl l.length 0 k (by omega) hk
  rw [this]
  congr 1
  have e4 : (∃ b, 0 ≤ b ∧ b < l.length ∧ ∃ a, a < b ∧ l.getD a 0 = l.getD b 0) ↔ ¬ l.Nodup := by
    have at' : ∀ (i : Nat) (h : i < l.length), l.getD i 0 = l[i] := fun i h => by simp [List.getD_eq_getElem?_getD, List.getElem?_eq_getElem h]
    rw [List.Nodup, List.pairwise_iff_getElem]
    constructor
    · rintro ⟨b, _, h2, a, h3, h4⟩ hn
      rw [at' a (by omega), at' b h2] at h4
      exact hn a b (by omega) h2 h3 h4
    · intro hn
      refine Classical.byContradiction fun h => hn fun a b ha hb hab he => h ⟨b, by omega, hb, a, hab, ?_⟩
      rw [at' a ha, at' b hb]
      exact he
  simp only [e4]
end Go.Proofs.YtmpnkckaohfflaaDoor.PGiv
end
section
namespace Go.Proofs.YtmpnkckaohfflaaDoor.PGiv
open Go.RowKit Go.Proofs.YtmpnkckaohfflaaDoorW.PrintWords Go.Proofs.YtmpnkckaohfflaaDoor.K Go.Proofs.YtmpnkckaohfflaaDoor.Num Go.Proofs.YtmpnkckaohfflaaDoor.Txt Go.Proofs.YtmpnkckaohfflaaDoor.L
set_option linter.unusedVariables false
set_option linter.unusedSimpArgs false
theorem goodL_mem (kind W H : Int) (t : Tr) : ∀ ks, goodL kind W H ks → t ∈ ks → t.kind ≠ kind ∧ ext (5 - kind) t.w t.h = ext (5 - kind) W H ∧ goodT t ∧ ext kind t.w t.h + 1 ≤ sumL kind ks
  | [], _, h => by simp at h
  | k :: r, hg, h => by
    rw [goodL] at hg
    have h1 := sumL_rng _ _ _ r hg.2.2.2
    rw [sumL]
    rcases List.mem_cons.1 h with rfl | h
    · exact ⟨hg.1, hg.2.1, hg.2.2.1, by omega⟩
    · obtain ⟨a, b, c, d⟩ := goodL_mem kind W H t r hg.2.2.2 h
      have := ext_rng (kind := kind) (good_dim hg.2.2.1)
      exact ⟨a, b, c, by omega⟩
theorem drop_cases {α : Type} {l r : List α} {i : Nat} (h : l.drop i = r) (hi : i ≤ l.length) : (r = [] ∧ i = l.length) ∨ (∃ (t : α) (r' : List α) (hi' : i < l.length), r = t :: r' ∧ l[i] = t ∧ l.drop (i + 1) = r') := by
  rcases Nat.lt_or_ge i l.length with h' | h'
  · have hc := List.drop_eq_getElem_cons h'
    exact .inr ⟨_, _, h', by rw [← h, hc], rfl, rfl⟩
  · exact .inl ⟨by rw [← h, List.drop_eq_nil_of_le h'], by omega⟩
theorem ext_eq (k a b c d : Int) (l : List S72) : mullionref04_extent.f a b c d l k = some (ext k b c) := by
  rw [mullionref04_extent.f, ext]
  split <;> rfl
theorem sizes_j3 (k : Nat) (s : Int) (i : Nat) (kind w h id : Int) (l l' : List S72) (a b c d : Int) (hk : kind = 2 ∨ kind = 3) (hi : i ≤ 1000000) :
    mullionref04_sizes.j3 (k + 1) s (i : Int) false kind w h id l a b c d l' = if ext (5 - kind) b c = ext (5 - kind) w h then mullionref04_sizes.l0 k (wrap64 (s + ext kind b c)) ((i + 1 : Nat) : Int) kind w h id l else some false := by
  rw [mullionref04_sizes.j3, if_neg (by simp)]
  have hw : wrap64 ((i : Int) + 1) = ((i + 1 : Nat) : Int) := (IntWalk.wrap64_in _ (by omega)).trans rfl
  rcases hk with rfl | rfl
  · rw [if_pos rfl]
    by_cases e : c = h
    · rw [if_pos e, if_neg (by decide), ext_eq, hw, if_pos (show ext (5 - 2) b c = ext (5 - 2) w h from e)]
      rfl
    · rw [if_neg e, if_neg (show ¬ ext (5 - 2) b c = ext (5 - 2) w h from e)]
  · rw [if_neg (by decide), if_pos rfl]
    by_cases e : b = w
    · rw [if_pos e, ext_eq, hw, if_pos (show ext (5 - 3) b c = ext (5 - 3) w h from e)]
      rfl
    · rw [if_neg e, if_neg (show ¬ ext (5 - 3) b c = ext (5 - 3) w h from e)]
theorem sizes_j3t (k : Nat) (s i kind w h id : Int) (l l' : List S72) (a b c d : Int) : mullionref04_sizes.j3 (k + 1) s i true kind w h id l a b c d l' = some false := by
  rw [mullionref04_sizes.j3, if_pos rfl]
theorem sizes_loop (kind w h id : Int) (kids : List Tr) (hk : kind = 2 ∨ kind = 3) (hw : w ≤ 1000) (hh : h ≤ 1000) (hn : kids.length ≤ 1000000)
    (ih : ∀ t ∈ kids, ∀ k, 5 * cntT t ≤ k → t.w ≤ 1000 → t.h ≤ 1000 → ∃ b, mullionref04_sizes.f k t.kind t.w t.h t.id (toL t.kids) = some b ∧ (b = true ↔ goodT t)) :
    ∀ (r : List Tr) (i : Nat) (s : Int) (k : Nat), kids.drop i = r → i ≤ kids.length → 0 ≤ s → s + 1001 * r.length ≤ 4000000000 → 5 * cntL r + 1 ≤ k →
      ∃ b, mullionref04_sizes.l0 k s (i : Int) kind w h id (toL kids) = some b ∧ (b = true ↔ (∀ t ∈ r, t.w ≤ w ∧ t.h ≤ h) ∧ goodL kind w h r ∧ s + sumL kind r - r.length = ext kind w h)
  | [], i, s, k, hr, hi, hs0, hs1, hf => by
    rcases drop_cases hr hi with ⟨_, e⟩ | ⟨_, _, _, e, _⟩
    · obtain ⟨k, rfl⟩ : ∃ m, k = m + 1 := ⟨k - 1, by omega⟩
      refine ⟨s == ext kind w h, ?_, ?_⟩
      · rw [mullionref04_sizes.l0, if_neg (by rw [toL_len]; omega), ext_eq]
        rfl
      · rw [goodL, sumL]
        simp
    · cases e
  | t :: r, i, s, k, hr, hi, hs0, hs1, hf => by
    rcases drop_cases hr hi with ⟨e, _⟩ | ⟨t', r', hi', e, e1, e2⟩
    · cases e
    · injection e with ea eb
      subst ea eb
      rw [cntL] at hf
      rw [List.length_cons] at hs1
      have hpos := cntT_pos t
      have ht : t ∈ kids := by rw [← e1]; exact List.getElem_mem hi'
      obtain ⟨k, rfl⟩ : ∃ m, k = m + 1 + 1 := ⟨k - 2, by omega⟩
      obtain ⟨a0, a1, a2, a3, a4⟩ := toS_f t
      rw [mullionref04_sizes.l0, if_pos (by rw [toL_len]; omega), if_pos (by omega), rd_toL kids i hi', e1, a0, a1, a2, a3, a4, goodL]
      by_cases c1 : t.kind = kind
      · rw [if_pos c1, sizes_j3t]
        exact ⟨false, rfl, by simp [c1]⟩
      rw [if_neg c1]
      by_cases c2 : t.w > w
      · rw [if_pos c2, sizes_j3t]
        refine ⟨false, rfl, by simp, fun h => absurd (h.1 t List.mem_cons_self).1 (by omega)⟩
      rw [if_neg c2]
      by_cases c3 : t.h > h
      · rw [if_pos c3, sizes_j3t]
        refine ⟨false, rfl, by simp, fun h => absurd (h.1 t List.mem_cons_self).2 (by omega)⟩
      rw [if_neg c3]
      obtain ⟨b, hb, hg⟩ := ih t ht (k + 1) (by omega) (by omega) (by omega)
      rw [hb]
      simp only [Option.bind_some]
      cases b with
      | false =>
        rw [Bool.not_false, sizes_j3t]
        exact ⟨false, rfl, by simp, fun h => hg.2 h.2.1.2.2.1⟩
      | true =>
        have g := hg.1 rfl
        rw [Bool.not_true, sizes_j3 _ _ _ _ _ _ _ _ _ _ _ _ _ hk (by omega)]
        by_cases c4 : ext (5 - kind) t.w t.h = ext (5 - kind) w h
        · rw [if_pos c4]
          have hx := ext_rng (kind := kind) (good_dim g)
          rw [IntWalk.wrap64_in (s + ext kind t.w t.h) (by omega)]
          obtain ⟨b, hb1, hb2⟩ := sizes_loop kind w h id kids hk hw hh hn ih r (i + 1) (s + ext kind t.w t.h) k e2 (by omega) (by omega) (by push_cast at hs1 ⊢; omega) (by omega)
          refine ⟨b, hb1, hb2.trans ?_⟩
          have es : s + ext kind t.w t.h + sumL kind r - r.length = s + sumL kind (t :: r) - (t :: r).length := by
            rw [sumL, List.length_cons]
            push_cast
            omega
          rw [es]
          constructor
          · rintro ⟨h1, h2, h3⟩
            exact ⟨fun x hx => (List.mem_cons.1 hx).elim (fun e => by rw [e]; exact ⟨by omega, by omega⟩) (h1 x), ⟨c1, c4, g, h2⟩, h3⟩
          · rintro ⟨h1, h2, h3⟩
            exact ⟨fun x hx => h1 x (List.mem_cons_of_mem _ hx), h2.2.2.2, h3⟩
        · rw [if_neg c4]
          exact ⟨false, rfl, by simp, fun h => absurd h.2.1.2.1 c4⟩
theorem sizes_j0t (k : Nat) (a b c d : Int) (l : List S72) : mullionref04_sizes.j0 (k + 1) true a b c d l = some false := by rw [mullionref04_sizes.j0, if_pos rfl]
theorem sizes_j1t (k : Nat) (a b c d : Int) (l : List S72) : mullionref04_sizes.j1 (k + 1) true a b c d l = some false := by rw [mullionref04_sizes.j1, if_pos rfl]
theorem sizes_f : ∀ (t : Tr), cntT t ≤ 1000000 → ∀ k, 5 * cntT t ≤ k → t.w ≤ 1000 → t.h ≤ 1000 → ∃ b, mullionref04_sizes.f k t.kind t.w t.h t.id (toL t.kids) = some b ∧ (b = true ↔ goodT t) := by
  refine Tr.ind ?_
  intro kind w h id kids ih hc k hk hw hh
  rw [cntT] at hc hk
  simp only at hw hh
  have hlen := len_cntL kids
  obtain ⟨k, rfl⟩ : ∃ m, k = m + 1 + 1 + 1 + 1 + 1 := ⟨k - 5, by omega⟩
  rw [goodT_def, mullionref04_sizes.f]
  simp only
  by_cases c1 : w < 1
  · rw [if_pos c1, sizes_j0t]
    exact ⟨false, rfl, by simp, fun h => by omega⟩
  rw [if_neg c1]
  by_cases c2 : h < 1
  · rw [if_pos c2, sizes_j0t]
    exact ⟨false, rfl, by simp, fun h => by omega⟩
  rw [if_neg c2]
  by_cases c3 : kind < 1
  · rw [if_pos c3, sizes_j0t]
    exact ⟨false, rfl, by simp, fun h => by omega⟩
  rw [if_neg c3]
  by_cases c4 : kind > 3
  · rw [decide_eq_true c4, sizes_j0t]
    exact ⟨false, rfl, by simp, fun h => by omega⟩
  rw [decide_eq_false c4, mullionref04_sizes.j0, if_neg (by simp), toL_len]
  by_cases c5 : kind = 1
  · rw [if_pos c5]
    by_cases c6 : (kids.length : Int) = 0
    · rw [if_pos c6]
      have e0 : kids = [] := List.eq_nil_of_length_eq_zero (by omega)
      by_cases c7 : id ≥ 1
      · rw [if_pos c7]
        refine ⟨_, rfl, ?_⟩
        rw [decide_eq_true_iff]
        constructor
        · intro h1
          exact ⟨by omega, .inl ⟨c5, by omega, h1, e0⟩⟩
        · rintro ⟨_, ⟨_, _, h1, _⟩ | ⟨h1, _⟩⟩
          · exact h1
          · omega
      · rw [if_neg c7]
        refine ⟨false, rfl, by simp, ?_⟩
        rintro ⟨_, ⟨_, h1, _⟩ | ⟨h1, _⟩⟩ <;> omega
    · rw [if_neg c6]
      refine ⟨false, rfl, by simp, ?_⟩
      rintro ⟨_, ⟨_, _, _, h1⟩ | ⟨h1, _⟩⟩
      · rw [h1] at c6
        exact absurd rfl c6
      · omega
  rw [if_neg c5]
  by_cases c6 : (kids.length : Int) < 2
  · rw [if_pos c6, sizes_j1t]
    refine ⟨false, rfl, by simp, ?_⟩
    rintro ⟨_, ⟨h1, _⟩ | ⟨_, _, h1, _⟩⟩ <;> omega
  rw [if_neg c6]
  by_cases c7 : id = 0
  · subst c7
    rw [show ((0 : Int) != 0) = false from rfl, mullionref04_sizes.j1, if_neg (by simp), toL_len, IntWalk.wrap64_in _ (by omega)]
    have hk23 : kind = 2 ∨ kind = 3 := by omega
    obtain ⟨b, hb1, hb2⟩ := sizes_loop kind w h 0 kids hk23 hw hh (by omega) (fun t ht k hk hw hh => ih t ht (by have := cntT_mem t kids ht; omega) k hk hw hh) kids 0 ((kids.length : Int) - 1) (k + 1 + 1) rfl (by omega) (by omega) (by omega) (by omega)
    refine ⟨b, hb1, hb2.trans ?_⟩
    constructor
    · rintro ⟨h1, h2, h3⟩
      exact ⟨by omega, .inr ⟨hk23, rfl, by omega, h2, by omega⟩⟩
    · rintro ⟨_, ⟨h1, _⟩ | ⟨_, _, h1, h2, h3⟩⟩
      · exact absurd h1 c5
      · refine ⟨fun t ht => ?_, h2, by omega⟩
        obtain ⟨_, e1, g, e2⟩ := goodL_mem _ _ _ t kids h2 ht
        rw [h3] at e2
        rcases hk23 with rfl | rfl
        · have e1 : t.h = h := e1
          have e2 : t.w + 1 ≤ w + 1 := e2
          omega
        · have e1 : t.w = w := e1
          have e2 : t.h + 1 ≤ h + 1 := e2
          omega
  · rw [show (id != 0) = true from bne_iff_ne.2 c7, sizes_j1t]
    refine ⟨false, rfl, by simp, ?_⟩
    rintro ⟨_, ⟨h1, _⟩ | ⟨_, h1, _⟩⟩
    · exact absurd h1 c5
    · exact absurd h1 c7
theorem wrap_mod (a : Int) : ∃ q : Int, wrap64 a = a - q * 18446744073709551616 := ⟨(a + 9223372036854775808) / 18446744073709551616, by
  unfold wrap64
  have := Int.emod_def (a + 9223372036854775808) 18446744073709551616
  rw [this]
  generalize (a + 9223372036854775808) / 18446744073709551616 = q
  rw [Int.mul_comm]
  generalize q * 18446744073709551616 = z
  omega⟩
theorem wrap_cong {a b : Int} (q : Int) (h : a = b + q * 18446744073709551616) : wrap64 a = wrap64 b := by
  unfold wrap64
  rw [h, show b + q * 18446744073709551616 + 9223372036854775808 = b + 9223372036854775808 + q * 18446744073709551616 by generalize q * 18446744073709551616 = z; omega, Int.add_mul_emod_self_right]
theorem wrap_two (x n : Int) : wrap64 (wrap64 (x + n) + 1) = wrap64 (x + wrap64 (n + 1)) := by
  obtain ⟨q, hq⟩ := wrap_mod (x + n)
  obtain ⟨r, hr⟩ := wrap_mod (n + 1)
  rw [hq, hr]
  refine (wrap_cong (-q) (b := x + n + 1) ?_).trans (wrap_cong (-r) (b := x + n + 1) ?_).symm
  · rw [Int.neg_mul]
    generalize q * 18446744073709551616 = z
    omega
  · rw [Int.neg_mul]
    generalize r * 18446744073709551616 = z
    omega
theorem lay_loop (kind w h id d : Int) (kids : List Tr) (hn : kids.length ≤ 1000000) (ih : ∀ t ∈ kids, ∀ (k : Nat) (d x y : Int), 2 * cntT t ≤ k → mullionref04_lay.f k t.kind t.w t.h t.id (toL t.kids) d x y = some (layT t d x y)) :
    ∀ (r : List Tr) (i : Nat) (L : List S45) (x y : Int) (k : Nat), kids.drop i = r → i ≤ kids.length → L.length + cntL r ≤ 1000000 → 2 * cntL r + 1 ≤ k → mullionref04_lay.l0 k d x y L (i : Int) kind w h id (toL kids) = some (L ++ layL kind r (wrap64 (d + 1)) x y)
  | [], i, L, x, y, k, hr, hi, hL, hf => by
    rcases drop_cases hr hi with ⟨_, e⟩ | ⟨_, _, _, e, _⟩
    · obtain ⟨k, rfl⟩ : ∃ m, k = m + 1 := ⟨k - 1, by omega⟩
      rw [mullionref04_lay.l0, if_neg (by rw [toL_len]; omega), layL, List.append_nil]
    · cases e
  | t :: r, i, L, x, y, k, hr, hi, hL, hf => by
    rcases drop_cases hr hi with ⟨e, _⟩ | ⟨t', r', hi', e, e1, e2⟩
    · cases e
    · injection e with ea eb
      subst ea eb
      rw [cntL] at hL hf
      have hpos := cntT_pos t
      have ht : t ∈ kids := by rw [← e1]; exact List.getElem_mem hi'
      obtain ⟨k, rfl⟩ : ∃ m, k = m + 1 := ⟨k - 1, by omega⟩
      obtain ⟨a0, a1, a2, a3, a4⟩ := toS_f t
      have q1 : i + 1 ≤ kids.length := by omega
      have q2 : 2 * cntL r + 1 ≤ k := by omega
      have q3 : L.length + (layT t (wrap64 (d + 1)) x y).length < 2513169434916 := by
        have hl := layT_len t (wrap64 (d + 1)) x y
        omega
      have q4 : (L ++ layT t (wrap64 (d + 1)) x y).length + cntL r ≤ 1000000 := by
        have hl := layT_len t (wrap64 (d + 1)) x y
        rw [List.length_append]
        omega
      rw [mullionref04_lay.l0, if_pos (by rw [toL_len]; omega), if_pos (by omega), rd_toL kids i hi', e1, a0, a1, a2, a3, a4, ih t ht k _ _ _ (by omega)]
      simp only [Option.bind_some]
      rw [if_pos q3, wrap_two, wrap_two]
      have hw : wrap64 ((i : Int) + 1) = ((i + 1 : Nat) : Int) := (IntWalk.wrap64_in _ (by omega)).trans rfl
      rw [layL, ← List.append_assoc, hw]
      by_cases c : kind = 2
      · rw [if_pos c, if_pos c, if_pos c]
        exact lay_loop kind w h id d kids hn ih r (i + 1) _ _ _ k e2 q1 q4 q2
      · rw [if_neg c, if_neg c, if_neg c]
        exact lay_loop kind w h id d kids hn ih r (i + 1) _ _ _ k e2 q1 q4 q2
theorem lay_f : ∀ (t : Tr), goodT t → cntT t ≤ 100000 → ∀ (k : Nat) (d x y : Int), 2 * cntT t ≤ k → mullionref04_lay.f k t.kind t.w t.h t.id (toL t.kids) d x y = some (layT t d x y) := by
  refine Tr.ind ?_
  intro kind w h id kids ih hg hc k d x y hk
  rw [cntT] at hc hk
  have hlen := len_cntL kids
  obtain ⟨k, rfl⟩ : ∃ m, k = m + 1 := ⟨k - 1, by omega⟩
  obtain ⟨_, hh⟩ := (goodT_def _ _ _ _ _).1 hg
  simp only
  rw [mullionref04_lay.f, layT]
  have hloop := fun (hi : ∀ t ∈ kids, goodT t) => lay_loop kind w h id d kids (by omega) (fun t ht k d x y hk => ih t ht (hi t ht) (by have := cntT_mem t kids ht; omega) k d x y hk) kids 0 [⟨d, kind, x, y, w, h, id⟩] x y k rfl (by omega) (by simp; omega) (by omega)
  rcases hh with ⟨e1, _, _, e2⟩ | ⟨e1, e2, _, e3, _⟩
  · rw [if_pos e1]
    have := hloop (fun t ht => by rw [e2] at ht; simp at ht)
    rw [e2, layL, List.append_nil, e1] at this
    rw [e1, e2]
    exact this
  · rw [if_neg (by omega)]
    have := hloop (fun t ht => (goodL_mem _ _ _ t kids e3 ht).2.2.1)
    rw [e2] at this ⊢
    exact this
theorem panesL_ids (kind d : Int) : ∀ (ks : List Tr), (∀ t ∈ ks, ∀ d x y, panes (layT t d x y) = idsT t) → ∀ x y, panes (layL kind ks d x y) = idsL ks
  | [], _, x, y => by rw [layL, idsL]; rfl
  | k :: r, h, x, y => by rw [layL, idsL, panes_app, h k List.mem_cons_self, panesL_ids kind d r (fun t ht => h t (List.mem_cons_of_mem _ ht))]
theorem panes_ids : ∀ (t : Tr), goodT t → ∀ (d x y : Int), panes (layT t d x y) = idsT t := by
  refine Tr.ind ?_
  intro kind w h id kids ih hg d x y
  obtain ⟨_, hh⟩ := (goodT_def _ _ _ _ _).1 hg
  rw [layT, idsT]
  rcases hh with ⟨e1, _, _, e2⟩ | ⟨e1, e2, _, e3, _⟩
  · rw [if_pos e1, if_pos e1]
    rfl
  · rw [if_neg (by omega), if_neg (by omega)]
    rw [← panesL_ids kind (wrap64 (d + 1)) kids (fun t ht => ih t ht (goodL_mem _ _ _ t kids e3 ht).2.2.1) x y]
    have : ((⟨d, kind, x, y, w, h, 0⟩ : S45) :: layL kind kids (wrap64 (d + 1)) x y) = [⟨d, kind, x, y, w, h, 0⟩] ++ layL kind kids (wrap64 (d + 1)) x y := rfl
    rw [this, panes_app]
    have e4 : panes [(⟨d, kind, x, y, w, h, 0⟩ : S45)] = [] := by
      have : (kind == 1) = false := by simp; omega
      simp [panes, this]
    rw [e4, List.nil_append]
def okD : Int → List S45 → Prop
  | _, [] => True
  | p, c :: r => 1 ≤ c.f0 ∧ c.f0 ≤ p + 1 ∧ okD c.f0 r
theorem okD_list (kind d : Int) (hd : 1 ≤ d) (Q : List S45) (hQ : ∀ p, d - 1 ≤ p → okD p Q) : ∀ (ks : List Tr), (∀ t ∈ ks, ∀ (x y p : Int) (Q : List S45), d ≤ p + 1 → (∀ p', d ≤ p' → okD p' Q) → okD p (layT t d x y ++ Q)) → ∀ x y p, d ≤ p + 1 → okD p (layL kind ks d x y ++ Q)
  | [], _, x, y, p, hp => by rw [layL]; exact hQ p (by omega)
  | k :: r, h, x, y, p, hp => by
    rw [layL, List.append_assoc]
    exact h k List.mem_cons_self x y p _ hp fun p' hp' => okD_list kind d hd Q hQ r (fun t ht => h t (List.mem_cons_of_mem _ ht)) _ _ p' (by omega)
theorem okD_tree : ∀ (t : Tr) (d x y p : Int) (Q : List S45), 1 ≤ d → d + cntT t ≤ 1000000 → d ≤ p + 1 → (∀ p', d ≤ p' → okD p' Q) → okD p (layT t d x y ++ Q) := by
  refine Tr.ind ?_
  intro kind w h id kids ih d x y p Q hd hc hp hQ
  rw [cntT] at hc
  have hlen := len_cntL kids
  rw [layT]
  split
  · exact ⟨hd, hp, hQ d (by omega)⟩
  · refine ⟨hd, hp, ?_⟩
    rw [IntWalk.wrap64_in _ (by omega)]
    exact okD_list kind (d + 1) (by omega) Q (fun p' hp' => hQ p' (by omega)) kids (fun t ht x y p Q hp hQ => ih t ht (d + 1) x y p Q (by omega) (by have := cntT_mem t kids ht; omega) hp hQ) x y d (by omega)
theorem okD_root (t : Tr) (hc : cntT t ≤ 1000) : ∀ c r, layT t 0 0 0 = c :: r → c.f0 = 0 ∧ c.f4 = t.w ∧ c.f5 = t.h ∧ okD 0 r := by
  obtain ⟨kind, w, h, id, kids⟩ := t
  rw [cntT] at hc
  intro c r e
  rw [layT] at e
  split at e
  · injection e with e1 e2
    subst e1 e2
    exact ⟨rfl, rfl, rfl, trivial⟩
  · injection e with e1 e2
    subst e1 e2
    refine ⟨rfl, rfl, rfl, ?_⟩
    rw [IntWalk.wrap64_in _ (by omega), ← List.append_nil (layL _ _ _ _ _)]
    exact okD_list kind (0 + 1) (by omega) [] (fun _ _ => trivial) kids (fun t ht x y p Q hp hQ => okD_tree t (0 + 1) x y p Q (by omega) (by have := cntT_mem t kids ht; omega) hp hQ) 0 0 0 (by omega)
theorem okD_pos : ∀ (l : List S45) (p : Int), okD p l → ∀ c ∈ l, 1 ≤ c.f0
  | [], _, _, c, h => by simp at h
  | x :: r, p, h, c, hc => by
    rcases List.mem_cons.1 hc with rfl | hc
    · exact h.1
    · exact okD_pos r _ h.2.2 c hc
end Go.Proofs.YtmpnkckaohfflaaDoor.PGiv
end
section
namespace Go.Proofs.YtmpnkckaohfflaaDoor.PGiv
open Go.RowKit Go.Proofs.YtmpnkckaohfflaaDoorW.PrintWords Go.Proofs.YtmpnkckaohfflaaDoor.K Go.Proofs.YtmpnkckaohfflaaDoor.Num Go.Proofs.YtmpnkckaohfflaaDoor.Txt Go.Proofs.YtmpnkckaohfflaaDoor.L
set_option linter.unusedVariables false
set_option linter.unusedSimpArgs false
theorem layL_cnt (kind d : Int) : ∀ (ks : List Tr), (∀ t ∈ ks, ∀ x y, (layT t d x y).length = cntT t) → ∀ x y, (layL kind ks d x y).length = cntL ks
  | [], _, x, y => by rw [layL, cntL]; rfl
  | k :: r, h, x, y => by rw [layL, cntL, List.length_append, h k List.mem_cons_self, layL_cnt kind d r fun t ht => h t (List.mem_cons_of_mem _ ht)]
theorem lay_cnt : ∀ (t : Tr), goodT t → ∀ (d x y : Int), (layT t d x y).length = cntT t := by
  refine Tr.ind ?_
  intro kind w h id kids ih hg d x y
  obtain ⟨_, hh⟩ := (goodT_def _ _ _ _ _).1 hg
  rw [layT, cntT]
  rcases hh with ⟨e1, _, _, e2⟩ | ⟨e1, e2, _, e3, _⟩
  · rw [if_pos e1, e2, cntL]
    rfl
  · rw [if_neg (by omega), List.length_cons, layL_cnt kind (wrap64 (d + 1)) kids fun t ht x y => ih t ht (goodL_mem _ _ _ t kids e3 ht).2.2.1 _ x y]
    omega
theorem layT_kind (t : Tr) (d x y : Int) : ∃ c r, layT t d x y = c :: r ∧ c.f0 = d ∧ c.f1 = t.kind := by
  obtain ⟨kind, w, h, id, kids⟩ := t
  rw [layT]
  split
  · exact ⟨_, _, rfl, rfl, by assumption |> Eq.symm⟩
  · exact ⟨_, _, rfl, rfl, rfl⟩
theorem growL_lay (kind d W H : Int) (hk : kind = 2 ∨ kind = 3) (hd1 : wrap64 (d + 1) = d + 1) (h5 : wrap64 (5 - kind) = 5 - kind) : ∀ (ks : List Tr), (∀ t ∈ ks, ∀ (k : Nat) (x y : Int) (Q : List S45), goodT t → 2 * cntT t ≤ k → (∀ c, Q.head? = some c → c.f0 ≤ d + 1) → growF k (layT t (d + 1) x y ++ Q) (d + 1) = some (some (t, Q))) →
    ∀ (k : Nat) (c : S45) (acc : List Tr) (sum x y : Int) (Q : List S45), c.f1 = kind → c.f4 = W → c.f5 = H → goodL kind W H (acc ++ ks) → sum = sumL kind acc - 1 → acc.length + ks.length ≤ 1000 → 2 ≤ acc.length + ks.length → sumL kind (acc ++ ks) = ext kind W H + 1 → goodL kind W H acc → 2 * cntL ks + 1 ≤ k → (∀ c, Q.head? = some c → c.f0 ≤ d) →
      growL k c d acc sum (layL kind ks (d + 1) x y ++ Q) = some (some (⟨kind, W, H, 0, acc ++ ks⟩, Q))
  | [], _, k, c, acc, sum, x, y, Q, e1, e4, e5, hg, hs, hn, h2, hS, hga, hf, hQ => by
    obtain ⟨k, rfl⟩ : ∃ m, k = m + 1 := ⟨k - 1, by omega⟩
    rw [layL, List.nil_append, List.append_nil]
    rw [List.append_nil] at hS
    have h2 : ¬ acc.length < 2 := by simp at h2; omega
    have hS : sum = ext kind W H := by omega
    cases Q with
    | nil => rw [growL, if_neg (by simp), if_neg h2, e1, e4, e5, if_pos hS]
    | cons q Q =>
      have hq : q.f0 ≤ d := hQ q rfl
      rw [growL, if_neg (by simp only [hd1]; simp; omega), if_neg h2, e1, e4, e5, if_pos hS]
  | t :: r, ih, k, c, acc, sum, x, y, Q, e1, e4, e5, hg, hs, hn, h2, hS, hga, hf, hQ => by
    obtain ⟨k, rfl⟩ : ∃ m, k = m + 1 := ⟨k - 1, by omega⟩
    rw [cntL] at hf
    rw [List.length_cons] at hn h2
    obtain ⟨g1, g2, g3, g4⟩ := goodL_mem kind W H t (acc ++ t :: r) hg (by simp)
    obtain ⟨q, qs, hq, hq0, hq1⟩ := layT_kind t (d + 1) x y
    rw [layL_cons, List.append_assoc]
    generalize (if kind = 2 then wrap64 (x + wrap64 (t.w + 1)) else x) = x'
    generalize (if kind = 2 then y else wrap64 (y + wrap64 (t.h + 1))) = y'
    have h1 := ih t List.mem_cons_self k x y (layL kind r (d + 1) x' y' ++ Q) g3 (by omega) (fun e he => by
      cases r with
      | nil =>
        rw [layL, List.nil_append] at he
        have := hQ e he
        omega
      | cons t2 r2 =>
        obtain ⟨q2, qs2, hq2, hq20⟩ := layT_head t2 (d + 1) x' y'
        rw [layL_cons, hq2] at he
        simp at he
        rw [← he]
        omega)
    have hx := ext_rng (kind := kind) (good_dim g3)
    have hr := sumL_rng kind W H acc hga
    have es : sumL kind (acc ++ [t]) = sumL kind acc + (ext kind t.w t.h + 1) := sumL_snoc kind t acc
    have hw1 : wrap64 (ext kind t.w t.h + 1) = ext kind t.w t.h + 1 := IntWalk.wrap64_in _ (by omega)
    have hw2 : wrap64 (sum + (ext kind t.w t.h + 1)) = sumL kind (acc ++ [t]) - 1 := by rw [IntWalk.wrap64_in _ (by omega), es]; omega
    have h3 := growL_lay kind d W H hk hd1 h5 r (fun t ht => ih t (List.mem_cons_of_mem _ ht)) k c (acc ++ [t]) (sumL kind (acc ++ [t]) - 1) x' y' Q e1 e4 e5 (by simpa using hg) rfl (by simp; omega) (by simp; omega) (by simpa using hS) (goodL_snoc kind W H t acc hga g1 g2 g3) (by have := cntT_pos t; clear hw1 hw2; omega) hQ
    rw [hq] at h1 ⊢
    rw [List.cons_append] at h1 ⊢
    rw [growL, if_pos (by simp only [hd1, hq0]; simp), if_neg (by simp only [hq1, e1]; simpa using g1), hd1, h1]
    simp only [Option.bind_some]
    rw [e1, e4, e5, h5, if_pos g2, hw1, hw2, h3]
    simp
theorem growF_lay : ∀ (t : Tr) (k : Nat) (d x y : Int) (Q : List S45), goodT t → 2 * cntT t ≤ k → 0 ≤ d → d + cntT t ≤ 1000 → (∀ c, Q.head? = some c → c.f0 ≤ d) → growF k (layT t d x y ++ Q) d = some (some (t, Q)) := by
  refine Tr.ind ?_
  intro kind W H id kids ih k d x y Q hg hk hd hdc hQ
  rw [cntT] at hk hdc
  obtain ⟨k, rfl⟩ : ∃ m, k = m + 1 := ⟨k - 1, by omega⟩
  obtain ⟨hdim, hkk⟩ := (goodT_def _ _ _ _ _).1 hg
  rw [layT]
  rcases hkk with ⟨rfl, hi0, hi1, rfl⟩ | ⟨hkk, rfl, hlen, hgl, hsum⟩
  · rw [if_pos rfl, List.cons_append, List.nil_append, growF]
    simp
  · have hk1 : kind ≠ 1 := by omega
    have hl := len_cntL kids
    have h1 : kids.length ≤ 1000 := by omega
    have h2 : 2 * cntL kids + 1 ≤ k := by omega
    have h5 : wrap64 (5 - kind) = 5 - kind := IntWalk.wrap64_in _ (by omega)
    have hw : wrap64 (d + 1) = d + 1 := IntWalk.wrap64_in _ (by omega)
    rw [if_neg hk1, List.cons_append, growF]
    simp only
    rw [if_neg hk1, hw]
    have := growL_lay kind d W H hkk hw h5 kids (fun t ht k x y Q hg hk hQ => ih t ht k (d + 1) x y Q hg hk (by clear hw h5; omega) (by have := cntT_mem t kids ht; clear hw h5; omega) hQ) k ⟨d, kind, x, y, W, H, 0⟩ [] (-1) x y Q rfl rfl rfl hgl (by simp [sumL]) (by simpa using h1) (by simpa using hlen) hsum (by rw [goodL]; trivial) h2 hQ
    rw [this]
    rfl
theorem cells_list (kind d : Int) : ∀ (ks : List Tr), (∀ t ∈ ks, ∀ x y, ∀ c ∈ layT t d x y, cellOK c ∧ (c.f1 ≠ 1 → c.f6 = 0)) → ∀ x y, ∀ c ∈ layL kind ks d x y, cellOK c ∧ (c.f1 ≠ 1 → c.f6 = 0)
  | [], _, x, y => by rw [layL]; intro c hc; simp at hc
  | k :: r, h, x, y => by
    rw [layL]
    intro c hc
    rcases List.mem_append.1 hc with hc | hc
    · exact h k List.mem_cons_self x y c hc
    · exact cells_list kind d r (fun t ht => h t (List.mem_cons_of_mem _ ht)) _ _ c hc
theorem cells_tree : ∀ (t : Tr), goodT t → ∀ (d x y : Int), ∀ c ∈ layT t d x y, cellOK c ∧ (c.f1 ≠ 1 → c.f6 = 0) := by
  refine Tr.ind ?_
  intro kind w h id kids ih hg d x y
  obtain ⟨hd, hh⟩ := (goodT_def _ _ _ _ _).1 hg
  rw [layT]
  rcases hh with ⟨e1, i1, i2, e2⟩ | ⟨e1, e2, _, e3, _⟩
  · rw [if_pos e1]
    intro c hc
    rw [List.mem_singleton.1 hc]
    exact ⟨⟨⟨hd.1, hd.2.1, hd.2.2.1, hd.2.2.2⟩, .inl ⟨rfl, i1, i2⟩⟩, fun h => absurd rfl h⟩
  · rw [if_neg (by omega)]
    intro c hc
    rcases List.mem_cons.1 hc with rfl | hc
    · exact ⟨⟨⟨hd.1, hd.2.1, hd.2.2.1, hd.2.2.2⟩, .inr e1⟩, fun _ => rfl⟩
    · exact cells_list kind (wrap64 (d + 1)) kids (fun t ht x y => ih t ht (goodL_mem _ _ _ t kids e3 ht).2.2.1 _ x y) x y c hc
theorem panes_cons1 {c : S45} (r : List S45) (h : c.f1 = 1) : panes (c :: r) = c.f6 :: panes r := by simp [panes, h]
theorem panes_cons0 {c : S45} (r : List S45) (h : c.f1 ≠ 1) : panes (c :: r) = panes r := by simp [panes, h]
theorem seen_some : ∀ (l : List S45) (S : List Int), (∀ c ∈ l, cellOK c ∧ (c.f1 ≠ 1 → c.f6 = 0)) → (panes l).Nodup → (∀ p ∈ panes l, p ∉ S) → ∃ S', seenF l S = some S' ∧ S'.length = (panes l).length + S.length
  | [], S, _, _, _ => ⟨S, by rw [seenF], by simp [panes]⟩
  | c :: r, S, hc, hn, hs => by
    obtain ⟨⟨h1, h2⟩, h3⟩ := hc c List.mem_cons_self
    have hr := fun c' h => hc c' (List.mem_cons_of_mem _ h)
    rw [seenF_step, if_neg (by omega)]
    by_cases e : c.f1 = 1
    · rw [panes_cons1 r e] at hn hs ⊢
      obtain ⟨n1, n2⟩ := List.nodup_cons.1 hn
      have hid : ¬ idB c.f6 = false := by
        have : 1 ≤ c.f6 ∧ c.f6 ≤ 4611686018427387904 := by omega
        simp [idB]
        omega
      rw [if_pos e, if_neg (fun h => h.elim hid (hs _ List.mem_cons_self))]
      obtain ⟨S', h4, h5⟩ := seen_some r (c.f6 :: S) hr n2 (fun p hp hm => by
        rcases List.mem_cons.1 hm with rfl | hm
        · exact n1 hp
        · exact hs p (List.mem_cons_of_mem _ hp) hm)
      exact ⟨S', h4, by rw [h5, List.length_cons, List.length_cons]; omega⟩
    · rw [panes_cons0 r e] at hn hs ⊢
      have hkb : ¬ kindB c.f1 = false := by
        have : c.f1 = 2 ∨ c.f1 = 3 := by omega
        rcases this with h | h <;> rw [h] <;> decide
      rw [if_neg e, if_neg (fun h => h.elim (fun h => h (h3 e)) hkb)]
      exact seen_some r S hr hn hs
theorem seen_nodup : ∀ (l : List S45) (S S' : List Int), seenF l S = some S' → (panes l).Nodup ∧ ∀ p ∈ panes l, p ∉ S
  | [], S, S', h => by simp [panes]
  | c :: r, S, S', h => by
    rw [seenF_step] at h
    split at h
    · simp at h
    · split at h
      · rename_i e
        split at h
        · simp at h
        · rename_i hne
          obtain ⟨n1, n2⟩ := seen_nodup r _ _ h
          rw [panes_cons1 r e]
          refine ⟨List.nodup_cons.2 ⟨fun hm => n2 _ hm List.mem_cons_self, n1⟩, fun p hp => ?_⟩
          rcases List.mem_cons.1 hp with rfl | hp
          · exact fun hm => hne (.inr hm)
          · exact fun hm => n2 p hp (List.mem_cons_of_mem _ hm)
      · rename_i e
        split at h
        · simp at h
        · rw [panes_cons0 r e]
          exact seen_nodup r _ _ h
def LayoutOK (t : Tr) (L : List S45) : Prop := goodT t ∧ layT t 0 0 0 = L ∧ (panes L).Nodup ∧ (panes L).length ≤ 32 ∧ L.length ≤ 64
theorem read_ok {L : List S45} {t : Tr} (h : readF L = some (some t)) : LayoutOK t L := by
  obtain ⟨h1, h2, h3, h4, h5, h6⟩ := read_good h
  refine ⟨h1, h5, ?_, h3, h4⟩
  cases L with
  | nil => simp [panes]
  | cons c l =>
    rw [readF] at h
    split at h
    · simp at h
    split at h
    · simp at h
    split at h
    · simp at h
    split at h
    · simp at h
    · rename_i S hS
      exact (seen_nodup _ _ _ hS).1
theorem ok_read {L : List S45} {t : Tr} (h : LayoutOK t L) : readF L = some (some t) := by
  obtain ⟨hg, rfl, hn, hp, hl⟩ := h
  have hc := lay_cnt t hg 0 0 0
  obtain ⟨S, hS, hSl⟩ := seen_some (layT t 0 0 0) [] (cells_tree t hg 0 0 0) hn (fun p _ h => by simp at h)
  have hgr := growF_lay t 1000 0 0 0 [] hg (by omega) (by omega) (by omega) (fun c h => by simp at h)
  rw [List.append_nil] at hgr
  obtain ⟨c, r, he, h0⟩ := layT_head t 0 0 0
  obtain ⟨_, h4, h5, _⟩ := okD_root t (by omega) c r he
  have hd := good_dim hg
  rw [he] at hS hgr hl ⊢
  rw [readF, if_neg (by omega), if_neg (by rw [h4]; simp [sideB]; omega), if_neg (by rw [h5]; simp [sideB]; omega), hS]
  simp only
  rw [if_neg (by rw [he] at hSl hp; simp at hSl; omega), hgr]
  simp only [Option.bind_some]
  rw [if_neg (by simp), if_pos he]
theorem cell_ne {a b : S45} : (!(a.f0 == b.f0) || (!(a.f1 == b.f1) || (!(a.f2 == b.f2) || (!(a.f3 == b.f3) || (!(a.f4 == b.f4) || (!(a.f5 == b.f5) || !(a.f6 == b.f6))))))) = true ↔ a ≠ b := by
  constructor
  · intro h e
    subst e
    simp at h
  · intro h
    cases hb : (!(a.f0 == b.f0) || (!(a.f1 == b.f1) || (!(a.f2 == b.f2) || (!(a.f3 == b.f3) || (!(a.f4 == b.f4) || (!(a.f5 == b.f5) || !(a.f6 == b.f6)))))))
    · exact absurd (cell_eq hb) h
    · rfl
theorem tree_l1 (l a : List S45) (hl : l.length ≤ 1000) (hla : a.length = l.length) (q0 q1 q2 q3 : Int) (q4 : List S72) : ∀ m i k, i + m = l.length → m + 1 ≤ k →
    mullionref04_Tree.l1 k l a (i : Int) q0 q1 q2 q3 q4 = if a.drop i = l.drop i then some (q0, q1, q2, q3, q4, true) else some (0, 0, 0, 0, [], false)
  | 0, i, k, e, hk => by
    obtain ⟨k, rfl⟩ : ∃ m, k = m + 1 := ⟨k - 1, by omega⟩
    rw [mullionref04_Tree.l1, if_neg (by omega), List.drop_eq_nil_of_le (by omega), List.drop_eq_nil_of_le (by omega), if_pos rfl]
  | m + 1, i, k, e, hk => by
    obtain ⟨k, rfl⟩ : ∃ m, k = m + 1 := ⟨k - 1, by omega⟩
    have h1 : i < l.length := by omega
    have h2 : i < a.length := by omega
    rw [mullionref04_Tree.l1, if_pos (by omega), if_pos (by omega), if_pos (by omega), rd_at l i h1, rd_at a i h2, List.drop_eq_getElem_cons h1, List.drop_eq_getElem_cons h2]
    by_cases c : a[i] = l[i]
    · rw [if_neg (fun h => (cell_ne.1 h) c)]
      have hw : wrap64 ((i : Int) + 1) = ((i + 1 : Nat) : Int) := (IntWalk.wrap64_in _ (by omega)).trans rfl
      rw [hw, tree_l1 l a hl hla q0 q1 q2 q3 q4 m (i + 1) k (by clear hw; omega) (by clear hw; omega), c]
      simp only [List.cons.injEq, true_and]
    · rw [if_pos (cell_ne.2 c), if_neg (fun h => c (by injection h))]
theorem tree_l0 (l : List S45) (hl : l.length ≤ 64) : ∀ m i k (h : i - 1 < l.length), i + m = l.length → 1 ≤ i → m + 1 ≤ k → 0 ≤ l[i - 1].f0 → l[i - 1].f0 ≤ i →
    (okD l[i - 1].f0 (l.drop i) → mullionref04_Tree.l0 k l (i : Int) = mullionref04_Tree.l0 (k - m) l (l.length : Int)) ∧ (¬ okD l[i - 1].f0 (l.drop i) → mullionref04_Tree.l0 k l (i : Int) = some (0, 0, 0, 0, [], false))
  | 0, i, k, h, e, hi, hk, h0, h1 => by
    obtain rfl : i = l.length := by omega
    refine ⟨fun _ => rfl, fun hn => absurd ?_ hn⟩
    rw [List.drop_eq_nil_of_le (by omega)]
    trivial
  | m + 1, i, k, h, e, hi, hk, h0, h1 => by
    obtain ⟨k, rfl⟩ : ∃ m, k = m + 1 := ⟨k - 1, by omega⟩
    have h2 : i < l.length := by omega
    have ek : k + 1 - (m + 1) = k - m := by omega
    have q1 : i + 1 + m = l.length := by omega
    have q2 : m + 1 ≤ k := by omega
    have e1 : wrap64 ((i : Int) - 1) = ((i - 1 : Nat) : Int) := (IntWalk.wrap64_in _ (by omega)).trans (by omega)
    have ew : wrap64 (l[i - 1].f0 + 1) = l[i - 1].f0 + 1 := IntWalk.wrap64_in _ (by clear e1; omega)
    have hw : wrap64 ((i : Int) + 1) = ((i + 1 : Nat) : Int) := (IntWalk.wrap64_in _ (by clear e1 ew; omega)).trans rfl
    rw [List.drop_eq_getElem_cons h2, okD]
    by_cases c1 : l[i].f0 < 1
    · refine ⟨fun hh => absurd hh.1 (by clear e1 ew hw; omega), fun _ => ?_⟩
      rw [mullionref04_Tree.l0, if_pos (by clear e1 ew hw; omega), if_pos (by clear e1 ew hw; omega), rd_at l i h2, if_pos c1]
    by_cases c2 : l[i].f0 > l[i - 1].f0 + 1
    · refine ⟨fun hh => absurd hh.2.1 (by clear e1 ew hw; omega), fun _ => ?_⟩
      rw [mullionref04_Tree.l0, if_pos (by clear e1 ew hw; omega), if_pos (by clear e1 ew hw; omega), rd_at l i h2, if_neg c1, e1, if_pos (by clear e1 ew hw; omega), if_pos (by clear e1 ew hw; omega), rd_at l (i - 1) h, ew, if_pos c2]
    · have q3 : 0 ≤ l[i + 1 - 1].f0 := by simp only [Nat.add_sub_cancel]; clear e1 ew hw; omega
      have q4 : l[i + 1 - 1].f0 ≤ ((i + 1 : Nat) : Int) := by simp only [Nat.add_sub_cancel]; clear e1 ew hw; omega
      have ih := tree_l0 l hl m (i + 1) k (by clear e1 ew hw; omega) q1 (by clear e1 ew hw; omega) q2 q3 q4
      simp only [Nat.add_sub_cancel] at ih
      have go : mullionref04_Tree.l0 (k + 1) l (i : Int) = mullionref04_Tree.l0 k l ((i + 1 : Nat) : Int) := by
        rw [mullionref04_Tree.l0, if_pos (by clear e1 ew hw; omega), if_pos (by clear e1 ew hw; omega), rd_at l i h2, if_neg c1, e1, if_pos (by clear e1 ew hw; omega), if_pos (by clear e1 ew hw; omega), rd_at l (i - 1) h, ew, if_neg c2, hw]
      rw [go, ek]
      exact ⟨fun hh => ih.1 hh.2.2, fun hn => ih.2 fun hh => hn ⟨by clear e1 ew hw; omega, by clear e1 ew hw; omega, hh⟩⟩
theorem g_head : ∀ k (c : S45) kids s t rest, gL k c kids s = some (t, rest) → t.f0 = c.f1 ∧ t.f1 = c.f4 ∧ t.f2 = c.f5 := by
  intro k
  induction k with
  | zero => intro c kids s t rest h; simp [gL] at h
  | succ k ih =>
    intro c kids s t rest h
    cases s with
    | nil =>
      simp only [gL, Option.some.injEq, Prod.mk.injEq] at h
      rw [← h.1]
      exact ⟨rfl, rfl, rfl⟩
    | cons x r =>
      rw [gL] at h
      split at h
      · obtain ⟨⟨t1, r1⟩, h1, h2⟩ := Option.bind_eq_some_iff.1 h
        exact ih _ _ _ _ _ h2
      · simp only [Option.some.injEq, Prod.mk.injEq] at h
        rw [← h.1]
        exact ⟨rfl, rfl, rfl⟩
end Go.Proofs.YtmpnkckaohfflaaDoor.PGiv
end
section
namespace Go.Proofs.YtmpnkckaohfflaaDoor.PGiv
open Go.RowKit Go.Proofs.YtmpnkckaohfflaaDoorW.PrintWords Go.Proofs.YtmpnkckaohfflaaDoor.K Go.Proofs.YtmpnkckaohfflaaDoor.Num Go.Proofs.YtmpnkckaohfflaaDoor.Txt Go.Proofs.YtmpnkckaohfflaaDoor.L
set_option linter.unusedVariables false
set_option linter.unusedSimpArgs false
theorem tree_end (c : S45) (l : List S45) (h64 : (c :: l).length ≤ 64) (h0 : c.f0 = 0) (hw : c.f4 ≤ 1000) (hh : c.f5 ≤ 1000) (hd : okD 0 l) (k : Nat) (hk : 5000 ≤ k) :
    ∃ t0 : Tr, (∀ t, LayoutOK t (c :: l) → t = t0) ∧ ((LayoutOK t0 (c :: l) ∧ mullionref04_Tree.l0 (k + 1) (c :: l) ((c :: l).length : Int) = some (t0.kind, t0.w, t0.h, t0.id, toL t0.kids, true)) ∨
      (¬ LayoutOK t0 (c :: l) ∧ mullionref04_Tree.l0 (k + 1) (c :: l) ((c :: l).length : Int) = some (0, 0, 0, 0, [], false))) := by
  obtain ⟨⟨n, rest⟩, hF⟩ := (g_some k).1 (c :: l) (by simp) (by omega)
  obtain ⟨k', rfl⟩ : ∃ m, k = m + 1 := ⟨k - 1, by omega⟩
  have hL : gL k' c [] l = some (n, rest) := by rw [gF] at hF; exact hF
  obtain rfl : rest = [] := g_whole k' c [] l n rest (fun x hx => by have := okD_pos l 0 hd x hx; omega) hL
  obtain ⟨n0, n1, n2⟩ := g_head k' c [] l n [] hL
  have hcnt : cntT (ofS n) + ([] : List S45).length = (c :: l).length := (g_cnt (k' + 1)).1 _ _ _ hF
  obtain ⟨t0, ht0⟩ : ∃ t0, t0 = ofS n := ⟨_, rfl⟩
  have hn : toS t0 = n := by rw [ht0, to_of]
  rw [← ht0] at hcnt
  rw [← hn] at n0 n1 n2 hF
  clear hL
  obtain ⟨a0, a1, a2, a3, a4⟩ := toS_f t0
  have hg := (grown_eq (k' + 1)).1 (c :: l) 0 (toS t0) [] (by omega) hF
  rw [a0, a1, a2, a3, a4] at hg
  rw [a1] at n1
  rw [a2] at n2
  have hcnt : cntT t0 = (c :: l).length := hcnt
  refine ⟨t0, fun t ht => ?_, ?_⟩
  · obtain ⟨g1, g2, _, _, _⟩ := ht
    have hc := lay_cnt t g1 0 0 0
    rw [g2] at hc
    have := gF_lay t (k' + 1) 0 0 0 [] g1 (by omega) (by omega) (by omega) (fun c h => by simp at h)
    rw [List.append_nil, g2, hF] at this
    have e := congrArg (fun p => ofS p.1) (Option.some.inj this)
    simp only [of_to] at e
    exact e.symm
  · have e0 : mullionref04_grown.f (k' + 1) (c :: l) 0 = _ := hg
    rw [mullionref04_Tree.l0, if_neg (by omega), e0]
    simp only [Option.bind_some]
    rw [ids_f t0 (k' + 1) (by omega) (by omega)]
    simp only [Option.bind_some]
    obtain ⟨b, hb, hgood⟩ := sizes_f t0 (by omega) (k' + 1) (by omega) (by omega) (by omega)
    rw [hb]
    simp only [Option.bind_some]
    cases b with
    | false =>
      rw [if_neg (by simp), mullionref04_Tree.j2, if_pos rfl]
      exact .inr ⟨fun h => absurd (hgood.2 h.1) (by simp), rfl⟩
    | true =>
      have g := hgood.1 rfl
      have hil := idsT_len t0
      have hsq : ((idsT t0).length + 2) * (idsT t0).length ≤ 66 * 64 := Nat.mul_le_mul (by omega) (by omega)
      rw [if_pos rfl, twice_f (idsT t0) (k' + 1) (by omega) (by omega)]
      simp only [Option.bind_some]
      have hp : layT t0 0 0 0 = c :: l → panes (c :: l) = idsT t0 := fun e => by rw [← e, panes_ids t0 g]
      by_cases hN : (idsT t0).Nodup
      · rw [if_neg (by simp [hN])]
        by_cases h32 : ((idsT t0).length : Int) > 32
        · rw [decide_eq_true h32, mullionref04_Tree.j2, if_pos rfl]
          exact .inr ⟨fun h => by have := h.2.2.2.1; rw [hp h.2.1] at this; omega, rfl⟩
        · rw [decide_eq_false h32, mullionref04_Tree.j2, if_neg (by simp), mullionref04_List.f, lay_f t0 g (by omega) k' 0 0 0 (by omega)]
          simp only [Option.bind_some]
          have hc := lay_cnt t0 g 0 0 0
          have := tree_l1 (c :: l) (layT t0 0 0 0) (by omega) (by omega) t0.kind t0.w t0.h t0.id (toL t0.kids) (c :: l).length 0 k' (by omega) (by omega)
          have e1 : mullionref04_Tree.l1 k' (c :: l) (layT t0 0 0 0) 0 t0.kind t0.w t0.h t0.id (toL t0.kids) = _ := this
          rw [e1, List.drop_zero, List.drop_zero]
          by_cases he : layT t0 0 0 0 = c :: l
          · rw [if_pos he]
            refine .inl ⟨⟨g, he, ?_, ?_, h64⟩, rfl⟩
            · rw [hp he]
              exact hN
            · rw [hp he]
              omega
          · rw [if_neg he]
            exact .inr ⟨fun h => he h.2.1, rfl⟩
      · rw [if_pos (by simp [hN]), mullionref04_Tree.j2, if_pos rfl]
        exact .inr ⟨fun h => hN (by have := h.2.2.1; rw [hp h.2.1] at this; exact this), rfl⟩
theorem tree_j0t (k : Nat) (L : List S45) : mullionref04_Tree.j0 (k + 1) L true = some (0, 0, 0, 0, [], false) := by rw [mullionref04_Tree.j0, if_pos rfl]
theorem tree_f (L : List S45) (k : Nat) (hk : 10000 ≤ k) : (∃ t, LayoutOK t L ∧ mullionref04_Tree.f k L = some (t.kind, t.w, t.h, t.id, toL t.kids, true)) ∨ ((¬ ∃ t, LayoutOK t L) ∧ mullionref04_Tree.f k L = some (0, 0, 0, 0, [], false)) := by
  obtain ⟨k, rfl⟩ : ∃ m, k = m + 1 := ⟨k - 1, by omega⟩
  have head : ∀ t, LayoutOK t L → ∃ c l, L = c :: l ∧ c.f0 = 0 ∧ c.f4 ≤ 1000 ∧ c.f5 ≤ 1000 ∧ okD 0 l := fun t ht => by
    obtain ⟨g1, g2, _, _, g5⟩ := ht
    have hc := lay_cnt t g1 0 0 0
    rw [g2] at hc
    obtain ⟨c, r, he, _⟩ := layT_head t 0 0 0
    obtain ⟨b0, b1, b2, b3⟩ := okD_root t (by omega) c r he
    have := good_dim g1
    exact ⟨c, r, g2.symm.trans he, b0, by omega, by omega, b3⟩
  rw [mullionref04_Tree.f, tree_j0t]
  cases L with
  | nil =>
    rw [if_pos (show ((([] : List S45).length : Int) = 0) from rfl)]
    refine .inr ⟨?_, rfl⟩
    rintro ⟨t, ht⟩
    obtain ⟨c, l, e, _⟩ := head t ht
    cases e
  | cons c l =>
    rw [if_neg (by rw [List.length_cons]; omega)]
    by_cases h64 : ((c :: l).length : Int) > 64
    · rw [if_pos h64]
      exact .inr ⟨fun ⟨t, ht⟩ => by have := ht.2.2.2.2; omega, rfl⟩
    rw [if_neg h64, if_pos (by rw [List.length_cons]; omega)]
    have er : rd_T45 (c :: l) 0 = c := rfl
    rw [er]
    have hd2 : ∀ t, LayoutOK t (c :: l) → c.f0 = 0 ∧ c.f4 ≤ 1000 ∧ c.f5 ≤ 1000 ∧ okD 0 l := fun t ht => by
      obtain ⟨c', l', e, h⟩ := head t ht
      injection e with e1 e2
      subst e1 e2
      exact h
    by_cases h0 : c.f0 = 0
    case neg =>
      rw [if_neg h0]
      exact .inr ⟨fun ⟨t, ht⟩ => h0 (hd2 t ht).1, rfl⟩
    rw [if_pos h0]
    by_cases h4 : c.f4 > 1000
    · rw [if_pos h4]
      exact .inr ⟨fun ⟨t, ht⟩ => by have := (hd2 t ht).2.1; omega, rfl⟩
    rw [if_neg h4]
    by_cases h5 : c.f5 > 1000
    · rw [decide_eq_true h5, tree_j0t]
      exact .inr ⟨fun ⟨t, ht⟩ => by have := (hd2 t ht).2.2.1; omega, rfl⟩
    rw [decide_eq_false h5, mullionref04_Tree.j0, if_neg (by simp)]
    have hl : (c :: l).length ≤ 64 := by omega
    have e : l.length + 1 ≤ 64 := hl
    have := tree_l0 (c :: l) hl l.length 1 k (by simp) (by rw [List.length_cons]; omega) (by omega) (by omega) (by show 0 ≤ c.f0; omega) (by show c.f0 ≤ _; omega)
    simp only [Nat.sub_self, List.getElem_cons_zero, List.drop_succ_cons, List.drop_zero, h0] at this
    have this : (okD 0 l → mullionref04_Tree.l0 k (c :: l) 1 = mullionref04_Tree.l0 (k - l.length) (c :: l) ((c :: l).length : Int)) ∧ (¬ okD 0 l → mullionref04_Tree.l0 k (c :: l) 1 = some (0, 0, 0, 0, [], false)) := this
    by_cases hd : okD 0 l
    · rw [this.1 hd]
      obtain ⟨m, hm⟩ : ∃ m, k - l.length = m + 1 := ⟨k - l.length - 1, by omega⟩
      rw [hm]
      obtain ⟨t0, hu, h⟩ := tree_end c l hl h0 (by omega) (by omega) hd m (by omega)
      rcases h with ⟨ho, h⟩ | ⟨ho, h⟩
      · exact .inl ⟨t0, ho, h⟩
      · exact .inr ⟨fun ⟨t, ht⟩ => ho (by rw [← hu t ht]; exact ht), h⟩
    · rw [this.2 hd]
      exact .inr ⟨fun ⟨t, ht⟩ => hd (hd2 t ht).2.2.2, rfl⟩
theorem check_f (L : List S45) (k : Nat) (hk : 10000 ≤ k) : (∃ t, readF L = some (some t) ∧ mullionref04_Check.f k L = some 0) ∨ (readF L = some none ∧ mullionref04_Check.f k L = some 40) := by
  rw [mullionref04_Check.f]
  rcases tree_f L k hk with ⟨t, ht, h⟩ | ⟨hn, h⟩
  · rw [h]
    exact .inl ⟨t, ok_read ht, rfl⟩
  · rw [h]
    refine .inr ⟨?_, rfl⟩
    obtain ⟨r, hr⟩ := read_some L
    cases r with
    | none => exact hr
    | some t => exact absurd ⟨t, read_ok hr⟩ hn
end Go.Proofs.YtmpnkckaohfflaaDoor.PGiv
end
section
namespace Go.Proofs.YtmpnkckaohfflaaDoor.PGiv
open Go.RowKit Go.Proofs.YtmpnkckaohfflaaDoorW.PrintWords Go.Proofs.YtmpnkckaohfflaaDoorW.PrintLast Go.Proofs.YtmpnkckaohfflaaDoor.K Go.Proofs.YtmpnkckaohfflaaDoor.Num Go.Proofs.YtmpnkckaohfflaaDoor.Txt Go.Proofs.YtmpnkckaohfflaaDoor.L Go.Proofs.YtmpnkckaohfflaaDoor.NGiv
open Go.Lib (decDigits decDigits_one)
set_option linter.unusedVariables false
set_option linter.unusedSimpArgs false
theorem one_digit (u : Nat) (h : u < 10) : strOfNums [(wrap64 (48 + (u : Int))) % 256] = S (decDigits u) := by
  have e : wrap64 (48 + (u : Int)) % 256 = ((UInt8.ofNat (48 + u)).toNat : Int) := by
    rw [Num.byte_nat u h]
    unfold wrap64
    omega
  rw [e, decDigits_one h]
  exact S_nums [UInt8.ofNat (48 + u)]
theorem ref_put_small (u k : Nat) (h : u < 10) (hk : 2 ≤ k) : mullionref01_PutNumber.f k (u : Int) = some (S (decDigits u)) := by
  obtain ⟨k, rfl⟩ : ∃ m, k = m + 2 := ⟨k - 2, by omega⟩
  unfold mullionref01_PutNumber.f
  rw [if_neg (by omega), show decide ((u : Int) > 4611686018427387904) = false from decide_eq_false (by omega)]
  unfold mullionref01_PutNumber.j0
  rw [if_neg (by simp), if_pos (by omega), one_digit u h]
theorem ref_put_nat (d : Nat) : ∀ (u k : Nat), u < 10 ^ (d + 1) → u ≤ 4611686018427387904 → 2 * d + 2 ≤ k → mullionref01_PutNumber.f k (u : Int) = some (S (decDigits u)) := by
  induction d with
  | zero => exact fun u k h _ hk => ref_put_small u k (by omega) (by omega)
  | succ d ih =>
    intro u k h hu hk
    by_cases h1 : u < 10
    · exact ref_put_small u k h1 (by omega)
    · obtain ⟨k, rfl⟩ : ∃ m, k = m + 2 := ⟨k - 2, by omega⟩
      have h2 : u / 10 < 10 ^ (d + 1) := by
        rw [Nat.pow_succ] at h
        omega
      have e1 : wrap64 (Int.tdiv (u : Int) 10) = ((u / 10 : Nat) : Int) := by
        rw [Int.tdiv_eq_ediv_of_nonneg (by omega)]
        unfold wrap64
        omega
      have e2 : Int.tmod (u : Int) 10 = ((u % 10 : Nat) : Int) := by
        rw [Int.tmod_eq_emod_of_nonneg (by omega)]
        omega
      have l1 := dec_len d (u / 10) h2
      have l2 := dec_len 0 (u % 10) (by omega)
      have hd : d ≤ k := by omega
      unfold mullionref01_PutNumber.f
      rw [if_neg (by omega), show decide ((u : Int) > 4611686018427387904) = false from decide_eq_false (by omega)]
      unfold mullionref01_PutNumber.j0
      rw [if_neg (by simp), if_neg (by omega), e1, e2, ih (u / 10) k h2 (by omega) (by omega), ref_put_small (u % 10) k (by omega) (by omega)]
      simp only [Option.bind_some]
      have l3 : (decDigits (u / 10)).length ≤ 20 := by
        have := dec_len 18 (u / 10) (by omega)
        omega
      rw [if_pos (by rw [S_size, S_size]; omega), S_app, dec_big u h1, decDigits_one (show u % 10 < 10 by omega)]
theorem ref_put (n : Int) (k : Nat) (hk : 40 ≤ k) : mullionref01_PutNumber.f k n = some (S (putNum n)) := by
  rcases putNum_cases n with ⟨h, p⟩ | ⟨u, rfl, hu, p⟩
  · rw [p]
    obtain ⟨k, rfl⟩ : ∃ m, k = m + 2 := ⟨k - 2, by omega⟩
    unfold mullionref01_PutNumber.f
    by_cases a : n < 0
    · rw [if_pos a]
      unfold mullionref01_PutNumber.j0
      rw [if_pos rfl]
    · rw [if_neg a, show decide (n > 4611686018427387904) = true from decide_eq_true (by omega)]
      unfold mullionref01_PutNumber.j0
      rw [if_pos rfl]
  · rw [p]
    exact ref_put_nat 18 u k (by omega) hu (by omega)
theorem step_ref (n c : Int) (h0 : 0 ≤ n) (h1 : n ≤ 65535) (c0 : 0 ≤ c) (c1 : c ≤ 255) :
    Int.tmod (wrap64 ((wrap64 ((wrap64 (Int.tdiv n 2)) + (wrap64 (32768 * (Int.tmod n 2))))) + (wrap64 c))) 65536 = (n / 2 + n % 2 * 32768 + c) % 65536 := by
  rw [Int.tdiv_eq_ediv_of_nonneg h0, Int.tmod_eq_emod_of_nonneg h0]
  have w1 : wrap64 (n / 2) = n / 2 := by unfold wrap64; omega
  have w2 : wrap64 (32768 * (n % 2)) = 32768 * (n % 2) := by unfold wrap64; omega
  have w3 : wrap64 c = c := by unfold wrap64; omega
  rw [w1, w2, w3]
  have w4 : wrap64 (n / 2 + 32768 * (n % 2)) = n / 2 + 32768 * (n % 2) := by unfold wrap64; omega
  rw [w4]
  have w5 : wrap64 (n / 2 + 32768 * (n % 2) + c) = n / 2 + 32768 * (n % 2) + c := by unfold wrap64; omega
  rw [w5, Int.tmod_eq_emod_of_nonneg (by omega)]
  omega
theorem ref_sum (suf : List UInt8) : ∀ (pre : List UInt8) (k : Nat) (n i : Int), i = pre.length → 0 ≤ n → n ≤ 65535 → (pre ++ suf).length ≤ 1000000 → suf.length < k →
    mullionref05_Sum.l0 k (S (pre ++ suf)) n i = some (Sm.sumFrom n suf) := by
  induction suf with
  | nil =>
    intro pre k n i hi n0 n1 hl hk
    obtain ⟨k, rfl⟩ : ∃ m, k = m + 1 := ⟨k - 1, by simp at hk; omega⟩
    simp only [mullionref05_Sum.l0]
    rw [if_neg (by rw [S_size]; simp; omega)]
    rfl
  | cons c suf ih =>
    intro pre k n i hi n0 n1 hl hk
    obtain ⟨k, rfl⟩ : ∃ m, k = m + 1 := ⟨k - 1, by simp at hk; omega⟩
    have hlen : pre.length + (suf.length + 1) ≤ 1000000 := by simpa using hl
    have e : pre ++ c :: suf = (pre ++ [c]) ++ suf := by simp
    have hc : c.toNat < 256 := c.toNat_lt
    have h := ih (pre ++ [c]) k (Sm.step n (c.toNat : Int)) (i + 1) (by rw [hi]; simp) (Sm.step_range _ _).1 (Sm.step_range _ _).2 (by rw [← e]; exact hl) (by simp at hk; omega)
    have q1 : i < ((S (pre ++ c :: suf)).size : Int) := by rw [S_size]; simp; omega
    have q2 : 0 ≤ i := by omega
    have wi : wrap64 (i + 1) = i + 1 := IntWalk.wrap64_in _ (by omega)
    simp only [mullionref05_Sum.l0]
    rw [if_pos q1, if_pos q2, bt_mid _ _ _ _ hi, wi, step_ref n _ n0 n1 (by clear wi; omega) (by clear wi; omega), Sm.sumFrom_cons, e]
    exact h
theorem ref_sum_f (l : List UInt8) (k : Nat) (hl : l.length ≤ 1000000) (hk : l.length < k) : mullionref05_Sum.f k (S l) = some (Sm.sum l) :=
  ref_sum l [] k 0 0 rfl (by omega) (by omega) hl hk
theorem hexcut : ∀ d : Nat, d < 16 → (⟨#[48, 49, 50, 51, 52, 53, 54, 55, 56, 57, 97, 98, 99, 100, 101, 102]⟩ : ByteArray).extract d (d + 1) = strOfNums [bt hexD (d : Int)] := by decide +kernel
theorem hexcut' (d : Int) (h0 : 0 ≤ d) (h1 : d < 16) : (⟨#[48, 49, 50, 51, 52, 53, 54, 55, 56, 57, 97, 98, 99, 100, 101, 102]⟩ : ByteArray).extract d.toNat (d + 1).toNat = strOfNums [bt hexD d] := by
  obtain ⟨m, rfl⟩ := Int.eq_ofNat_of_zero_le h0
  exact hexcut m (by omega)
theorem ref_four (n : Int) (h0 : 0 ≤ n) (h1 : n ≤ 65535) : mullionref05_four.f n = some (fourT n) := by
  have e0 : Int.tdiv n 4096 = n / 4096 := Int.tdiv_eq_ediv_of_nonneg h0
  have e1 : Int.tdiv n 256 = n / 256 := Int.tdiv_eq_ediv_of_nonneg h0
  have e2 : Int.tdiv n 16 = n / 16 := Int.tdiv_eq_ediv_of_nonneg h0
  have r0 : 0 ≤ n / 4096 ∧ n / 4096 < 16 := by omega
  have r1 : 0 ≤ n / 256 ∧ n / 256 ≤ 65535 := by omega
  have r2 : 0 ≤ n / 16 ∧ n / 16 ≤ 65535 := by omega
  have m1 : Int.tmod (n / 256) 16 = n / 256 % 16 := Int.tmod_eq_emod_of_nonneg r1.1
  have m2 : Int.tmod (n / 16) 16 = n / 16 % 16 := Int.tmod_eq_emod_of_nonneg r2.1
  have m3 : Int.tmod n 16 = n % 16 := Int.tmod_eq_emod_of_nonneg h0
  have t0 : n / 4096 % 16 = n / 4096 := Int.emod_eq_of_lt r0.1 r0.2
  have s1 : 0 ≤ n / 256 % 16 ∧ n / 256 % 16 < 16 := by omega
  have s2 : 0 ≤ n / 16 % 16 ∧ n / 16 % 16 < 16 := by omega
  have s3 : 0 ≤ n % 16 ∧ n % 16 < 16 := by omega
  have w0 : wrap64 (n / 4096) = n / 4096 := IntWalk.wrap64_in _ (by omega)
  have w1 : wrap64 (n / 256) = n / 256 := IntWalk.wrap64_in _ (by omega)
  have w2 : wrap64 (n / 16) = n / 16 := IntWalk.wrap64_in _ (by omega)
  have v0 : wrap64 (n / 4096 + 1) = n / 4096 + 1 := IntWalk.wrap64_in _ (by omega)
  have v1 : wrap64 (n / 256 % 16 + 1) = n / 256 % 16 + 1 := IntWalk.wrap64_in _ (by omega)
  have v2 : wrap64 (n / 16 % 16 + 1) = n / 16 % 16 + 1 := IntWalk.wrap64_in _ (by omega)
  have v3 : wrap64 (n % 16 + 1) = n % 16 + 1 := IntWalk.wrap64_in _ (by omega)
  unfold mullionref05_four.f
  rw [e0, e1, e2, w0, w1, w2, m1, m2, m3, v0, v1, v2, v3]
  clear e0 e1 e2 w0 w1 w2 m1 m2 m3 v0 v1 v2 v3
  rw [hexcut' _ r0.1 r0.2, hexcut' _ s1.1 s1.2, hexcut' _ s2.1 s2.2, hexcut' _ s3.1 s3.2]
  unfold fourT
  rw [t0]
  clear t0
  generalize hA : n / 4096 = a at *
  generalize hB : n / 256 % 16 = b at *
  generalize hC : n / 16 % 16 = c at *
  generalize hD : n % 16 = d at *
  have z : ∀ l : List Int, (strOfNums l).size = l.length := strOfNums_size
  rw [if_pos (by omega), if_pos (by omega), if_pos (by omega), if_pos (by omega), if_pos (by omega), if_pos (by omega), if_pos (by rw [z, z]; simp), if_pos (by omega), if_pos (by omega), if_pos (by omega), if_pos (by rw [ByteArray.size_append, z, z, z]; simp), if_pos (by omega), if_pos (by omega), if_pos (by omega), if_pos (by rw [ByteArray.size_append, ByteArray.size_append, z, z, z, z]; simp)]
  congr 1
theorem deepL (kind d : Int) : ∀ (ks : List Tr), (∀ t ∈ ks, ∀ x y, ∀ c ∈ layT t d x y, d ≤ c.f0) → ∀ x y, ∀ c ∈ layL kind ks d x y, d ≤ c.f0
  | [], _, x, y => by rw [layL]; intro c hc; simp at hc
  | k :: r, h, x, y => by
    rw [layL]
    intro c hc
    rcases List.mem_append.1 hc with hc | hc
    · exact h k List.mem_cons_self x y c hc
    · exact deepL kind d r (fun t ht => h t (List.mem_cons_of_mem _ ht)) _ _ c hc
theorem deepT : ∀ (t : Tr) (d x y : Int), 0 ≤ d → d + cntT t ≤ 100000 → ∀ c ∈ layT t d x y, d ≤ c.f0 := by
  refine Tr.ind ?_
  intro kind w h id kids ih d x y hd hc
  rw [cntT] at hc
  rw [layT]
  split
  · intro c hc
    rw [List.mem_singleton.1 hc]
    exact Int.le_refl _
  · intro c hc'
    rcases List.mem_cons.1 hc' with rfl | hm
    · exact Int.le_refl _
    · have hw : wrap64 (d + 1) = d + 1 := IntWalk.wrap64_in _ (by omega)
      rw [hw] at hm
      have := deepL kind (d + 1) kids (fun t ht x y => ih t ht (d + 1) x y (by clear hw; omega) (by have := cntT_mem t kids ht; clear hw; omega)) x y c hm
      clear hw
      omega
theorem behind_loop (L : List S45) (a : Nat) (c : S45) (ha : a < L.length) (hc : rd_T45 L (a : Int) = c) (hl : L.length ≤ 1000) : ∀ (C P Q : List S45) (k : Nat), L = P ++ C ++ Q → C.length + 1 ≤ k → (∀ e ∈ C, c.f0 < e.f0) → (∀ q, Q.head? = some q → q.f0 ≤ c.f0) →
    mullionref05_behind.l0 k L (a : Int) (P.length : Int) = some ((P.length + C.length : Nat) : Int)
  | [], P, Q, k, e, hk, hC, hQ => by
    obtain ⟨k, rfl⟩ : ∃ m, k = m + 1 := ⟨k - 1, by omega⟩
    rw [mullionref05_behind.l0, hc]
    cases Q with
    | nil =>
      rw [if_neg (by rw [e]; simp)]
      rfl
    | cons q Q =>
      have hq : q.f0 ≤ c.f0 := hQ q rfl
      have hlt : P.length < L.length := by rw [e]; simp
      have er : rd_T45 L (P.length : Int) = q := by rw [rd_at L P.length hlt]; simp [e]
      rw [if_pos (by omega), if_pos (by omega), if_pos (by omega), if_pos (by omega), er, if_neg (by omega)]
      rfl
  | x :: C, P, Q, k, e, hk, hC, hQ => by
    obtain ⟨k, rfl⟩ : ∃ m, k = m + 1 := ⟨k - 1, by omega⟩
    have hx := hC x List.mem_cons_self
    have hlt : P.length < L.length := by rw [e]; simp
    have er : rd_T45 L (P.length : Int) = x := by rw [rd_at L P.length hlt]; simp [e]
    have h1 := behind_loop L a c ha hc hl C (P ++ [x]) Q k (by rw [e]; simp) (by simp at hk; omega) (fun e he => hC e (List.mem_cons_of_mem _ he)) hQ
    have hlen : (P ++ [x]).length = P.length + 1 := by simp
    rw [hlen] at h1
    have q1 : (P.length : Int) < (L.length : Int) := by omega
    have q2 : (a : Int) < (L.length : Int) := by omega
    have hw : wrap64 ((P.length : Int) + 1) = ((P.length + 1 : Nat) : Int) := (IntWalk.wrap64_in _ (by omega)).trans rfl
    rw [mullionref05_behind.l0, hc, if_pos q1, if_pos (Int.natCast_nonneg _), if_pos (Int.natCast_nonneg _), if_pos q2, er, if_pos hx, hw, h1, List.length_cons]
    have : P.length + 1 + C.length = P.length + (C.length + 1) := by omega
    rw [this]
theorem behind_tree (t : Tr) (d x y : Int) (P Q : List S45) (k : Nat) (hd : 0 ≤ d) (hc : d + cntT t ≤ 100000) (hl : (P ++ layT t d x y ++ Q).length ≤ 1000) (hQ : ∀ q, Q.head? = some q → q.f0 ≤ d) (hk : 1000 ≤ k) :
    mullionref05_behind.f k (P ++ layT t d x y ++ Q) (P.length : Int) = some ((P.length + (layT t d x y).length : Nat) : Int) := by
  have key : ∃ c C, layT t d x y = c :: C ∧ c.f0 = d ∧ ∀ e ∈ C, d < e.f0 := by
    obtain ⟨kind, w, h, id, kids⟩ := t
    rw [cntT] at hc
    rw [layT]
    split
    · exact ⟨_, _, rfl, rfl, fun e he => by simp at he⟩
    · refine ⟨_, _, rfl, rfl, fun e he => ?_⟩
      have hw : wrap64 (d + 1) = d + 1 := IntWalk.wrap64_in _ (by omega)
      rw [hw] at he
      have := deepL kind (d + 1) kids (fun t ht x y => deepT t (d + 1) x y (by clear hw; omega) (by have := cntT_mem t kids ht; clear hw; omega)) x y e he
      clear hw
      omega
  obtain ⟨c, C, e, h0, hC⟩ := key
  rw [e] at hl ⊢
  have hlt : P.length < (P ++ (c :: C) ++ Q).length := by simp
  have er : rd_T45 (P ++ (c :: C) ++ Q) (P.length : Int) = c := by rw [rd_at _ P.length hlt]; simp
  have h1 := behind_loop (P ++ (c :: C) ++ Q) P.length c hlt er hl C (P ++ [c]) Q k (by simp) (by simp at hl; omega) (fun e he => by have := hC e he; omega) (fun q hq => by have := hQ q hq; omega)
  have hlen : (P ++ [c]).length = P.length + 1 := by simp
  rw [hlen] at h1
  have hw : wrap64 ((P.length : Int) + 1) = ((P.length + 1 : Nat) : Int) := (IntWalk.wrap64_in _ (by omega)).trans rfl
  rw [mullionref05_behind.f, hw, h1, List.length_cons]
  have : P.length + 1 + C.length = P.length + (C.length + 1) := by clear hw; omega
  rw [this]
theorem txtL_cnt (kind : Int) : ∀ (ks : List Tr), (∀ t ∈ ks, ∀ x y, (txtT t x y).length + 1 ≤ 100 * cntT t) → ∀ first x y, (txtL kind first ks x y).length ≤ 100 * cntL ks
  | [], _, first, x, y => by rw [txtL]; simp
  | k :: r, h, first, x, y => by
    have h1 := h k List.mem_cons_self x y
    have h4 : ((if first then [] else [44]) : List UInt8).length ≤ 1 := by cases first <;> simp
    have h2 := txtL_cnt kind r (fun t ht => h t (List.mem_cons_of_mem _ ht)) false (if kind = 2 then wrap64 (x + wrap64 (k.w + 1)) else x) (if kind = 2 then y else wrap64 (y + wrap64 (k.h + 1)))
    rw [txtL, cntL, List.length_append, List.length_append]
    omega
theorem txtT_cnt : ∀ (t : Tr) (x y : Int), (txtT t x y).length + 1 ≤ 100 * cntT t := by
  refine Tr.ind ?_
  intro kind w h id kids ih x y
  have l1 := putNum_big w
  have l2 := putNum_big h
  have l3 := putNum_big x
  have l4 := putNum_big y
  have l5 := putNum_big id
  have l6 := txtL_cnt kind kids ih true x y
  rw [txtT, cntT]
  simp only [List.length_append, List.length_cons, List.length_nil]
  split <;> simp <;> omega
theorem body_loop (kind d : Int) (hd : 0 ≤ d) (L : List S45) (a : Nat) (hl : L.length ≤ 1000) (T : List UInt8) (hT : T.length ≤ 1) : ∀ (ks : List Tr), d + 1 + cntL ks ≤ 1000 →
    (∀ t ∈ ks, ∀ (x y : Int) (P Q : List S45) (k : Nat), L = P ++ layT t (d + 1) x y ++ Q → 3 * cntT t + 1100 ≤ k → (∀ q, Q.head? = some q → q.f0 ≤ d + 1) → mullionref05_body.f k L (P.length : Int) = some (S (txtT t x y))) →
    ∀ (x y : Int) (P Q : List S45) (k : Nat) (X : List UInt8) (first : Bool), L = P ++ layL kind ks (d + 1) x y ++ Q → 3 * cntL ks + 1101 ≤ k → (∀ q, Q.head? = some q → q.f0 ≤ d) → a + 1 ≤ P.length → (first = true ↔ P.length = a + 1) → X.length + 100 * cntL ks ≤ 1000000 →
      mullionref05_body.l0 k L (a : Int) (S X) (S T) ((P.length + (layL kind ks (d + 1) x y).length : Nat) : Int) (P.length : Int) = some (S (X ++ txtL kind first ks x y ++ T))
  | [], hc, ih, x, y, P, Q, k, X, first, e, hk, hQ, ha, hf, hX => by
    obtain ⟨k, rfl⟩ : ∃ m, k = m + 1 := ⟨k - 1, by omega⟩
    rw [mullionref05_body.l0, layL, txtL, if_neg (by simp), if_pos (by rw [S_size, S_size]; omega), S_app]
    simp
  | t :: r, hc, ih, x, y, P, Q, k, X, first, e, hk, hQ, ha, hf, hX => by
    obtain ⟨k, rfl⟩ : ∃ m, k = m + 1 := ⟨k - 1, by omega⟩
    rw [cntL] at hc hk hX
    have hpos := cntT_pos t
    obtain ⟨q, qs, hq, hq0⟩ := layT_head t (d + 1) x y
    have htl := txtT_cnt t x y
    rw [layL_cons] at e ⊢
    rw [txtL_cons]
    generalize hx' : (if kind = 2 then wrap64 (x + wrap64 (t.w + 1)) else x) = x' at *
    generalize hy' : (if kind = 2 then y else wrap64 (y + wrap64 (t.h + 1))) = y' at *
    have e1 : L = P ++ layT t (d + 1) x y ++ (layL kind r (d + 1) x' y' ++ Q) := by rw [e]; simp
    have hh : ∀ q, (layL kind r (d + 1) x' y' ++ Q).head? = some q → q.f0 ≤ d + 1 := fun z hz => by
      cases r with
      | nil =>
        rw [layL, List.nil_append] at hz
        have := hQ z hz
        omega
      | cons t2 r2 =>
        obtain ⟨q2, qs2, hq2, hq20⟩ := layT_head t2 (d + 1) x' y'
        rw [layL_cons, hq2] at hz
        simp at hz
        rw [← hz]
        omega
    have h1 := ih t List.mem_cons_self x y P _ k e1 (by omega) hh
    have h2 : mullionref05_behind.f k L (P.length : Int) = some ((P.length + (layT t (d + 1) x y).length : Nat) : Int) := by
      have := behind_tree t (d + 1) x y P (layL kind r (d + 1) x' y' ++ Q) k (by omega) (by omega) (by rw [← e1]; exact hl) hh (by omega)
      rwa [← e1] at this
    have hP : (P ++ layT t (d + 1) x y).length = P.length + (layT t (d + 1) x y).length := by simp
    have hlt : 1 ≤ (layT t (d + 1) x y).length := by rw [hq]; simp
    have e2 : L = (P ++ layT t (d + 1) x y) ++ layL kind r (d + 1) x' y' ++ Q := by rw [e]; simp
    have e3 : P.length + (layT t (d + 1) x y ++ layL kind r (d + 1) x' y').length = (P ++ layT t (d + 1) x y).length + (layL kind r (d + 1) x' y').length := by simp; omega
    have hLP : P.length < L.length := by rw [e1]; simp; omega
    have hwa : wrap64 ((a : Int) + 1) = ((a + 1 : Nat) : Int) := (IntWalk.wrap64_in _ (by omega)).trans rfl
    have rest := fun (X' : List UInt8) (hX' : X'.length + 100 * cntL r ≤ 1000000) => body_loop kind d hd L a hl T hT r (by clear hwa; omega) (fun t ht => ih t (List.mem_cons_of_mem _ ht)) x' y' (P ++ layT t (d + 1) x y) Q k X' false e2 (by clear hwa; omega) hQ (by rw [hP]; clear hwa; omega) (by rw [hP]; simp; clear hwa; omega) hX'
    rw [e3, mullionref05_body.l0, if_pos (by rw [hP]; clear hwa; omega), hwa]
    cases first with
    | true =>
      have hpa := hf.1 rfl
      rw [if_neg (by clear hwa; omega), h1]
      simp only [Option.bind_some]
      rw [if_pos (by rw [S_size, S_size]; clear hwa; omega), h2]
      simp only [Option.bind_some]
      rw [S_app, ← hP, rest (X ++ txtT t x y) (by rw [List.length_append]; clear hwa; omega)]
      simp
    | false =>
      have hpa : ¬ P.length = a + 1 := fun h => by simpa using hf.2 h
      rw [if_pos (by clear hwa; omega), if_pos (by rw [S_size]; clear hwa; omega), h1]
      simp only [Option.bind_some]
      have e44 : (⟨#[44]⟩ : ByteArray) = S [44] := rfl
      rw [e44, S_app, if_pos (by rw [S_size, S_size, List.length_append]; simp; clear hwa; omega), h2]
      simp only [Option.bind_some]
      rw [S_app, ← hP, rest (X ++ [44] ++ txtT t x y) (by simp only [List.length_append, List.length_cons, List.length_nil]; clear hwa; omega)]
      simp
theorem body_f : ∀ (t : Tr), goodT t → ∀ (d x y : Int) (L P Q : List S45) (k : Nat), L = P ++ layT t d x y ++ Q → L.length ≤ 1000 → 0 ≤ d → d + cntT t ≤ 1000 → 3 * cntT t + 1100 ≤ k → (∀ q, Q.head? = some q → q.f0 ≤ d) → mullionref05_body.f k L (P.length : Int) = some (S (txtT t x y)) := by
  refine Tr.ind ?_
  intro kind w h id kids ih hg d x y L P Q k e hl hd hc hk hQ
  have hbt := behind_tree ⟨kind, w, h, id, kids⟩ d x y P Q
  rw [← e] at hbt
  have hc0 := hc
  rw [cntT] at hc hk
  obtain ⟨k, rfl⟩ : ∃ m, k = m + 1 + 1 := ⟨k - 2, by omega⟩
  obtain ⟨_, hh⟩ := (goodT_def _ _ _ _ _).1 hg
  have hgk : ∀ t ∈ kids, goodT t := fun t ht => by
    rcases hh with ⟨_, _, _, e2⟩ | ⟨_, _, _, e3, _⟩
    · rw [e2] at ht
      simp at ht
    · exact (goodL_mem _ _ _ t kids e3 ht).2.2.1
  have l1 := putNum_big w
  have l2 := putNum_big h
  have l3 := putNum_big x
  have l4 := putNum_big y
  have l5 := putNum_big id
  obtain ⟨c, C, ec, c1, c2, c3, c4, c5, c6⟩ : ∃ c C, layT ⟨kind, w, h, id, kids⟩ d x y = c :: C ∧ c.f1 = kind ∧ c.f2 = x ∧ c.f3 = y ∧ c.f4 = w ∧ c.f5 = h ∧ (kind = 1 → c.f6 = id) := by
    rw [layT]
    split
    · rename_i e1
      exact ⟨_, _, rfl, e1.symm, rfl, rfl, rfl, rfl, fun _ => rfl⟩
    · rename_i e1
      exact ⟨_, _, rfl, rfl, rfl, rfl, rfl, rfl, fun h => absurd h e1⟩
  have hlt : P.length < L.length := by rw [e, ec]; simp
  have er : rd_T45 L (P.length : Int) = c := by rw [rd_at L P.length hlt]; simp [e, ec]
  have e120 : (⟨#[120]⟩ : ByteArray) = S [120] := rfl
  have e44 : (⟨#[44]⟩ : ByteArray) = S [44] := rfl
  rw [mullionref05_body.f, if_pos (by omega), if_pos (by omega), er, c1, c2, c3, c4, c5, ref_put w _ (by omega), ref_put h _ (by omega), ref_put x _ (by omega), ref_put y _ (by omega)]
  simp only [Option.bind_some]
  rw [e120, e44]
  simp only [S_app, S_size]
  have b1 : (putNum w).length + 1 ≤ 9223372036854775807 := by omega
  have b2 : (putNum w ++ [120]).length + (putNum h).length ≤ 9223372036854775807 := by simp; omega
  have b3 : (putNum w ++ [120] ++ putNum h).length + 1 ≤ 9223372036854775807 := by simp; omega
  have b4 : (putNum w ++ [120] ++ putNum h ++ [44]).length + (putNum x).length ≤ 9223372036854775807 := by simp; omega
  have b5 : (putNum w ++ [120] ++ putNum h ++ [44] ++ putNum x).length + 1 ≤ 9223372036854775807 := by simp; omega
  have b6 : (putNum w ++ [120] ++ putNum h ++ [44] ++ putNum x ++ [44]).length + (putNum y).length ≤ 9223372036854775807 := by simp; omega
  rw [if_pos b1, if_pos b2, if_pos b3, if_pos b4, if_pos b5, if_pos b6, txtT]
  clear b1 b2 b3 b4 b5 b6
  generalize hH : putNum w ++ [120] ++ putNum h ++ [44] ++ putNum x ++ [44] ++ putNum y = H
  have hHl : H.length ≤ 100 := by rw [← hH]; simp; omega
  by_cases k1 : kind = 1
  · rw [if_pos k1, if_pos k1, c6 k1, ref_put id _ (by omega)]
    simp only [Option.bind_some, S_app, S_size]
    have b7 : H.length + 1 ≤ 9223372036854775807 := by omega
    have b8 : (H ++ [44]).length + (putNum id).length ≤ 9223372036854775807 := by simp; omega
    rw [if_pos b7, if_pos b8]
    simp
  · rw [if_neg k1, if_neg k1]
    have hb := hbt k hd (by omega) hl hQ (by omega)
    have hlay : layT ⟨kind, w, h, id, kids⟩ d x y = ⟨d, kind, x, y, w, h, 0⟩ :: layL kind kids (d + 1) x y := by
      have hw : wrap64 (d + 1) = d + 1 := IntWalk.wrap64_in _ (by omega)
      rw [layT, if_neg k1, hw]
    rw [hlay] at e hb
    have e3 : L = (P ++ [⟨d, kind, x, y, w, h, 0⟩]) ++ layL kind kids (d + 1) x y ++ Q := by rw [e]; simp
    have hP : (P ++ [(⟨d, kind, x, y, w, h, 0⟩ : S45)]).length = P.length + 1 := by simp
    have hend : P.length + ((⟨d, kind, x, y, w, h, 0⟩ : S45) :: layL kind kids (d + 1) x y).length = (P ++ [(⟨d, kind, x, y, w, h, 0⟩ : S45)]).length + (layL kind kids (d + 1) x y).length := by simp; omega
    rw [hend] at hb
    have hl2 := len_cntL kids
    have hwa : wrap64 ((P.length : Int) + 1) = (((P ++ [(⟨d, kind, x, y, w, h, 0⟩ : S45)]).length : Nat) : Int) := (IntWalk.wrap64_in _ (by omega)).trans (by rw [hP]; rfl)
    have loop := fun (T : List UInt8) (hT : T.length ≤ 1) (O : List UInt8) (hO : O.length ≤ 1) => body_loop kind d hd L P.length hl T hT kids (by clear hwa; omega) (fun t ht x y P Q k' e hk' hQ => ih t ht (hgk t ht) (d + 1) x y L P Q k' e hl (by clear hwa; omega) (by have := cntT_mem t kids ht; clear hwa; omega) hk' hQ) x y (P ++ [⟨d, kind, x, y, w, h, 0⟩]) Q k (H ++ O) true e3 (by clear hwa; omega) hQ (by rw [hP]; clear hwa; omega) (by rw [hP]; simp) (by rw [List.length_append]; clear hwa; omega)
    have j0 : ∀ (O T : List UInt8), O.length ≤ 1 → T.length ≤ 1 → mullionref05_body.j0 (k + 1) L (P.length : Int) (S H) (S O) (S T) = some (S (H ++ O ++ txtL kind true kids x y ++ T)) := fun O T hO hT => by
      have b1 : H.length + O.length ≤ 9223372036854775807 := by clear hwa; omega
      rw [mullionref05_body.j0, S_size, S_size, if_pos b1, hb]
      simp only [Option.bind_some]
      rw [S_app, hwa]
      exact loop T hT O hO
    by_cases k3 : kind = 3
    · rw [if_pos k3, if_pos k3, if_pos k3]
      refine (j0 [91] [93] (by simp) (by simp)).trans ?_
      simp
    · rw [if_neg k3, if_neg k3, if_neg k3]
      refine (j0 [123] [125] (by simp) (by simp)).trans ?_
      simp
theorem body_whole {L : List S45} {t : Tr} (ht : LayoutOK t L) (k : Nat) (hk : 2000 ≤ k) : mullionref05_body.f k L 0 = some (S (txtT t 0 0)) := by
  obtain ⟨g, e, _, _, hl⟩ := ht
  have hc := lay_cnt t g 0 0 0
  rw [e] at hc
  exact body_f t g 0 0 0 L [] [] k (by rw [e]; simp) (by omega) (by omega) (by omega) (by omega) (fun q h => by simp at h)
theorem ref_text (L : List S45) (k : Nat) (hk : 1000000 ≤ k) : ∃ s e, plan_Text.f L = some (s, e) ∧ mullionref05_Text.f k L = some (s, e) := by
  rw [mullionref05_Text.f]
  rcases check_f L k (by omega) with ⟨t, hr, hc⟩ | ⟨hr, hc⟩
  · obtain ⟨s, h1, h2, h3, _⟩ := text_back hr
    refine ⟨s, 0, h1, ?_⟩
    have ht := read_ok hr
    have hcnt := lay_cnt t ht.1 0 0 0
    rw [ht.2.1] at hcnt
    have hl := ht.2.2.2.2
    have htl := txtT_cnt t 0 0
    obtain ⟨s0, s1⟩ := Sm.sum_range (txtT t 0 0)
    rw [hc]
    simp only [Option.bind_some, if_true]
    rw [body_whole ht k (by omega)]
    simp only [Option.bind_some]
    rw [ref_sum_f _ k (by omega) (by omega)]
    simp only [Option.bind_some]
    rw [ref_four _ s0 s1]
    simp only [Option.bind_some]
    have hf := fourT_size (Sm.sum (txtT t 0 0))
    have e44 : (⟨#[44]⟩ : ByteArray) = S [44] := rfl
    rw [e44, ByteArray.size_append, hf, S_size, S_size, if_pos (by omega), if_pos (by simp; omega)]
    congr 2
    apply by_ext
    rw [by_app, by_app, h2]
  · refine ⟨⟨#[]⟩, 40, ?_, ?_⟩
    · rw [plan_Text.f, hr]
      rfl
    · rw [hc]
      rfl
end Go.Proofs.YtmpnkckaohfflaaDoor.PGiv
end
section
namespace Go.Proofs.YtmpnkckaohfflaaDoor.PGiv
open Go.RowKit Go.Proofs.YtmpnkckaohfflaaDoorW.PrintWords Go.Proofs.YtmpnkckaohfflaaDoor.K Go.Proofs.YtmpnkckaohfflaaDoor.Num Go.Proofs.YtmpnkckaohfflaaDoor.Txt Go.Proofs.YtmpnkckaohfflaaDoor.L
set_option linter.unusedVariables false
set_option linter.unusedSimpArgs false
theorem same_lL (a b : List S45) (hn : a.length = b.length) (hb : a.length ≤ 2513169434916) : ∀ (k i : Nat), i ≤ a.length → a.length < k + i → mullionlaw05_same.l0 k a b (i : Int) = some (decide (a.drop i = b.drop i)) := by
  intro k
  induction k with
  | zero => intro i h1 h2; omega
  | succ k ih =>
    intro i h1 h2
    rw [mullionlaw05_same.l0]
    by_cases hi : i < a.length
    · have hi' : i < b.length := by omega
      rw [if_pos (by omega), if_pos (by omega), if_pos (by omega), rd_at a i hi, rd_at b i hi']
      have da : a.drop i = a[i] :: a.drop (i + 1) := List.drop_eq_getElem_cons hi
      have db : b.drop i = b[i] :: b.drop (i + 1) := List.drop_eq_getElem_cons hi'
      have hw : wrap64 ((i : Int) + 1) = ((i + 1 : Nat) : Int) := (IntWalk.wrap64_in _ (by omega)).trans (by omega)
      have hiff : (a.drop i = b.drop i) ↔ (a[i] = b[i] ∧ a.drop (i + 1) = b.drop (i + 1)) := by
        rw [da, db]
        simp only [List.cons.injEq]
      split
      · rename_i h
        have hne : ¬ a.drop i = b.drop i := fun e => by
          rw [(hiff.1 e).1] at h
          simp at h
        simp only [hne, decide_false]
      · rename_i h
        have e := cell_eq (by simpa using h)
        rw [hw, ih (i + 1) (by omega) (by omega)]
        simp only [hiff, e, true_and]
    · rw [if_neg (by omega), List.drop_eq_nil_of_le (by omega), List.drop_eq_nil_of_le (by omega)]
      simp
theorem same_fL (a b : List S45) (hb : a.length ≤ 2513169434916) (k : Nat) (hk : a.length < k) : mullionlaw05_same.f k a b = some (decide (a = b)) := by
  rw [mullionlaw05_same.f]
  by_cases hn : a.length = b.length
  · rw [if_pos (by omega)]
    have := same_lL a b hn hb k 0 (by omega) (by omega)
    simpa using this
  · rw [if_neg (by omega)]
    have : ¬ a = b := fun e => hn (by rw [e])
    simp [this]
theorem sure_fL (k : Nat) (hk : 2 ≤ k) : mullionlaw05_sure.f k = some true := by
  have hT : plan_Text.f [⟨0, 1, 0, 0, 80, 24, 1⟩] = some (sureT, 0) := by
    rcases parse_cases sureT with ⟨e, _, h⟩ | ⟨L, h, ht, _⟩
    · rw [sure_parse] at h
      simp at h
    · rw [sure_parse] at h
      obtain ⟨h1, _⟩ := Prod.mk.inj (Option.some.inj h)
      rw [h1]
      exact ht
  unfold mullionlaw05_sure.f
  simp only [Option.bind_some]
  rw [hT]
  simp only [Option.bind_some]
  rw [show (⟨#[98, 50, 53, 101, 44, 56, 48, 120, 50, 52, 44, 48, 44, 48, 44, 49]⟩ : ByteArray) = sureT from rfl, sure_parse]
  simp only [Option.bind_some]
  rw [if_pos (by rw [toList_by]; rfl), if_pos trivial, same_fL _ _ (by simp) k (by simp; omega)]
  simp
theorem texts_f (k : Nat) (l : List S45) (hl : l.length < 2513169434916) (hk : l.length + 1000000 ≤ k) : mullionlaw05_PlanTexts.f k l = some true := by
  unfold mullionlaw05_PlanTexts.f
  simp only [Option.bind_some, List.nil_append, List.length_nil, Nat.zero_add]
  obtain ⟨s, e, h1, h2⟩ := ref_text l k (by omega)
  rw [if_pos hl, h1, h2]
  simp only [Option.bind_some, if_true]
  rw [same_fL l l (by omega) k (by omega)]
  simp only [Option.bind_some, decide_true, if_true]
  rw [sure_fL k (by omega)]
  rfl
theorem pureTexts (l : List S45) (h : ∀ c ∈ l, wfC c) (hl : l.length < 2513169434916) : ∃ k, mullionlaw05_PlanTexts.f k l = some true := ⟨l.length + 1000000, texts_f _ l hl (Nat.le_refl _)⟩
end Go.Proofs.YtmpnkckaohfflaaDoor.PGiv
end
section
namespace Go.Proofs.YtmpnkckaohfflaaDoor.PGiv
open Go.RowKit Go.Proofs.YtmpnkckaohfflaaDoorW.PrintWords Go.Proofs.YtmpnkckaohfflaaDoor.K
set_option linter.unusedVariables false
theorem cell_bytes : Tryd.prog.bytesOf 45 = 56 := by kernel_rfl
theorem cells_len {H : Type} {enc : TypeId × Value → H} {w : World} {base : Nat} {spare : Nat → Bool} {held : Bool} {t fuel : Nat} {A : Option Addr} {len cap : Nat} {x : DataW H × List MemPlace} (ht : Tryd.prog.underlying t = some (.slice 45)) (h : DataW.trod enc Tryd.prog w base spare held fuel t [.slice A len cap] = some x)
    {ts : List TypeId} {ds : List (DataW H)} (hz : (DataW.weightsEach Tryd.prog ts ds).all (· ≤ reachBytes) = true) {j : Nat} (h1 : ts[j]? = some t) (h2 : ds[j]? = some x.1) : len < 2513169434916 := by
  rcases Go.Deep.open_slice ht h with ⟨hcs, _⟩ | ⟨a, len', cap', m, n, D, Pl, hcs, hb, hl, hm, hmm, hx, _⟩
  · simp at hcs
    omega
  · simp at hcs
    obtain ⟨rfl, rfl, rfl⟩ := hcs
    rw [hx] at h2
    have := sized_slice hz h1 h2 ht
    rw [cell_bytes] at this
    simp only [List.length_map, List.length_range] at this
    have hr : reachBytes = 140737488351232 := rfl
    omega
end Go.Proofs.YtmpnkckaohfflaaDoor.PGiv
end
section
namespace Go.Proofs.YtmpnkckaohfflaaDoor.planTexts
open Go.ChangeShapes Go.WideShapes Go.ChangeAt Go.RowKit
open Go.ChangeMaps (open_string shut_string)
set_option linter.unusedVariables false
set_option linter.unusedSimpArgs false
theorem own : ownKnob Tryd.prog.godebug = none := by kernel_rfl
theorem gTenType : (Tryd.prog.globals[1]?).map (·.type) = some 140 := by kernel_rfl
theorem cellsT : Tryd.prog.cellsOf 140 = 20 := by kernel_rfl
theorem cellsE : Tryd.prog.cellsOf 133 = 1 := by kernel_rfl
theorem gRngType : (Tryd.prog.globals[3]?).map (·.type) = some 76 := by kernel_rfl
theorem gSynType : (Tryd.prog.globals[2]?).map (·.type) = some 76 := by kernel_rfl
theorem cellsErr : Tryd.prog.cellsOf 162 = 1 := by kernel_rfl
theorem cellsStr : Tryd.prog.cellsOf 9 = 1 := by kernel_rfl
theorem star : "*" ++ "errors.errorString" = "*errors.errorString" := by decide
theorem rowErr (u : TypeId) (h : Tryd.prog.typeName? 3 u = some "*errors.errorString") : u = 160 :=
  typeName_ptr_named (nm := "errors.errorString") (by rw [star]; kernel_rfl) (by kernel_rfl) (by decide) u (by rw [star]; exact h)
theorem tenData {H : Type} : (Rows.laid_internal_strconv_uint64pow10 : DataW H) = Lib.tabData .u64 Lib.pow10Tab := rfl
theorem glb {W : World} (h : laidMetH Tryd.prog Rows.planTextsRow.laid W) : NGiv.Glb W := by
  have ht : laidMet Tryd.prog (("internal/strconv.uint64pow10", Lib.tabData .u64 Lib.pow10Tab) :: [("strconv.ErrRange", Rows.laid_strconv_ErrRange), ("strconv.ErrSyntax", Rows.laid_strconv_ErrSyntax)]) W := by
    rw [← tenData]
    exact h.tail.tail
  have hx3 : laidMet Tryd.prog (("strconv.ErrRange", .iface "*errors.errorString" (.ptr (.agg [.lit (.string [118, 97, 108, 117, 101, 32, 111, 117, 116, 32, 111, 102, 32, 114, 97, 110, 103, 101])]))) :: [("strconv.ErrSyntax", Rows.laid_strconv_ErrSyntax)]) W := h.tail.tail.tail
  obtain ⟨a3, s3, hv3, -, -, -⟩ := laid_sentinel hx3 NGiv.gRng gRngType Tryd.underlying76 rowErr Tryd.underlying160 Tryd.underlying162 rfl rfl Tryd.underlying9 cellsErr cellsStr
  have hx4 : laidMet Tryd.prog (("strconv.ErrSyntax", .iface "*errors.errorString" (.ptr (.agg [.lit (.string [105, 110, 118, 97, 108, 105, 100, 32, 115, 121, 110, 116, 97, 120])]))) :: []) W := h.tail.tail.tail.tail
  obtain ⟨a4, s4, hv4, -, -, -⟩ := laid_sentinel hx4 NGiv.gSyn gSynType Tryd.underlying76 rowErr Tryd.underlying160 Tryd.underlying162 rfl rfl Tryd.underlying9 cellsErr cellsStr
  exact ⟨Lib.tabIs_of_head NGiv.gTen gTenType Tryd.underlying140 Tryd.underlying133 cellsE cellsT ht, ⟨_, _, hv3⟩, ⟨_, _, hv4⟩⟩
theorem laidOut : laidOutB Tryd.prog = true := by kernel_rfl
set_option maxRecDepth 100000 in
theorem contract (H : Type) (enc : TypeId × Value → H) (W : World) (base : Nat) (args : Array Value) (ds gs : List (DataW H)) (before : List MemPlace)
    (hval : ∀ (j : Nat) t v, Tryd.f3.params[j]? = some t → args[j]? = some v → Value.okWide Tryd.prog W .any base t v)
    (hW : DataW.Whole enc Tryd.prog Tryd.f3.params.toList Rows.planTextsSpec.vars false W args.toList ds gs before) (hL : laidMetH Tryd.prog Rows.planTextsRow.laid W) (hsz : (DataW.weightsEach Tryd.prog (Tryd.f3.params.toList ++ Rows.planTextsSpec.plain.varTypes Tryd.prog) (ds ++ gs)).all (· ≤ reachBytes) = true)
    : Calls Tryd.prog 3 args W fun e W' => ∃ v, e = .returned v ∧ Rows.planTextsSpec.post enc Tryd.prog Tryd.f3 false true false false W args v W' := by
  have hW' := hW
  obtain ⟨p, q, hA0, hV, rfl, hfz, hnd⟩ := hW
  have hA : DataW.TrodAll enc Tryd.prog W 0 (fun _ => true) true Tryd.f3.params.toList args.toList ds p := hA0
  rw [Tryd.params3] at hA hval hsz
  obtain ⟨v0, vs0, d0, ds0, p0, q0, hargs, rfl, rfl, h0, r0⟩ := trodAll_cons hA
  obtain ⟨rfl, rfl, rfl⟩ := trodAll_nil r0
  obtain rfl : args = #[v0] := by cases args; simp_all
  obtain ⟨rfl, rfl⟩ := trodVars_none hV
  obtain ⟨A0, n0, c0, rfl⟩ := okWide_slice Tryd.underlying22 (hval 0 22 v0 rfl rfl)
  have k0 := h0
  have lt0 : ∀ x ∈ p0, x.block < W.heap.size := by obtain ⟨m, hm⟩ := k0; exact DataW.trod_lt m _ _ _ hm
  obtain ⟨fu0, hf0⟩ := h0
  obtain ⟨l0, rfl, hc0, hm0, hK0, hw0⟩ := PGiv.open_cells Tryd.underlying22 hf0
  have hn0 := PGiv.cells_len Tryd.underlying22 hf0 (j := 0) hsz rfl rfl
  clear hA0
  have HG := glb hL
  obtain ⟨k, h⟩ := PGiv.pureTexts l0 hw0 hn0
  refine (L.mullionlaw05_PlanTexts.calls k A0 c0 l0 true W ⟨HG⟩ hK0 hc0 h).mono fun e W' ⟨he, bel0⟩ => ?_
  have bel : Below W.heap.size W W' := bel0
  subst he
  exact ⟨_, rfl, _, _, _, [], _, [], hW', trodAll_mk1 (shut_bool Tryd.underlying4 _), (trodAll_cons_mk (Below.trod laidOut (by kernel_rfl) (of_decide_eq_true (by kernel_rfl)) k0 bel lt0) trodAll_mk0), rfl, bel.frame _, fun h => by cases h⟩
noncomputable def low : Nat := (World.holding Tryd.prog default ⟨#[], #[], []⟩).heap.size
noncomputable def laidWorld (os : Os) : World :=
  let w0 := World.holding Tryd.prog os ⟨#[.cells #[.string { data := #[118, 97, 108, 117, 101, 32, 111, 117, 116, 32, 111, 102, 32, 114, 97, 110, 103, 101] }] 162, .cells #[.string { data := #[105, 110, 118, 97, 108, 105, 100, 32, 115, 121, 110, 116, 97, 120] }] 162], #[], []⟩
  { w0 with heap := (((((w0.heap.modify 4 fun
      | .cells _ t frozen => .cells #[.int .u8 0, .int .u8 1, .int .u8 28, .int .u8 2, .int .u8 29, .int .u8 14, .int .u8 24, .int .u8 3, .int .u8 30, .int .u8 22, .int .u8 20, .int .u8 15, .int .u8 25, .int .u8 17, .int .u8 4, .int .u8 8, .int .u8 31, .int .u8 27, .int .u8 13, .int .u8 23, .int .u8 21, .int .u8 19, .int .u8 16, .int .u8 7, .int .u8 26, .int .u8 12, .int .u8 18, .int .u8 6, .int .u8 11, .int .u8 5, .int .u8 10, .int .u8 9] t frozen
      | o => o).modify 5 fun
      | .cells _ t frozen => .cells #[.int .u8 0, .int .u8 1, .int .u8 56, .int .u8 2, .int .u8 57, .int .u8 49, .int .u8 28, .int .u8 3, .int .u8 61, .int .u8 58, .int .u8 42, .int .u8 50, .int .u8 38, .int .u8 29, .int .u8 17, .int .u8 4, .int .u8 62, .int .u8 47, .int .u8 59, .int .u8 36, .int .u8 45, .int .u8 43, .int .u8 51, .int .u8 22, .int .u8 53, .int .u8 39, .int .u8 33, .int .u8 30, .int .u8 24, .int .u8 18, .int .u8 12, .int .u8 5, .int .u8 63, .int .u8 55, .int .u8 48, .int .u8 27, .int .u8 60, .int .u8 41, .int .u8 37, .int .u8 16, .int .u8 46, .int .u8 35, .int .u8 44, .int .u8 21, .int .u8 52, .int .u8 32, .int .u8 23, .int .u8 11, .int .u8 54, .int .u8 26, .int .u8 40, .int .u8 15, .int .u8 34, .int .u8 20, .int .u8 31, .int .u8 10, .int .u8 25, .int .u8 14, .int .u8 19, .int .u8 9, .int .u8 13, .int .u8 8, .int .u8 7, .int .u8 6] t frozen
      | o => o).modify 1 fun
      | .cells _ t frozen => .cells #[.int .u64 1, .int .u64 10, .int .u64 100, .int .u64 1000, .int .u64 10000, .int .u64 100000, .int .u64 1000000, .int .u64 10000000, .int .u64 100000000, .int .u64 1000000000, .int .u64 10000000000, .int .u64 100000000000, .int .u64 1000000000000, .int .u64 10000000000000, .int .u64 100000000000000, .int .u64 1000000000000000, .int .u64 10000000000000000, .int .u64 100000000000000000, .int .u64 1000000000000000000, .int .u64 10000000000000000000] t frozen
      | o => o).modify 3 fun
      | .cells _ t frozen => .cells #[.iface 160 (.pointer (some ⟨low + 0, 0, none⟩))] t frozen
      | o => o).modify 2 fun
      | .cells _ t frozen => .cells #[.iface 160 (.pointer (some ⟨low + 1, 0, none⟩))] t frozen
      | o => o) }
theorem laid_met (os : Os) : laidMet Tryd.prog Rows.planTextsRow.laid ((laidWorld os).forCall (fun _ _ => 0) ⟨#[], #[.slice none 0 0], []⟩).memory :=
  laidMet_of_run' 8 (by kernel_rfl) (by kernel_rfl)
theorem reads (os : Os) {H : Type} (enc : TypeId × Value → H) : ∃ places, DataW.whole enc Tryd.prog ((laidWorld os).forCall (fun _ _ => 0) ⟨#[], #[.slice none 0 0], []⟩).memory Tryd.f3.params.toList Rows.planTextsSpec.vars false (#[Value.slice none 0 0] : Array Value).toList 8 = some ([.nil], [], places) :=
  ⟨[], by kernel_rfl⟩
set_option maxRecDepth 100000 in
theorem lifted (os : Os) (started : os.Started) (H : Type) (enc : TypeId × Value → H) (F : Stop.Interp) :
    ReturnsInHanded {} Tryd.checked os 3 .any ((OpenSpec.ofChange Rows.planTextsSpec).preRow enc Tryd.prog Tryd.f3 Rows.planTextsRow.domain false Rows.planTextsRow.laid) (((OpenSpec.ofChange Rows.planTextsSpec).at F).post enc Tryd.prog Tryd.f3 false true false false) := by
  obtain ⟨places, hx⟩ := reads os enc
  refine returnsInHanded_of_row (C := Tryd.checked) (s := (OpenSpec.ofChange Rows.planTextsSpec)) own started (by kernel_rfl) Tryd.func3
    (witness_row_at (enc := enc) (C := Tryd.checked) false (laidWorld os) #[.slice none 0 0] rfl (by kernel_rfl) (by kernel_rfl) (by kernel_rfl)
      (OpenSpec.preRow_of_cond 8 hx (by kernel_rfl) (fun k hk => by cases hk) (by kernel_rfl) (laid_met os))) ?_
  intro W base args ds gs before hval hW _ hcond hsz hL _ _
  exact contract H enc W base args ds gs before hval hW hL hsz
theorem said : Rows.PlanTextsSaid :=
  OpenClaim.holds_of_cond 3 Tryd.f3 rfl rfl rfl rfl rfl rfl rfl ⟨rfl, rfl, rfl, rfl, rfl⟩ rfl rfl rfl rfl rfl (by kernel_rfl) Tryd.func3 (by kernel_rfl)
    (of_decide_eq_true (by kernel_rfl)) (by unfold Func.isWrapper; first | (rw [if_pos (by decide +kernel)]; kernel_rfl) | (rw [if_neg (by decide +kernel)]; exact ⟨rfl, rfl⟩))
    (fun os started H enc _ F => by rw [OpenClaim.pre_eq_preRow]; exact lifted os started H enc F)
theorem plain (f : FuncId) (fn : Func) (hf : Tryd.pinned.checked.prog.funcNamed "mullion/mullionlaw05.PlanTexts" = some f) (hfn : Tryd.pinned.checked.prog.funcs[f]? = some fn) :
    true = Tryd.pinned.checked.prog.looks [] ∧ ∀ (j : Nat) t, fn.params[j]? = some t → Tryd.pinned.checked.prog.wantsStandIn t = false := by
  obtain rfl : f = 3 := Option.some.inj ((show Tryd.prog.funcNamed "mullion/mullionlaw05.PlanTexts" = some 3 by kernel_rfl).symm.trans hf) |>.symm
  obtain rfl : fn = Tryd.f3 := (Option.some.inj (Tryd.func3.symm.trans hfn)).symm
  refine ⟨by kernel_rfl, fun j t ht => ?_⟩
  rw [Tryd.params3] at ht
  obtain rfl : t = 22 := by simpa using Array.mem_of_getElem? ht
  exact (show Tryd.prog.wantsStandIn 22 = false by kernel_rfl)
theorem proved : Rows.PlanTextsCardSaid :=
  Claim7.holds_tied_plain_at .later [] _ _ _ _ said (fun _ h => by cases h) (by kernel_rfl) (fun _ h => by cases h) planTexts_row_tie rfl ⟨rfl, rfl⟩ (by kernel_rfl) rfl plain (by kernel_rfl)
end Go.Proofs.YtmpnkckaohfflaaDoor.planTexts
namespace Go.Proofs.YtmpnkckaohfflaaDoor
theorem planTexts_holds : Rows.PlanTextsCardSaid := planTexts.proved
end Go.Proofs.YtmpnkckaohfflaaDoor
end
