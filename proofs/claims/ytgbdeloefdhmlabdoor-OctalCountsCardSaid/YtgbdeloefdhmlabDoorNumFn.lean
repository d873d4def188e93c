/- The printed functions on numbers and ids, as plain lists: the program's and the document's. Condition: each theorem's own. -/
import Derived.Test.YtgbdeloefdhmlabDoorV
import Derived.Test.YtgbdeloefdhmlabDoorNumPlain
import Derived.Test.YtgbdeloefdhmlabDoorTxt
import Derived.OpenShut
namespace Go.Proofs.YtgbdeloefdhmlabDoor.NFn
open Go.RowKit Go.Proofs.YtgbdeloefdhmlabDoor.V Go.Proofs.YtgbdeloefdhmlabDoor.NGiv Go.Proofs.YtgbdeloefdhmlabDoor.Num Go.Proofs.YtgbdeloefdhmlabDoor.Txt Go.Proofs.YtgbdeloefdhmlabDoorW.PrintWords Go.Proofs.YtgbdeloefdhmlabDoorW.PrintLast
open Go.Lib (decDigits decDigits_one)
set_option linter.unusedVariables false
set_option linter.unusedSimpArgs false

theorem own_put (n : Int) (h0 : -9223372036854775808 ≤ n) (h1 : n ≤ 9223372036854775807) : octal_PutNumber.f n = some (S (putNum n)) := if_pos ⟨h0, h1⟩
theorem own_itoa (n : Int) (h0 : -9223372036854775808 ≤ n) (h1 : n ≤ 9223372036854775807) : strconv_Itoa_42.f n = some (S (Lib.itoa n)) := if_pos ⟨h0, h1⟩
theorem own_num (l : List UInt8) (h : l.length ≤ 281474976710656) : octal_Number.f (S l) = some (numOf l) := if_pos (by rw [S_size]; exact h)

theorem one_digit (u : Nat) (h : u < 10) : strOfNums [(wrap64 (48 + (u : Int))) % 256] = S (decDigits u) := by
  have e : wrap64 (48 + (u : Int)) % 256 = ((UInt8.ofNat (48 + u)).toNat : Int) := by
    rw [byte_nat u h]
    unfold wrap64
    omega
  rw [e, decDigits_one h]
  exact S_nums [UInt8.ofNat (48 + u)]

theorem ref_put_small (u k : Nat) (h : u < 10) (hk : 2 ≤ k) : mullionref01_PutNumber.f k (u : Int) = some (S (decDigits u)) := by
  obtain ⟨k, rfl⟩ : ∃ m, k = m + 2 := ⟨k - 2, by omega⟩
  unfold mullionref01_PutNumber.f
  rw [if_neg (by omega), show decide ((u : Int) > 4611686018427387904) = false from decide_eq_false (by omega)]
  unfold mullionref01_PutNumber.j0
  rw [if_neg (by simp), if_pos (by omega), one_digit u h]

theorem ref_put_nat (d : Nat) : ∀ (u k : Nat), u < 10 ^ (d + 1) → u ≤ 4611686018427387904 → 2 * d + 2 ≤ k → mullionref01_PutNumber.f k (u : Int) = some (S (decDigits u)) := by
  induction d with
  | zero => exact fun u k h _ hk => ref_put_small u k (by omega) (by omega)
  | succ d ih =>
    intro u k h hu hk
    by_cases h1 : u < 10
    · exact ref_put_small u k h1 (by omega)
    · obtain ⟨k, rfl⟩ : ∃ m, k = m + 2 := ⟨k - 2, by omega⟩
      have h2 : u / 10 < 10 ^ (d + 1) := by
        rw [Nat.pow_succ] at h
        omega
      have e1 : wrap64 (Int.tdiv (u : Int) 10) = ((u / 10 : Nat) : Int) := by
        rw [Int.tdiv_eq_ediv_of_nonneg (by omega)]
        unfold wrap64
        omega
      have e2 : Int.tmod (u : Int) 10 = ((u % 10 : Nat) : Int) := by
        rw [Int.tmod_eq_emod_of_nonneg (by omega)]
        omega
      have l1 := dec_len d (u / 10) h2
      have l2 := dec_len 0 (u % 10) (by omega)
      have hd : d ≤ k := by omega
      unfold mullionref01_PutNumber.f
      rw [if_neg (by omega), show decide ((u : Int) > 4611686018427387904) = false from decide_eq_false (by omega)]
      unfold mullionref01_PutNumber.j0
      rw [if_neg (by simp), if_neg (by omega), e1, e2, ih (u / 10) k h2 (by omega) (by omega), ref_put_small (u % 10) k (by omega) (by omega)]
      simp only [Option.bind_some]
      have l3 : (decDigits (u / 10)).length ≤ 20 := by
        have := dec_len 18 (u / 10) (by omega)
        omega
      rw [if_pos (by rw [S_size, S_size]; omega), S_app, dec_big u h1, decDigits_one (show u % 10 < 10 by omega)]

theorem ref_put (n : Int) (k : Nat) (hk : 40 ≤ k) : mullionref01_PutNumber.f k n = some (S (putNum n)) := by
  rcases putNum_cases n with ⟨h, p⟩ | ⟨u, rfl, hu, p⟩
  · rw [p]
    obtain ⟨k, rfl⟩ : ∃ m, k = m + 2 := ⟨k - 2, by omega⟩
    unfold mullionref01_PutNumber.f
    by_cases a : n < 0
    · rw [if_pos a]
      unfold mullionref01_PutNumber.j0
      rw [if_pos rfl]
    · rw [if_neg a, show decide (n > 4611686018427387904) = true from decide_eq_true (by omega)]
      unfold mullionref01_PutNumber.j0
      rw [if_pos rfl]
  · rw [p]
    exact ref_put_nat 18 u k (by omega) hu (by omega)

theorem ref_loop (suf : List UInt8) : ∀ (pre : List UInt8) (k : Nat) (n i : Int), n = (val 0 pre : Nat) → i = pre.length → val 0 pre ≤ 4611686018427387909 → pre.length ≤ 19 → (∀ c ∈ pre, 48 ≤ c.toNat ∧ c.toNat ≤ 57) → 61 ≤ k + pre.length →
    mullionref01_Number.l0 k (S (pre ++ suf)) n i = some (numOf (pre ++ suf)) := by
  induction suf with
  | nil =>
    intro pre k n i hn hi hv hl hd hk
    obtain ⟨k, rfl⟩ : ∃ m, k = m + 1 := ⟨k - 1, by omega⟩
    rw [List.append_nil]
    unfold mullionref01_Number.l0
    rw [if_neg (by rw [S_size, hi]; omega), S_toList]
    by_cases hp : pre = []
    · rw [if_pos hp, hp, numOf_nil]
    · rw [if_neg hp, ref_put n k (by omega)]
      simp only [Option.bind_some, S_toList]
      by_cases e : putNum n = pre
      · rw [if_pos e]
        rcases putNum_cases n with ⟨h, p⟩ | ⟨u, h, hu, p⟩
        · exact absurd (e.symm.trans p) hp
        · rw [← e, p, numOf_dec u hu, h]
      · rw [if_neg e, numOf_not]
        intro u hu he
        apply e
        rw [hn, he, val_dec, putNum_nat u hu]
  | cons c r ih =>
    intro pre k n i hn hi hv hl hd hk
    obtain ⟨k, rfl⟩ : ∃ m, k = m + 1 := ⟨k - 1, by omega⟩
    have no : (∀ u : Nat, u ≤ 4611686018427387904 → pre ++ c :: r ≠ decDigits u) → some ((0 : Int), false) = some (numOf (pre ++ c :: r)) := fun h => by rw [numOf_not _ h]
    unfold mullionref01_Number.l0
    rw [if_pos (by rw [S_size, hi, List.length_append, List.length_cons]; omega), if_pos (by omega), bt_mid pre r c i hi]
    by_cases c1 : ((c.toNat : Int)) < 48
    · rw [if_pos c1]
      refine no fun u hu e => ?_
      have := dec_digit u c (by rw [← e]; simp)
      omega
    rw [if_neg c1]
    by_cases c2 : ((c.toNat : Int)) > 57
    · rw [if_pos c2]
      refine no fun u hu e => ?_
      have := dec_digit u c (by rw [← e]; simp)
      omega
    rw [if_neg c2]
    by_cases c3 : i > 18
    · rw [if_pos c3]
      refine no fun u hu e => ?_
      have h1 := dec_len 18 u (by omega)
      rw [← e, List.length_append, List.length_cons] at h1
      omega
    rw [if_neg c3]
    by_cases c4 : n > 461168601842738790
    · rw [if_pos c4]
      refine no fun u hu e => ?_
      have h1 := val_dec u
      rw [← e, val_append] at h1
      have h2 := val_ge r (10 * val 0 pre + (c.toNat - 48))
      have h3 : val (val 0 pre) (c :: r) = val (10 * val 0 pre + (c.toNat - 48)) r := rfl
      omega
    rw [if_neg c4]
    have hc : c.toNat < 256 := c.toNat_lt
    have e1 : wrap64 (wrap64 (10 * n) + ((c.toNat : Int) - 48) % 256) = ((val 0 (pre ++ [c]) : Nat) : Int) := by
      rw [val_append]
      show _ = ((10 * val 0 pre + (c.toNat - 48) : Nat) : Int)
      unfold wrap64
      omega
    have hv2 : val 0 (pre ++ [c]) ≤ 4611686018427387909 := by
      rw [val_append]
      show 10 * val 0 pre + (c.toNat - 48) ≤ _
      omega
    have e2 : wrap64 (i + 1) = ((pre ++ [c]).length : Int) := by
      rw [List.length_append, List.length_singleton]
      unfold wrap64
      omega
    have := ih (pre ++ [c]) k _ _ e1 e2 hv2 (by rw [List.length_append, List.length_singleton]; omega)
      (by
        intro d hm
        rw [List.mem_append, List.mem_singleton] at hm
        rcases hm with hm | rfl
        · exact hd d hm
        · omega)
      (by rw [List.length_append, List.length_singleton]; omega)
    rw [List.append_assoc, List.singleton_append] at this
    exact this

theorem ref_num (l : List UInt8) (k : Nat) (hk : 61 ≤ k) : mullionref01_Number.f k (S l) = some (numOf l) := by
  unfold mullionref01_Number.f
  exact ref_loop l [] k 0 0 rfl rfl (by decide) (by decide) (by simp) (by simpa using hk)

theorem pureNumbers (n : Int) (s : ByteArray) (h : (Lit.int .i64 n).wf = true) (hs : s.size ≤ 140737488351232) : ∃ k, mullionlaw01_OctalNumbers.f k n s = some true := by
  have hn := bounds_i64 h
  rw [S_of s]
  have hl : s.data.toList.length ≤ 140737488351232 := by rw [data_len]; exact hs
  generalize s.data.toList = l at hl ⊢
  refine ⟨61, ?_⟩
  unfold mullionlaw01_OctalNumbers.f
  rw [own_num l (by omega), ref_num l 61 (by omega), own_put n hn.1 hn.2, ref_put n 61 (by omega), own_put 10 (by omega) (by omega)]
  simp only [Option.bind_some]
  rw [if_pos trivial, if_pos trivial, if_pos (by simp), S_toList]
  have : putNum 10 = [49, 48] := by
    rw [show (10 : Int) = ((10 : Nat) : Int) from rfl, putNum_nat 10 (by omega), dec_big 10 (by omega), decDigits_one (by omega)]
    rfl
  rw [this]
  rfl

/-- what Id reads -/
def idRes (c : UInt8) (l : List UInt8) : Int × Bool :=
  match l with
  | [] => (0, false)
  | d :: r => if d = c then (if (numOf r).2 = true ∧ (numOf r).1 ≠ 0 then numOf r else (0, false)) else (0, false)
/-- what PutId writes -/
def putId (c : UInt8) (n : Int) : List UInt8 := if n < 1 ∨ 4611686018427387904 < n then [] else c :: decDigits n.toNat

theorem bne_same (d c : UInt8) (h : d = c) : (((d.toNat : Int)) != ((c.toNat : Int))) = false := by
  subst h
  simp
theorem bne_other (d c : UInt8) (h : ¬ d = c) : (((d.toNat : Int)) != ((c.toNat : Int))) = true := by
  simp only [bne_iff_ne, ne_eq]
  exact byte_ne h

theorem own_id (c : UInt8) (l : List UInt8) (k : Nat) (hl : l.length ≤ 281474976710656) (hk : 1 ≤ k) : octal_Id.f k (c.toNat : Int) (S l) = some (idRes c l) := by
  obtain ⟨k, rfl⟩ : ∃ m, k = m + 1 := ⟨k - 1, by omega⟩
  unfold octal_Id.f
  cases l with
  | nil =>
    rw [if_pos (by rw [S_toList])]
    rfl
  | cons d r =>
    have hr : r.length + 1 ≤ 281474976710656 := hl
    rw [if_neg (by rw [S_toList]; simp), if_pos (by rw [S_size, List.length_cons]; omega), bt_head]
    by_cases e : d = c
    · rw [bne_same d c e, octal_Id.j0, if_neg (by simp), if_pos (by rw [S_size, List.length_cons]; omega), S_tail, own_num r (by omega)]
      simp only [Option.bind_some, idRes]
      rw [if_pos e]
      rcases numOf_cases r with ⟨u, hu, _, h⟩ | h
      · rw [h, if_pos rfl]
        by_cases z : (u : Int) = 0
        · rw [if_pos z, if_neg (by simp; omega)]
        · rw [if_neg z, if_pos ⟨rfl, z⟩]
      · rw [h, if_neg (by simp), if_neg (by simp)]
    · rw [bne_other d c e, octal_Id.j0, if_pos rfl]
      simp only [idRes]
      rw [if_neg e]

theorem ref_id (c : UInt8) (l : List UInt8) (k : Nat) (hk : 62 ≤ k) : mullionref01_Id.f k (c.toNat : Int) (S l) = some (idRes c l) := by
  obtain ⟨k, rfl⟩ : ∃ m, k = m + 1 := ⟨k - 1, by omega⟩
  unfold mullionref01_Id.f
  cases l with
  | nil =>
    rw [if_pos (by rw [S_toList])]
    rfl
  | cons d r =>
    rw [if_neg (by rw [S_toList]; simp), if_pos (by rw [S_size, List.length_cons]; omega), bt_head]
    by_cases e : d = c
    · rw [bne_same d c e, mullionref01_Id.j0, if_neg (by simp), if_pos (by rw [S_size, List.length_cons]; omega), S_tail, ref_num r k (by omega)]
      simp only [Option.bind_some, idRes]
      rw [if_pos e]
      rcases numOf_cases r with ⟨u, hu, _, h⟩ | h
      · rw [h, if_pos rfl]
        by_cases z : (u : Int) = 0
        · rw [if_pos (by omega), if_neg (by simp; omega)]
        · rw [if_neg (by omega), if_pos ⟨rfl, z⟩]
      · rw [h, if_neg (by simp), if_neg (by simp)]
    · rw [bne_other d c e, mullionref01_Id.j0, if_pos rfl]
      simp only [idRes]
      rw [if_neg e]

theorem mark_text (c : UInt8) : strOfNums [(c.toNat : Int)] = S [c] := S_nums [c]
theorem dec_short (u : Nat) (hu : u ≤ 4611686018427387904) : (decDigits u).length ≤ 19 := dec_len 18 u (by omega)
theorem own_putId (c : UInt8) (n : Int) (h0 : -9223372036854775808 ≤ n) (h1 : n ≤ 9223372036854775807) : octal_PutId.f (c.toNat : Int) n = some (S (putId c n)) := by
  unfold octal_PutId.f putId
  by_cases a : n < 1
  · rw [if_pos a, if_pos (.inl a)]
  · rw [if_neg a]
    by_cases b : n > 4611686018427387904
    · rw [if_pos b, if_pos (.inr b)]
    · obtain ⟨u, rfl⟩ := Int.eq_ofNat_of_zero_le (show 0 ≤ n by omega)
      have := dec_short u (by omega)
      rw [if_neg b, if_neg (by omega), own_itoa _ h0 h1, Lib.itoa_nonneg]
      simp only [Option.bind_some]
      rw [mark_text, if_pos (by rw [S_size, S_size]; simp; omega), S_app]
      rfl
theorem ref_putId (c : UInt8) (n : Int) (k : Nat) (hk : 40 ≤ k) : mullionref01_PutId.f k (c.toNat : Int) n = some (S (putId c n)) := by
  unfold mullionref01_PutId.f putId
  by_cases a : n < 1
  · rw [if_pos a, if_pos (.inl a)]
  · rw [if_neg a]
    by_cases b : n > 4611686018427387904
    · rw [if_pos b, if_pos (.inr b)]
    · obtain ⟨u, rfl⟩ := Int.eq_ofNat_of_zero_le (show 0 ≤ n by omega)
      have := dec_short u (by omega)
      rw [if_neg b, if_neg (by omega), ref_put _ k hk, putNum_nat u (by omega)]
      simp only [Option.bind_some]
      rw [mark_text, if_pos (by rw [S_size, S_size]; simp; omega), S_app]
      rfl
theorem byte_of (m : Int) (h : (Lit.int .u8 m).wf = true) : ∃ c : UInt8, m = (c.toNat : Int) := by
  have hm := bounds_u8 h
  refine ⟨UInt8.ofNat m.toNat, ?_⟩
  rw [UInt8.toNat_ofNat']
  omega

theorem pureIds (m : Int) (n : Int) (s : ByteArray) (hm : (Lit.int .u8 m).wf = true) (h : (Lit.int .i64 n).wf = true) (hs : s.size ≤ 140737488351232) : ∃ k, mullionlaw01_OctalIds.f k m n s = some true := by
  have hn := bounds_i64 h
  obtain ⟨c, rfl⟩ := byte_of m hm
  rw [S_of s]
  have hl : s.data.toList.length ≤ 140737488351232 := by rw [data_len]; exact hs
  generalize s.data.toList = l at hl ⊢
  refine ⟨62, ?_⟩
  unfold mullionlaw01_OctalIds.f
  rw [own_id c l 62 (by omega) (by omega), ref_id c l 62 (by omega), own_putId c n hn.1 hn.2, ref_putId c n 62 (by omega), show (37 : Int) = (((37 : UInt8).toNat : Nat) : Int) from rfl, own_putId 37 7 (by omega) (by omega)]
  simp only [Option.bind_some]
  rw [if_pos trivial, if_pos trivial, if_pos (by simp), S_toList]
  have : putId 37 7 = [37, 55] := by
    unfold putId
    rw [if_neg (by omega), show (7 : Int).toNat = 7 from rfl, decDigits_one (by omega)]
    rfl
  rw [this]
  rfl

theorem five : octal_PutNumber.f 5 = some (S [53]) := by
  rw [own_put 5 (by omega) (by omega)]
  have : putNum 5 = [53] := by
    rw [show (5 : Int) = ((5 : Nat) : Int) from rfl, putNum_nat 5 (by omega), decDigits_one (by omega)]
    rfl
  rw [this]
theorem counts_loop (c : UInt8) (n : Int) (h0 : -9223372036854775808 ≤ n) (h1 : n ≤ 9223372036854775807) (suf : List UInt8) : ∀ (pre : List UInt8) (k : Nat) (i : Int), pre ++ suf = putNum n → i = pre.length → pre.length + suf.length ≤ 19 → suf.length + 2 ≤ k →
    mullionlaw01_OctalCounts.l0 k n (c.toNat : Int) (S (pre ++ suf)) i = some true := by
  induction suf with
  | nil =>
    intro pre k i hp hi hl hk
    obtain ⟨k, rfl⟩ : ∃ m, k = m + 1 := ⟨k - 1, by omega⟩
    rw [List.append_nil] at hp ⊢
    unfold mullionlaw01_OctalCounts.l0
    rw [if_neg (by rw [S_size, hi]; omega), own_putId c n h0 h1]
    simp only [Option.bind_some]
    have hlen : (putId c n).length ≤ 20 := by
      unfold putId
      by_cases b : n < 1 ∨ 4611686018427387904 < n
      · rw [if_pos b]
        simp
      · rw [if_neg b]
        have := dec_short n.toNat (by omega)
        simp
        omega
    rw [own_id c _ k (by omega) (by simp at hk; omega)]
    simp only [Option.bind_some]
    by_cases a : n < 1
    · have e : putId c n = [] := if_pos (.inl a)
      rw [if_pos a, e, if_pos (S_toList _), five, show (idRes c []).2 = false from rfl, if_neg (by simp)]
      simp only [Option.bind_some, S_toList]
      rfl
    · rw [if_neg a]
      by_cases b : n > 4611686018427387904
      · have e : putId c n = [] := if_pos (.inr b)
        rw [if_pos b, e, if_pos (S_toList _), five, show (idRes c []).2 = false from rfl, if_neg (by simp)]
        simp only [Option.bind_some, S_toList]
        rfl
      · obtain ⟨u, rfl⟩ := Int.eq_ofNat_of_zero_le (show 0 ≤ n by omega)
        have e : putId c (u : Int) = c :: decDigits u := if_neg (by omega)
        have hs := dec_short u (by omega)
        have er : idRes c (c :: decDigits u) = ((u : Int), true) := by
          unfold idRes
          simp only
          rw [if_pos trivial, numOf_dec u (by omega), if_pos ⟨rfl, by simp; omega⟩]
        rw [putNum_nat u (by omega)] at hp
        rw [if_neg b, e, er, if_pos rfl, if_pos rfl, hp]
        show (if _ then some ((S (c :: decDigits u)).toList == _) else none) = some true
        rw [mark_text, if_pos (by rw [S_size, S_size]; simp; omega), S_app, S_toList, S_toList]
        simp
  | cons d r ih =>
    intro pre k i hp hi hl hk
    obtain ⟨k, rfl⟩ : ∃ m, k = m + 1 := ⟨k - 1, by omega⟩
    simp only [List.length_cons] at hl hk
    rcases putNum_cases n with ⟨_, p⟩ | ⟨u, hnu, hu, p⟩
    · rw [p] at hp
      simp at hp
    · have hd := dec_digit u d (by rw [← p, ← hp]; simp)
      have e2 : wrap64 (i + 1) = ((pre ++ [d]).length : Int) := by
        rw [List.length_append, List.length_singleton]
        unfold wrap64
        omega
      have next := ih (pre ++ [d]) k _ (by rw [List.append_assoc]; exact hp) e2 (by rw [List.length_append, List.length_singleton]; omega) (by omega)
      rw [List.append_assoc, List.singleton_append] at next
      unfold mullionlaw01_OctalCounts.l0
      rw [if_pos (by rw [S_size, hi, List.length_append, List.length_cons]; omega), if_pos (by omega), bt_mid pre r d i hi, if_neg (by omega), if_neg (by omega)]
      by_cases z : i = 0
      · have hpre : pre = [] := List.eq_nil_of_length_eq_zero (by omega)
        subst hpre
        rw [if_pos z, if_pos (by rw [S_size, List.length_append, List.length_cons]; omega)]
        have eb : bt (S ([] ++ d :: r)) 0 = (d.toNat : Int) := bt_head d r
        rw [eb]
        by_cases t : (d.toNat : Int) = 48
        · rw [if_pos t, if_pos ?_]
          · exact next
          · apply Classical.byContradiction
            intro hne
            obtain ⟨c', r', e', hc'⟩ := dec_head u (by omega)
            have h3 : d :: r = decDigits u := hp.trans p
            rw [e'] at h3
            injection h3 with h3 _
            subst h3
            omega
        · rw [if_neg t]
          exact next
      · rw [if_neg z]
        exact next

theorem pureCounts (n : Int) (m : Int) (h : (Lit.int .i64 n).wf = true) (hm : (Lit.int .u8 m).wf = true) : ∃ k, mullionlaw01_OctalCounts.f k n m = some true := by
  have hn := bounds_i64 h
  obtain ⟨c, rfl⟩ := byte_of m hm
  have hlen : (putNum n).length ≤ 19 := by
    rcases putNum_cases n with ⟨_, p⟩ | ⟨u, _, hu, p⟩
    · rw [p]
      simp
    · rw [p]
      exact dec_short u hu
  have loop := counts_loop c n hn.1 hn.2 (putNum n) [] 28 0 rfl rfl (by simpa using hlen) (by omega)
  rw [List.nil_append] at loop
  refine ⟨30, ?_⟩
  unfold mullionlaw01_OctalCounts.f
  rw [own_put n hn.1 hn.2]
  simp only [Option.bind_some]
  rw [own_num _ (by omega)]
  simp only [Option.bind_some]
  rw [numOf_put]
  have j1 : mullionlaw01_OctalCounts.j1 29 n (c.toNat : Int) (S (putNum n)) = some true := by
    unfold mullionlaw01_OctalCounts.j1
    exact loop
  have out : (n < 0 ∨ 4611686018427387904 < n) → mullionlaw01_OctalCounts.j0 30 n (c.toNat : Int) (S (putNum n)) 0 false true = some true := by
    intro o
    show mullionlaw01_OctalCounts.j0 (29 + 1) _ _ _ _ _ _ = _
    rw [mullionlaw01_OctalCounts.j0, if_pos rfl, if_pos (by rw [S_toList, putNum_out n o]), if_neg (by simp), if_pos rfl]
    exact j1
  by_cases a : n < 0
  · rw [if_pos a, if_pos (.inl a)]
    exact out (.inl a)
  · rw [if_neg a]
    by_cases b : n > 4611686018427387904
    · rw [if_pos (.inr b), show decide (n > 4611686018427387904) = true from decide_eq_true b]
      exact out (.inr b)
    · rw [if_neg (by omega), show decide (n > 4611686018427387904) = false from decide_eq_false b]
      show mullionlaw01_OctalCounts.j0 (29 + 1) _ _ _ _ _ _ = _
      rw [mullionlaw01_OctalCounts.j0, if_neg (by simp), if_pos rfl, if_pos rfl]
      exact j1
end Go.Proofs.YtgbdeloefdhmlabDoor.NFn
