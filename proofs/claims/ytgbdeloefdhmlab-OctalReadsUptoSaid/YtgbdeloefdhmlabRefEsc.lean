/- What the reference's printed Escape and Unescape come to. Condition: texts of at most 2^44 bytes, enough rounds. -/
import Derived.Test.YtgbdeloefdhmlabQ
import Derived.Test.YtgbdeloefdhmlabOctU
import Derived.Test.YtgbdeloefdhmlabTxt
namespace Go.Proofs.Ytgbdeloefdhmlab.Esc
open Go.RowKit Go.Proofs.Ytgbdeloefdhmlab.Q Go.Proofs.Ytgbdeloefdhmlab.Txt Go.Proofs.YtgbdeloefdhmlabW.PrintWords Go.Proofs.YtgbdeloefdhmlabW.PrintLast
set_option linter.unusedVariables false

theorem rmust_f (c : UInt8) : mullionref01_must.f (c.toNat : Int) = some (Oct.must c) := by
  unfold mullionref01_must.f Oct.must
  by_cases h : (c.toNat : Int) < 32
  · rw [if_pos h]; simp; omega
  · rw [if_neg h]
    congr 1
    rw [Bool.eq_iff_iff]
    simp
    omega
theorem three_f (c : UInt8) : mullionref01_three.f (c.toNat : Int) = some (Txt.nums (Oct.three c)) := by
  have k : c.toNat < 256 := c.toNat_lt
  unfold mullionref01_three.f Txt.nums Oct.three
  simp only [List.map_cons, List.map_nil]
  rw [Oct.dig_hi, Oct.dig_mid, Oct.dig_lo]
  have e0 : ((92 : UInt8).toNat : Int) = 92 := rfl
  have hc : (0 : Int) ≤ (c.toNat : Int) := by omega
  rw [Int.tdiv_eq_ediv_of_nonneg hc, Int.tdiv_eq_ediv_of_nonneg hc, Int.tmod_eq_emod_of_nonneg hc]
  have e1 : (48 + (((c.toNat : Int) / 64) % 256)) % 256 = 48 + (c.toNat : Int) / 64 := by omega
  have e2 : 48 + ((((c.toNat : Int) / 8) % 256) % 8) = 48 + (c.toNat : Int) / 8 % 8 := by omega
  have e3 : (48 + ((c.toNat : Int) % 8)) % 256 = 48 + (c.toNat : Int) % 8 := by omega
  rw [e0, e1, e2, e3]
theorem refLoop (suf : List UInt8) : ∀ (pre : List UInt8) (k : Nat) (i : Int), i = pre.length → (pre ++ suf).length ≤ 17592186044416 → suf.length < k →
    mullionref01_Escape.l0 k (S (pre ++ suf)) (Txt.nums (Oct.escape pre)) i = some (S (Oct.escape (pre ++ suf))) := by
  induction suf with
  | nil =>
    intro pre k i hi hl hk
    obtain ⟨k, rfl⟩ : ∃ m, k = m + 1 := ⟨k - 1, by simp at hk; omega⟩
    simp only [mullionref01_Escape.l0]
    rw [if_neg (by rw [S_size]; simp; omega), List.append_nil, S_nums]
  | cons c suf ih =>
    intro pre k i hi hl hk
    obtain ⟨k, rfl⟩ : ∃ m, k = m + 1 := ⟨k - 1, by simp at hk; omega⟩
    have hlen : pre.length + (suf.length + 1) ≤ 17592186044416 := by simpa using hl
    have he := (Oct.escape_len pre).2
    have e : pre ++ c :: suf = (pre ++ [c]) ++ suf := by simp
    have wi : wrap64 (i + 1) = i + 1 := by unfold wrap64; omega
    have h := ih (pre ++ [c]) k (i + 1) (by rw [hi]; simp) (by rw [← e]; exact hl) (by simp at hk; omega)
    simp only [mullionref01_Escape.l0]
    rw [if_pos (by rw [S_size]; simp; omega), if_pos (by omega), bt_mid _ _ _ _ hi, rmust_f]
    simp only [Option.bind_some]
    cases hm : Oct.must c with
    | true =>
      rw [if_pos rfl, three_f]
      simp only [Option.bind_some]
      rw [if_pos (by simp [Txt.nums, Oct.three]; omega), wi]
      have e2 : Txt.nums (Oct.escape (pre ++ [c])) = Txt.nums (Oct.escape pre) ++ Txt.nums (Oct.three c) := by
        rw [Oct.escape_append, Oct.escape_cons, Oct.esc1_yes c hm]
        simp [Txt.nums, Oct.escape]
      rw [← e2, e]
      exact h
    | false =>
      rw [if_neg (by simp), if_pos (by simp [Txt.nums]; omega), wi]
      have e2 : Txt.nums (Oct.escape (pre ++ [c])) = Txt.nums (Oct.escape pre) ++ [(c.toNat : Int)] := by
        rw [Oct.escape_append, Oct.escape_cons, Oct.esc1_no c hm]
        simp [Txt.nums, Oct.escape]
      rw [← e2, e]
      exact h
theorem refEscape (l : List UInt8) (k : Nat) (hl : l.length ≤ 17592186044416) (hk : l.length < k) : mullionref01_Escape.f k (S l) = some (S (Oct.escape l)) :=
  refLoop l [] k 0 rfl hl hk

theorem digit_f (c : UInt8) : mullionref01_digit.f (c.toNat : Int) = some (if Oct.isdig c = true then (c.toNat : Int) - 48 else -1) := by
  unfold mullionref01_digit.f Oct.isdig
  have k : c.toNat < 256 := c.toNat_lt
  by_cases h1 : (c.toNat : Int) ≥ 48
  · rw [if_pos h1]
    by_cases h2 : (c.toNat : Int) ≤ 55
    · rw [if_pos h2, if_pos (by simp; omega)]
      congr 1
      omega
    · rw [if_neg h2, if_neg (by simp; omega)]
  · rw [if_neg h1, if_neg (by simp; omega)]

/-- how the reference reads, not asking what must be escaped -/
def raw : Nat → List UInt8 → Option (List UInt8)
  | _, [] => some []
  | 0, _ :: _ => none
  | n + 1, c :: r => if c = 92 ∧ 3 ≤ r.length then
      match Oct.read (c :: r) with
      | some d => (raw n (r.drop 3)).map (d :: ·)
      | none => none
    else (raw n r).map (c :: ·)
theorem raw_escape : ∀ (t : List UInt8) (n : Nat), (Oct.escape t).length ≤ n → raw n (Oct.escape t) = some t := by
  intro t
  induction t with
  | nil => intro n _; cases n <;> rfl
  | cons c r ih =>
    intro n hn
    rw [Oct.escape_cons, List.length_append] at hn
    rw [Oct.escape_cons]
    cases hm : Oct.must c with
    | false =>
      rw [Oct.esc1_no c hm] at hn ⊢
      simp only [List.length_cons, List.length_nil] at hn
      obtain ⟨n, rfl⟩ : ∃ m, n = m + 1 := ⟨n - 1, by omega⟩
      show raw (n + 1) (c :: Oct.escape r) = _
      have hc : ¬ (c = 92 ∧ 3 ≤ (Oct.escape r).length) := by
        rintro ⟨rfl, _⟩
        rw [Oct.must_bs] at hm
        cases hm
      simp only [raw]
      rw [if_neg hc, ih n (by omega)]
      rfl
    | true =>
      rw [Oct.esc1_yes c hm] at hn ⊢
      have h4 : (Oct.three c).length = 4 := rfl
      obtain ⟨n, rfl⟩ : ∃ m, n = m + 1 := ⟨n - 1, by omega⟩
      obtain ⟨a, ha, hl⟩ := Oct.three_shape c
      have hr := Oct.read_three c (Oct.escape r)
      rw [ha] at hr ⊢
      have hr' : Oct.read (92 :: (a ++ Oct.escape r)) = some c := hr
      have hd : (a ++ Oct.escape r).drop 3 = Oct.escape r := by rw [← hl]; simp
      show raw (n + 1) (92 :: (a ++ Oct.escape r)) = _
      simp only [raw]
      rw [if_pos ⟨trivial, by rw [List.length_append]; omega⟩, hr']
      simp only []
      rw [hd, ih n (by omega)]
      rfl
theorem raw_len : ∀ (n : Nat) (l o : List UInt8), raw n l = some o → o.length ≤ l.length := by
  intro n
  induction n with
  | zero =>
    intro l o h
    cases l with
    | nil => simp [raw] at h; subst h; simp
    | cons c r => simp [raw] at h
  | succ n ih =>
    intro l o h
    cases l with
    | nil => simp [raw] at h; subst h; simp
    | cons c r =>
      simp only [raw] at h
      split at h
      · split at h
        · obtain ⟨u, hu, rfl⟩ := Option.map_eq_some_iff.1 h
          have := ih _ _ hu
          rw [List.length_drop] at this
          simp only [List.length_cons]
          omega
        · cases h
      · obtain ⟨u, hu, rfl⟩ := Option.map_eq_some_iff.1 h
        have := ih _ _ hu
        simp only [List.length_cons]
        omega

/-- what Unescape answers -/
def res (o : Option (List UInt8)) : ByteArray × Int := match o with
  | some t => (S t, 0)
  | none => (S [], 10)
/-- .. of what was read, held against the text -/
def fin (l : List UInt8) (o : Option (List UInt8)) : ByteArray × Int := match o with
  | some t => if Oct.escape t = l then (S t, 0) else (S [], 10)
  | none => (S [], 10)
theorem fin_raw (l : List UInt8) : fin l (raw l.length l) = res (Oct.unescape l) := by
  cases hu : Oct.unescape l with
  | some t =>
    have e := (Oct.unescape_iff l t).1 hu
    have hr : raw l.length l = some t := by
      have := raw_escape t l.length (by rw [e]; exact Nat.le_refl _)
      rwa [e] at this
    rw [hr]
    unfold fin
    simp only []
    rw [if_pos e]
    rfl
  | none =>
    unfold fin
    split
    · rename_i t _
      rw [if_neg]
      · rfl
      · intro e
        rw [(Oct.unescape_iff l t).2 e] at hu
        cases hu
    · rfl

theorem unLoop (n : Nat) : ∀ (suf pre acc : List UInt8) (k : Nat) (i : Int), suf.length ≤ n → i = pre.length → acc.length ≤ pre.length → (pre ++ suf).length ≤ 17592186044416 → 2 * suf.length + (pre ++ suf).length + 3 ≤ k →
    mullionref01_Unescape.l0 k (S (pre ++ suf)) (Txt.nums acc) i = some (fin (pre ++ suf) ((raw suf.length suf).map (acc ++ ·))) := by
  induction n with
  | zero =>
    intro suf pre acc k i hn hi ha hl hk
    obtain rfl : suf = [] := List.eq_nil_of_length_eq_zero (by omega)
    obtain ⟨k, rfl⟩ : ∃ m, k = m + 1 := ⟨k - 1, by omega⟩
    simp only [mullionref01_Unescape.l0]
    simp only [List.append_nil] at hl hk ⊢
    rw [if_neg (by rw [S_size]; omega), S_nums, refEscape acc k (by omega) (by omega)]
    simp only [Option.bind_some, S_toList]
    have er : (raw ([] : List UInt8).length []).map (acc ++ ·) = some acc := by simp [raw]
    rw [er]
    unfold fin
    simp only []
    by_cases he : Oct.escape acc = pre
    · rw [if_pos he, if_pos he]
    · rw [if_neg he, if_neg he]
  | succ n ih =>
    intro suf pre acc k i hn hi ha hl hk
    cases suf with
    | nil => exact ih [] pre acc k i (by simp) hi ha hl hk
    | cons c suf =>
      obtain ⟨k, rfl⟩ : ∃ m, k = m + 1 := ⟨k - 1, by omega⟩
      obtain ⟨k, rfl⟩ : ∃ m, k = m + 1 := ⟨k - 1, by simp at hk; omega⟩
      simp only [List.length_cons] at hn hk
      have hlen : pre.length + (suf.length + 1) ≤ 17592186044416 := by simpa using hl
      have hlen2 : (pre ++ c :: suf).length = pre.length + (suf.length + 1) := by simp
      rw [hlen2] at hk
      have e : pre ++ c :: suf = (pre ++ [c]) ++ suf := by simp
      have wi : wrap64 (i + 1) = i + 1 := by unfold wrap64; omega
      have wi2 : wrap64 (i + 2) = i + 2 := by unfold wrap64; omega
      have wi3 : wrap64 (i + 3) = i + 3 := by unfold wrap64; omega
      have hsz : ((S (pre ++ c :: suf)).size : Int) = pre.length + (suf.length + 1) := by rw [S_size, hlen2]; omega
      have hb := bt_mid pre suf c i hi
      have step : ¬ (c = 92 ∧ 3 ≤ suf.length) → mullionref01_Unescape.j1 (k + 1) (S (pre ++ c :: suf)) (Txt.nums acc) i true = some (fin (pre ++ c :: suf) ((raw (c :: suf).length (c :: suf)).map (acc ++ ·))) := by
        intro hc
        simp only [mullionref01_Unescape.j1]
        rw [if_pos trivial, if_pos (by omega), if_pos (by omega), if_pos (by simp [Txt.nums]; omega), hb, wi]
        have h := ih suf (pre ++ [c]) (acc ++ [c]) k (i + 1) (by omega) (by rw [hi]; simp) (by simp; omega) (by rw [← e]; exact hl) (by rw [← e, hlen2]; omega)
        have e2 : Txt.nums (acc ++ [c]) = Txt.nums acc ++ [(c.toNat : Int)] := by simp [Txt.nums]
        rw [e2, ← e] at h
        rw [h]
        congr 2
        simp only [List.length_cons, raw]
        rw [if_neg hc, Option.map_map]
        congr 1
        funext x
        simp
      simp only [mullionref01_Unescape.l0]
      rw [if_pos (by omega), if_pos (by omega), hb]
      by_cases h92 : c = 92
      · have hcn : (c.toNat : Int) = 92 := by rw [h92]; rfl
        rw [if_pos hcn]
        by_cases hfar : 3 ≤ suf.length
        · have hd : decide ((wrap64 (i + 3)) ≥ ((S (pre ++ c :: suf)).size : Int)) = false := by rw [wi3, hsz]; exact decide_eq_false (by omega)
          rw [hd]
          match suf, hfar with
          | x :: y :: z :: r, _ =>
            simp only [List.length_cons] at hn hk hlen hsz hlen2
            have b1 : bt (S (pre ++ c :: x :: y :: z :: r)) (i + 1) = (x.toNat : Int) := by
              have := bt_mid (pre ++ [c]) (y :: z :: r) x (i + 1) (by rw [hi]; simp)
              simpa using this
            have b2 : bt (S (pre ++ c :: x :: y :: z :: r)) (i + 2) = (y.toNat : Int) := by
              have := bt_mid (pre ++ [c, x]) (z :: r) y (i + 2) (by rw [hi]; simp)
              simpa using this
            have b3 : bt (S (pre ++ c :: x :: y :: z :: r)) (i + 3) = (z.toNat : Int) := by
              have := bt_mid (pre ++ [c, x, y]) r z (i + 3) (by rw [hi]; simp)
              simpa using this
            simp only [mullionref01_Unescape.j1]
            rw [if_neg (by simp), wi, wi2, wi3, if_pos (by omega), if_pos (by omega), b1, digit_f]
            simp only [Option.bind_some]
            rw [if_pos (by omega), if_pos (by omega), b2, digit_f]
            simp only [Option.bind_some]
            rw [if_pos (by omega), if_pos (by omega), b3, digit_f]
            simp only [Option.bind_some]
            have hraw : raw (c :: x :: y :: z :: r).length (c :: x :: y :: z :: r) = (match Oct.read (c :: x :: y :: z :: r) with | some d => (raw (r.length + 3) r).map (d :: ·) | none => none) := by
              simp only [List.length_cons, raw]
              rw [if_pos ⟨h92, by omega⟩]
              rfl
            rw [hraw]
            by_cases hx : Oct.isdig x = true
            · by_cases hy : Oct.isdig y = true
              · by_cases hz : Oct.isdig z = true
                · rw [if_pos hx, if_pos hy, if_pos hz]
                  have gx := hx
                  have gy := hy
                  have gz := hz
                  simp only [Oct.isdig, Bool.and_eq_true, decide_eq_true_eq] at gx gy gz
                  rw [if_neg (by omega), if_neg (by omega), if_neg (by omega)]
                  have ev : wrap64 (wrap64 (wrap64 (64 * ((x.toNat : Int) - 48)) + wrap64 (8 * ((y.toNat : Int) - 48))) + ((z.toNat : Int) - 48)) = (Oct.worth x y z : Int) := by
                    have a1 : wrap64 (64 * ((x.toNat : Int) - 48)) = 64 * ((x.toNat : Int) - 48) := by unfold wrap64; omega
                    have a2 : wrap64 (8 * ((y.toNat : Int) - 48)) = 8 * ((y.toNat : Int) - 48) := by unfold wrap64; omega
                    have a3 : wrap64 (64 * ((x.toNat : Int) - 48) + 8 * ((y.toNat : Int) - 48)) = 64 * ((x.toNat : Int) - 48) + 8 * ((y.toNat : Int) - 48) := by unfold wrap64; omega
                    rw [a1, a2, a3]
                    unfold Oct.worth wrap64
                    omega
                  rw [ev]
                  by_cases hw : Oct.worth x y z < 256
                  · rw [if_neg (by omega), if_pos (by simp [Txt.nums]; omega)]
                    have hrd : Oct.read (c :: x :: y :: z :: r) = some (UInt8.ofNat (Oct.worth x y z)) := by
                      rw [h92]
                      simp only [Oct.read]
                      rw [hx, hy, hz, decide_eq_true hw]
                      rfl
                    rw [hrd]
                    simp only []
                    have e5 : pre ++ c :: x :: y :: z :: r = (pre ++ [c, x, y, z]) ++ r := by simp
                    have wi4 : wrap64 (i + 3 + 1) = i + 4 := by unfold wrap64; omega
                    have en : (((UInt8.ofNat (Oct.worth x y z)).toNat : Nat) : Int) = (Oct.worth x y z : Int) % 256 := by simp
                    have h := ih r (pre ++ [c, x, y, z]) (acc ++ [UInt8.ofNat (Oct.worth x y z)]) k (i + 4) (by omega) (by rw [hi]; simp) (by simp; omega) (by rw [← e5]; exact hl) (by rw [← e5, hlen2]; omega)
                    have e2 : Txt.nums (acc ++ [UInt8.ofNat (Oct.worth x y z)]) = Txt.nums acc ++ [(Oct.worth x y z : Int) % 256] := by
                      rw [← en]
                      simp [Txt.nums]
                    rw [e2, ← e5] at h
                    rw [wi4, h]
                    congr 2
                    have ef : raw (r.length + 3) r = raw r.length r := by
                      have : ∀ (a b : Nat) (l : List UInt8), l.length ≤ a → l.length ≤ b → raw a l = raw b l := by
                        intro a
                        induction a with
                        | zero =>
                          intro b l h1 h2
                          obtain rfl : l = [] := List.eq_nil_of_length_eq_zero (by omega)
                          cases b <;> rfl
                        | succ a iha =>
                          intro b l h1 h2
                          cases l with
                          | nil => cases b <;> rfl
                          | cons d q =>
                            cases b with
                            | zero => simp at h2
                            | succ b =>
                              simp only [List.length_cons] at h1 h2
                              simp only [raw]
                              rw [iha b q (by omega) (by omega), iha b (q.drop 3) (by rw [List.length_drop]; omega) (by rw [List.length_drop]; omega)]
                      exact this _ _ _ (by omega) (Nat.le_refl _)
                    rw [ef, Option.map_map]
                    congr 1
                    funext u
                    simp
                  · rw [if_pos (by omega)]
                    have hrd : Oct.read (c :: x :: y :: z :: r) = none := by
                      rw [h92]
                      simp only [Oct.read]
                      rw [hx, hy, hz, decide_eq_false hw]
                      rfl
                    rw [hrd]
                    rfl
                · have hrd : Oct.read (c :: x :: y :: z :: r) = none := by
                    rw [h92]
                    simp only [Oct.read]
                    rw [Bool.not_eq_true _ |>.mp hz]
                    simp
                  rw [hrd, if_pos hx, if_pos hy, if_neg hz]
                  simp only [Oct.isdig, Bool.and_eq_true, decide_eq_true_eq] at hx hy
                  rw [if_neg (by omega), if_neg (by omega), if_pos (by omega)]
                  rfl
              · have hrd : Oct.read (c :: x :: y :: z :: r) = none := by
                  rw [h92]
                  simp only [Oct.read]
                  rw [Bool.not_eq_true _ |>.mp hy]
                  simp
                rw [hrd, if_pos hx, if_neg hy]
                simp only [Oct.isdig, Bool.and_eq_true, decide_eq_true_eq] at hx
                rw [if_neg (by omega), if_pos (by omega)]
                rfl
            · have hrd : Oct.read (c :: x :: y :: z :: r) = none := by
                rw [h92]
                simp only [Oct.read]
                rw [Bool.not_eq_true _ |>.mp hx]
                simp
              rw [hrd, if_neg hx, if_pos (by omega)]
              rfl
        · have hd : decide ((wrap64 (i + 3)) ≥ ((S (pre ++ c :: suf)).size : Int)) = true := by rw [wi3, hsz]; exact decide_eq_true (by omega)
          rw [hd]
          exact step (fun h => hfar h.2)
      · rw [if_neg (by
          intro h
          exact h92 (ext _ _ (by have : (92 : UInt8).toNat = 92 := rfl; omega)))]
        exact step (fun h => h92 h.1)

theorem refUnescape (l : List UInt8) (k : Nat) (hl : l.length ≤ 17592186044416) (hk : 3 * l.length + 3 ≤ k) : mullionref01_Unescape.f k (S l) = some (res (Oct.unescape l)) := by
  rw [← fin_raw]
  have h := unLoop l.length l [] [] k 0 (Nat.le_refl _) rfl (Nat.le_refl _) hl (by simp; omega)
  have e : (raw l.length l).map ([] ++ ·) = raw l.length l := by cases raw l.length l <;> rfl
  rw [e] at h
  exact h

theorem tail4 (l : List UInt8) : (S l).extract 4 (S l).size = S (l.drop 4) := by
  rw [S_extract, S_size]
  congr 2
  rw [List.take_of_length_le]
  rw [List.length_drop]
  exact Nat.le_refl _

theorem refUnBody (l : List UInt8) (k : Nat) (hl : l.length ≤ 17592186044416) (hk : 3 * l.length + 4 ≤ k) : mullionref01_UnescapeBody.f k (S l) = some (res (Oct.unBody l)) := by
  obtain ⟨k, rfl⟩ : ∃ m, k = m + 1 := ⟨k - 1, by omega⟩
  have h3 : mullionref01_three.f 37 = some (Txt.nums [92, 48, 52, 53]) := by rw [← Oct.three_pct]; exact three_f 37
  unfold mullionref01_UnescapeBody.f
  rw [h3]
  simp only [Option.bind_some, S_nums]
  have hsz : ((S [92, 48, 52, 53]).size : Int) = 4 := by rw [S_size]; rfl
  rw [hsz]
  have rest : [92, 48, 52, 53].isPrefixOf l = false → mullionref01_UnescapeBody.j0 (k + 1) (S l) (S [92, 48, 52, 53]) false = some (res (Oct.unBody l)) := by
    intro hp
    simp only [mullionref01_UnescapeBody.j0]
    rw [if_neg (by simp)]
    unfold Oct.unBody
    cases l with
    | nil =>
      rw [if_neg (by rw [S_size]; simp), refUnescape [] k (by simp) (by simp at hk ⊢; omega)]
      rfl
    | cons c r =>
      simp only [List.length_cons] at hk
      rw [if_pos (by rw [S_size]; simp only [List.length_cons]; omega), if_pos (by rw [S_size]; simp only [List.length_cons]; omega), bt_head]
      by_cases hc : c = 37
      · have e1 : (c.toNat : Int) = 37 := by rw [hc]; rfl
        rw [if_pos e1, if_pos (by rw [hc]; rfl)]
        rfl
      · rw [if_neg (fun h => hc (ext _ _ (by have : (37 : UInt8).toNat = 37 := rfl; omega))), refUnescape (c :: r) k hl (by simp only [List.length_cons]; omega)]
        simp only [Option.bind_some]
        rw [if_neg (by simpa using hc), hp, if_neg (by simp)]
  by_cases h4 : ((S l).size : Int) ≥ 4
  · rw [if_pos h4, if_pos (by omega), if_pos (by omega)]
    rw [S_size] at h4
    have ex : (S l).extract 0 ((4 : Int)).toNat = S (l.take 4) := by rw [S_extract]; rfl
    rw [ex, S_toList, S_toList]
    cases hp : ([92, 48, 52, 53] : List UInt8).isPrefixOf l with
    | false =>
      have hb : (l.take 4 == [92, 48, 52, 53]) = false := by
        rw [beq_eq_false_iff_ne]
        intro e
        have : ([92, 48, 52, 53] : List UInt8).isPrefixOf l = true := by
          rw [List.isPrefixOf_iff_prefix, ← e]
          exact List.take_prefix _ _
        rw [hp] at this
        cases this
      rw [hb]
      exact rest hp
    | true =>
      have hb : (l.take 4 == [92, 48, 52, 53]) = true := by
        rw [beq_iff_eq]
        rw [List.isPrefixOf_iff_prefix] at hp
        exact (List.prefix_iff_eq_take.1 hp).symm
      rw [hb]
      simp only [mullionref01_UnescapeBody.j0]
      rw [if_pos trivial, hsz, if_pos (by omega), if_pos (by rw [S_size]; omega)]
      have e4 : ((4 : Int)).toNat = 4 := rfl
      rw [e4, tail4, refUnescape (l.drop 4) k (by rw [List.length_drop]; omega) (by rw [List.length_drop]; omega)]
      simp only [Option.bind_some]
      unfold Oct.unBody
      have hh : ¬ l.head? = some 37 := by
        rw [List.isPrefixOf_iff_prefix] at hp
        obtain ⟨r, rfl⟩ := hp
        simp
      rw [if_neg hh, if_pos hp]
      cases hu : Oct.unescape (l.drop 4) with
      | none => rfl
      | some t =>
        have ht := Oct.unescape_len _ _ hu
        rw [List.length_drop] at ht
        have er : res (some t) = (S t, 0) := rfl
        have er2 : res (Option.map (fun x => 37 :: x) (some t)) = (S (37 :: t), 0) := rfl
        rw [er, er2]
        have hle : 1 + (S t).size ≤ 9223372036854775807 := by rw [S_size]; omega
        rw [if_pos rfl, if_pos hle]
        exact congrArg (fun x => some (x, (0 : Int))) (S_app [37] t)
  · rw [if_neg h4]
    rw [S_size] at h4
    apply rest
    rw [Bool.eq_false_iff]
    intro hp
    rw [List.isPrefixOf_iff_prefix] at hp
    have := hp.length_le
    simp at this
    omega

end Go.Proofs.Ytgbdeloefdhmlab.Esc
