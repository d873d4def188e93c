/- The law PlanByte: one byte changed is no layout's text. No condition but the form's own reach. -/
import Derived.Test.YtmpnkckaohfflaaDoorPl5
import Derived.Test.YtmpnkckaohfflaaDoorByteLaw
namespace Go.Proofs.YtmpnkckaohfflaaDoor.PGiv
open Go.RowKit Go.Proofs.YtmpnkckaohfflaaDoorW.PrintWords Go.Proofs.YtmpnkckaohfflaaDoor.K Go.Proofs.YtmpnkckaohfflaaDoor.Num Go.Proofs.YtmpnkckaohfflaaDoor.Txt Go.Proofs.YtmpnkckaohfflaaDoor.M
set_option linter.unusedVariables false
set_option linter.unusedSimpArgs false

theorem hex_inj : ∀ i : Nat, i < 16 → ∀ j : Nat, j < 16 → UInt8.ofNat (bt hexD (i : Int)).toNat = UInt8.ofNat (bt hexD (j : Int)).toNat → i = j := by decide
theorem hex_inj' {a b : Int} (h : UInt8.ofNat (bt hexD (a % 16)).toNat = UInt8.ofNat (bt hexD (b % 16)).toNat) : a % 16 = b % 16 := by
  have := hex_inj (a % 16).toNat (by omega) (b % 16).toNat (by omega) (by rwa [Int.toNat_of_nonneg (by omega), Int.toNat_of_nonneg (by omega)])
  omega
theorem four_inj {a b : Int} (ha0 : 0 ≤ a) (ha1 : a ≤ 65535) (hb0 : 0 ≤ b) (hb1 : b ≤ 65535) (h : By (fourT a) = By (fourT b)) : a = b := by
  rw [four_list, four_list] at h
  simp only [List.cons.injEq, and_true] at h
  obtain ⟨h0, h1, h2, h3⟩ := h
  have e0 := hex_inj' h0
  have e1 := hex_inj' h1
  have e2 := hex_inj' h2
  have e3 := hex_inj' h3
  omega
theorem by_extract (s : ByteArray) (a b : Nat) : By (s.extract a b) = seg (By s) a b := seg_extract s a b
theorem byte_parse (B : List UInt8) (s s2 : ByteArray) (j : Nat) (c : UInt8) (hB : By s = By (fourT (Sm.sum B)) ++ [44] ++ B) (hsz : s.size ≤ 2048) (hj : j < s.size) (h2 : By s2 = (By s).set j c) (hne : (By s)[j]'hj ≠ c) : ∃ g : Int, g ≠ 0 ∧ plan_Parse.f s2 = some ([], g) := by
  obtain ⟨p1, p2, p3, p4, p5⟩ := parts _ _ s hB
  have hs2 : s2.size = s.size := by
    have e := congrArg List.length h2
    rw [by_len, List.length_set, by_len] at e
    exact e
  unfold plan_Parse.f
  rw [if_neg (by omega), dif_neg (by omega)]
  split
  · exact ⟨50, by decide, rfl⟩
  rename_i h4
  have h44 : s2[4]'(by omega) = 44 := Classical.not_not.1 h4
  split
  · exact ⟨50, by decide, rfl⟩
  rw [sum_E _ (by rw [ByteArray.size_extract]; omega)]
  simp only [Option.bind_some]
  rw [four_eq]
  simp only [Option.bind_some]
  split
  · rename_i hq
    exfalso
    rw [toList_by, toList_by, by_extract, by_extract, h2] at hq
    have b0 : seg (By s) 0 4 = By (fourT (Sm.sum B)) := by rw [← by_extract, p2]
    have b5 : seg (By s) 5 s.size = B := by rw [← by_extract, p3]
    have hl5 : (By s).drop 5 = B := by
      have : seg (By s) 5 s.size = (By s).drop 5 := by
        unfold seg
        rw [List.take_of_length_le (by rw [List.length_drop, by_len]; omega)]
      rw [← this, b5]
    have hl0 : (By s).take 4 = By (fourT (Sm.sum B)) := by rw [← b0]; rfl
    have q0 : seg ((By s).set j c) 0 4 = ((By s).take 4).set j c := by
      show ((By s).set j c).take 4 = _
      rw [List.take_set]
    have q5 : seg ((By s).set j c) 5 s2.size = if 5 ≤ j then B.set (j - 5) c else B := by
      unfold seg
      rw [List.take_of_length_le (by rw [List.length_drop, List.length_set, by_len]; omega)]
      rw [List.drop_set, hl5]
      split
      · rw [if_neg (by omega)]
      · rw [if_pos (by omega)]
    rw [q0, q5, hl0] at hq
    by_cases j4 : j < 4
    · rw [if_neg (by omega)] at hq
      have e := congrArg (·[j]?) hq
      have hlen : (By (fourT (Sm.sum B))).length = 4 := fourT_size _
      rw [List.getElem?_set_self (by omega)] at e
      have e2 : (By s)[j]? = (By (fourT (Sm.sum B)))[j]? := by rw [← hl0, List.getElem?_take, if_pos j4]
      rw [← e2, List.getElem?_eq_getElem (by rw [by_len]; exact hj)] at e
      exact hne (Option.some.inj e).symm
    · have hset : (By (fourT (Sm.sum B))).set j c = By (fourT (Sm.sum B)) := List.set_eq_of_length_le (by have : (By (fourT (Sm.sum B))).length = 4 := fourT_size _; omega)
      rw [hset] at hq
      by_cases j5 : 5 ≤ j
      · rw [if_pos j5] at hq
        have r1 := Sm.sum_range B
        have r2 := Sm.sum_range (B.set (j - 5) c)
        have e := four_inj r1.1 r1.2 r2.1 r2.2 hq
        have hjB : j - 5 < B.length := by omega
        have hget : B[j - 5] = (By s)[j]'hj := by
          have : (By s)[j]? = B[j - 5]? := by rw [← hl5, List.getElem?_drop]; congr 1; omega
          rw [List.getElem?_eq_getElem (by rw [by_len]; exact hj), List.getElem?_eq_getElem hjB] at this
          exact (Option.some.inj this).symm
        exact Sm.sum_set B (j - 5) hjB c (by rw [hget]; exact hne) e.symm
      · obtain rfl : j = 4 := by omega
        have e : (By s2)[4]? = some c := by rw [h2, List.getElem?_set_self (by rw [by_len]; exact hj)]
        have e2 : (By s2)[4]? = some (s2[4]'(by omega)) := List.getElem?_eq_getElem (by rw [by_len]; omega)
        have e3 : (By s)[4]? = some 44 := by rw [hB, four_list]; rfl
        rw [List.getElem?_eq_getElem (by rw [by_len]; exact hj)] at e3
        rw [e2, h44] at e
        exact hne ((Option.some.inj e3).trans (Option.some.inj e))
  · exact ⟨51, by decide, rfl⟩
theorem byte_calls (A0 : Option Addr) (c0 : Nat) (l0 : List S45) (p d : Int) (w : World) (HG : Aside0 (Glb w)) (hr0 : Kd.C k45 w A0 l0.length l0) (hc0 : l0.length ≤ c0) (d0 : 0 ≤ d) (d1 : d ≤ 255) :
    Calls Tryd.prog 7 #[.slice A0 l0.length c0, .int .i64 p, .int .u8 d] w fun e w' => e = .returned (.bool true) ∧ Below w.heap.size w w' := by
  obtain ⟨r, hr⟩ := read_some l0
  cases r with
  | none =>
    have ht : plan_Text.f l0 = some (⟨#[]⟩, 40) := by unfold plan_Text.f; rw [hr]; rfl
    exact byte_out 2 A0 c0 l0 p d ⟨#[]⟩ 40 w HG hr0 hc0 ht (by decide) (sure_f 2 (by omega)) (.inl (by decide))
  | some t =>
    obtain ⟨s, ht, hB, hsz, hp⟩ := text_back hr
    have h64 := (read_good hr).2.2.2.1
    by_cases hc : (0 : Int) ≠ 0 ∨ p < 0 ∨ (s.size : Int) ≤ p ∨ bt s p = d
    · exact byte_out 2 A0 c0 l0 p d s 0 w HG hr0 hc0 ht (by omega) (sure_f 2 (by omega)) hc
    · simp only [not_or] at hc
      obtain ⟨_, hp0, hp1, hne⟩ := hc
      obtain ⟨c, rfl⟩ : ∃ c : UInt8, d = (c.toNat : Int) := ⟨UInt8.ofNat d.toNat, by simp; omega⟩
      have hj : p.toNat < s.size := by omega
      have hset := Bs.set_text (By s) p.toNat c
      have hgt : (By s)[p.toNat]'hj ≠ c := by
        rintro rfl
        have hb := bt_at s p.toNat hj
        rw [Int.toNat_of_nonneg (by omega)] at hb
        exact hne hb
      obtain ⟨g, hg, hpg⟩ := byte_parse _ s (S ((By s).set p.toNat c)) p.toNat c hB hsz hj rfl hgt
      exact byte_turned 65 A0 c0 l0 p _ s _ g w HG hr0 hc0 ht (by omega) (by omega) (by omega) hne (by rw [← hset, ← S_of]) hpg hg hp (by rw [same_f _ _ (by omega) 65 (by omega)]; simp)
theorem byte_walk (A0 : Option Addr) (c0 : Nat) (l0 : List S45) (p d : Int) (w : World) (HG : Aside0 (Glb w)) (hr0 : Kd.C k45 w A0 l0.length l0) (hc0 : l0.length ≤ c0) (wl : ∀ c ∈ l0, wfC c) (wp : (Lit.int .i64 p).wf = true) (wd : (Lit.int .u8 d).wf = true) :
    Calls Tryd.prog 7 #[.slice A0 l0.length c0, .int .i64 p, .int .u8 d] w fun e w' => e = .returned (.bool true) ∧ Below w.heap.size w w' := by
  have hx : 0 ≤ d ∧ d ≤ 255 := by simpa [Lit.wf, IntKind.min, IntKind.max, IntKind.signed, IntKind.bits] using wd
  exact byte_calls A0 c0 l0 p d w HG hr0 hc0 hx.1 hx.2
end Go.Proofs.YtmpnkckaohfflaaDoor.PGiv
