/- A layout's text is read back. Plain, no program. -/
import Derived.Test.YtmpnkckaohfflaaDoorPl3
namespace Go.Proofs.YtmpnkckaohfflaaDoor.PGiv
open Go.RowKit Go.Proofs.YtmpnkckaohfflaaDoorW.PrintWords Go.Proofs.YtmpnkckaohfflaaDoor.K Go.Proofs.YtmpnkckaohfflaaDoor.Num Go.Proofs.YtmpnkckaohfflaaDoor.Txt
set_option linter.unusedVariables false
set_option linter.unusedSimpArgs false

/-- no digit stands first -/
def NoD (R : List UInt8) : Prop := ∀ c r, R = c :: r → ¬ (48 ≤ c.toNat ∧ c.toNat ≤ 57)
theorem at_drop {s : ByteArray} {a : Nat} {c : UInt8} {R : List UInt8} (h : (By s).drop a = c :: R) : ∃ ha : a < s.size, s[a] = c ∧ (By s).drop (a + 1) = R := by
  have hl : a < (By s).length := by
    rcases Nat.lt_or_ge a (By s).length with h' | h'
    · exact h'
    · rw [List.drop_eq_nil_of_le h'] at h
      cases h
  have e := List.drop_eq_getElem_cons hl
  rw [h] at e
  injection e with e1 e2
  exact ⟨hl, e1.symm, e2.symm⟩
theorem drop_drop {s : ByteArray} {a : Nat} {D R : List UInt8} (h : (By s).drop a = D ++ R) : (By s).drop (a + D.length) = R := by
  rw [← List.drop_drop, h, List.drop_left]
theorem drop_len {s : ByteArray} {a : Nat} {D R : List UInt8} (h : (By s).drop a = D ++ R) (hD : D ≠ []) : a + D.length + R.length = s.size := by
  have e := congrArg List.length h
  rw [List.length_drop, List.length_append] at e
  have : 0 < D.length := List.length_pos_iff.2 hD
  rw [by_len] at e
  omega
theorem digEnd_run (s : ByteArray) {R : List UInt8} (hR : NoD R) : ∀ (D : List UInt8) (k a : Nat), (∀ c ∈ D, 48 ≤ c.toNat ∧ c.toNat ≤ 57) → (By s).drop a = D ++ R → D.length ≤ k → digEnd k s a = a + D.length
  | [], k, a, _, hd, _ => by
    cases k with
    | zero => rfl
    | succ k =>
      rw [digEnd]
      split
      · rename_i h
        have e := List.drop_eq_getElem_cons (l := By s) (i := a) h
        rw [hd, List.nil_append] at e
        have hn : ¬ (48 ≤ s[a].toNat ∧ s[a].toNat ≤ 57) := hR _ _ e
        rw [if_neg hn]
        rfl
      · rfl
  | c :: D, k, a, hc, hd, hk => by
    obtain ⟨k, rfl⟩ : ∃ m, k = m + 1 := ⟨k - 1, by simp at hk; omega⟩
    obtain ⟨ha, h1, h2⟩ := at_drop hd
    rw [digEnd, dif_pos ha, h1, if_pos (hc c List.mem_cons_self), digEnd_run s hR D k (a + 1) (fun x hx => hc x (List.mem_cons_of_mem _ hx)) h2 (by simp at hk; omega)]
    simp
    omega
theorem putNum_digit (n : Int) : ∀ c ∈ putNum n, 48 ≤ c.toNat ∧ c.toNat ≤ 57 := by
  rcases putNum_cases n with ⟨_, h⟩ | ⟨u, _, _, h⟩
  · rw [h]
    simp
  · rw [h]
    exact dec_digit u
theorem number_run {s : ByteArray} {a : Nat} {n : Int} {R : List UInt8} (h0 : 0 ≤ n) (h1 : n ≤ 4611686018427387904) (hd : (By s).drop a = putNum n ++ R) (hR : NoD R) : rdNumber s a = some (n, a + (putNum n).length) := by
  have hl : (putNum n).length ≤ s.size - a := by
    have e := congrArg List.length hd
    rw [List.length_drop, List.length_append, by_len] at e
    omega
  have hE := digEnd_run s hR (putNum n) (s.size - a) a (putNum_digit n) hd hl
  unfold rdNumber
  rw [hE, seg_extract]
  have hs : seg (By s) a (a + (putNum n).length) = putNum n := by
    unfold seg
    rw [hd, show a + (putNum n).length - a = (putNum n).length by omega, List.take_left]
  have hq : numOf (putNum n) = (n, true) := by rw [numOf_put, if_neg (by omega)]
  rw [hs, hq]
  rfl
theorem next_run {s : ByteArray} {a : Nat} {c : UInt8} {R : List UInt8} (h : (By s).drop a = c :: R) : rdNext s a = some (c, a + 1) := by
  obtain ⟨ha, h1, _⟩ := at_drop h
  unfold rdNext
  rw [dif_pos ha, h1]
theorem must_run {s : ByteArray} {a : Nat} {c : UInt8} {R : List UInt8} (h : (By s).drop a = c :: R) : rdMust s a c = some (a + 1) := by
  unfold rdMust
  rw [next_run h]
  simp
theorem noD_cons {c : UInt8} {R : List UInt8} (h : c.toNat < 48 ∨ 57 < c.toNat) : NoD (c :: R) := fun c' r e => by
  injection e with e _
  rw [← e]
  omega
/-- where the children may lie -/
def room (kind W H x y : Int) (ks : List Tr) : Prop := 0 ≤ x ∧ 0 ≤ y ∧ ((kind = 2 ∧ x + sumL kind ks ≤ 1001 ∧ y + H ≤ 1000) ∨ (kind = 3 ∧ y + sumL kind ks ≤ 1001 ∧ x + W ≤ 1000))
theorem room_step {kind W H x y : Int} {k : Tr} {r : List Tr} (hr : room kind W H x y (k :: r)) (hg : goodL kind W H (k :: r)) :
    (0 ≤ x ∧ x + k.w ≤ 1000 ∧ 0 ≤ y ∧ y + k.h ≤ 1000) ∧ room kind W H (if kind = 2 then wrap64 (x + wrap64 (k.w + 1)) else x) (if kind = 2 then y else wrap64 (y + wrap64 (k.h + 1))) r := by
  obtain ⟨h0, h1, h2⟩ := hr
  rw [goodL] at hg
  have hd := good_dim hg.2.2.1
  have hs := sumL_rng kind W H r hg.2.2.2
  have he := hg.2.1
  rw [sumL] at h2
  rcases h2 with ⟨rfl, h2, h3⟩ | ⟨rfl, h2, h3⟩
  · have e1 : ext 2 k.w k.h = k.w := rfl
    have e2 : ext (5 - 2) k.w k.h = k.h := rfl
    have e3 : ext (5 - 2) W H = H := rfl
    rw [e2, e3] at he
    rw [e1] at h2
    have hw1 : wrap64 (k.w + 1) = k.w + 1 := IntWalk.wrap64_in _ (by omega)
    have hw2 : wrap64 (x + (k.w + 1)) = x + (k.w + 1) := IntWalk.wrap64_in _ (by omega)
    rw [if_pos rfl, if_pos rfl, hw1, hw2]
    exact ⟨by omega, by omega, by omega, .inl ⟨rfl, by omega, by omega⟩⟩
  · have e1 : ext 3 k.w k.h = k.h := rfl
    have e2 : ext (5 - 3) k.w k.h = k.w := rfl
    have e3 : ext (5 - 3) W H = W := rfl
    rw [e2, e3] at he
    rw [e1] at h2
    have hw1 : wrap64 (k.h + 1) = k.h + 1 := IntWalk.wrap64_in _ (by omega)
    have hw2 : wrap64 (y + (k.h + 1)) = y + (k.h + 1) := IntWalk.wrap64_in _ (by omega)
    rw [if_neg (by decide), if_neg (by decide), hw1, hw2]
    exact ⟨by omega, by omega, by omega, .inr ⟨rfl, by omega, by omega⟩⟩
theorem txt_snoc (kind : Int) (k : Tr) (r : List Tr) (x y : Int) : txtL kind false (k :: r) x y = 44 :: txtL kind true (k :: r) x y := by
  rw [txtL_cons, txtL_cons]
  simp
theorem read_list (kind d : Int) (sh : UInt8) (hsh : sh = 93 ∨ sh = 125) (hd1 : wrap64 (d + 1) = d + 1) (W H : Int) : ∀ (ks : List Tr),
    (∀ t ∈ ks, ∀ (x y : Int), goodT t → 0 ≤ x → x + t.w ≤ 1000 → 0 ≤ y → y + t.h ≤ 1000 → ∀ (F : Nat) (s : ByteArray) (a : Nat) (L : List S45) (R : List UInt8), 2 * cntT t ≤ F → (By s).drop a = txtT t x y ++ R → NoD R → cellR F s a L (d + 1) = some (some (L ++ layT t (d + 1) x y, a + (txtT t x y).length))) →
    ∀ (x y : Int) (F : Nat) (s : ByteArray) (a : Nat) (L : List S45) (R : List UInt8), ks ≠ [] → goodL kind W H ks → room kind W H x y ks → 2 * cntL ks + 1 ≤ F → (By s).drop a = txtL kind true ks x y ++ sh :: R →
      loopR F s a L d sh = some (some (L ++ layL kind ks (d + 1) x y, a + (txtL kind true ks x y).length + 1))
  | [], _, x, y, F, s, a, L, R, hne, _, _, _, _ => absurd rfl hne
  | k :: r, hk, x, y, F, s, a, L, R, _, hg, hr, hF, hd => by
    obtain ⟨F, rfl⟩ : ∃ m, F = m + 1 := ⟨F - 1, by omega⟩
    obtain ⟨⟨b1, b2, b3, b4⟩, hr'⟩ := room_step hr hg
    have hg' := hg
    rw [goodL] at hg'
    rw [cntL] at hF
    rw [layL_cons, txtL_cons]
    rw [txtL_cons] at hd
    generalize hx' : (if kind = 2 then wrap64 (x + wrap64 (k.w + 1)) else x) = x' at *
    generalize hy' : (if kind = 2 then y else wrap64 (y + wrap64 (k.h + 1))) = y' at *
    simp only [if_true, List.nil_append] at hd ⊢
    have hshD : sh.toNat < 48 ∨ 57 < sh.toNat := by rcases hsh with rfl | rfl <;> decide
    have hsh44 : ¬ (44 : UInt8) = sh := by rcases hsh with rfl | rfl <;> decide
    have hrd : (By s).drop a = txtT k x y ++ (txtL kind false r x' y' ++ sh :: R) := by rw [hd]; simp
    have hno : NoD (txtL kind false r x' y' ++ sh :: R) := by
      cases r with
      | nil =>
        rw [txtL, List.nil_append]
        exact noD_cons hshD
      | cons k2 r2 =>
        rw [txt_snoc, List.cons_append]
        exact noD_cons (by decide)
    have h1 := hk k List.mem_cons_self x y hg'.2.2.1 b1 b2 b3 b4 F s a L _ (by have := cntT_pos k; omega) hrd hno
    have hd2 := drop_drop hrd
    rw [loopR, hd1, h1]
    simp only [Option.bind_some]
    cases r with
    | nil =>
      rw [txtL, List.nil_append] at hd2
      rw [next_run hd2]
      simp only [if_true, Option.some.injEq, Prod.mk.injEq]
      rw [layL, txtL]
      simp
    | cons k2 r2 =>
      rw [txt_snoc, List.cons_append] at hd2
      rw [next_run hd2]
      simp only
      rw [if_neg hsh44, if_pos trivial]
      have hd3 := (at_drop hd2).2.2
      have := read_list kind d sh hsh hd1 W H (k2 :: r2) (fun t ht => hk t (List.mem_cons_of_mem _ ht)) x' y' F s _ (L ++ layT k (d + 1) x y) R (by simp) hg'.2.2.2 hr' (by have := cntT_pos k; omega) hd3
      rw [this, txt_snoc]
      simp only [Option.some.injEq, Prod.mk.injEq, List.length_append, List.length_cons]
      exact ⟨by simp, by omega⟩
theorem read_tree : ∀ (t : Tr) (d x y : Int), goodT t → 0 ≤ x → x + t.w ≤ 1000 → 0 ≤ y → y + t.h ≤ 1000 → 0 ≤ d → d + cntT t ≤ 1000000 → ∀ (F : Nat) (s : ByteArray) (a : Nat) (L : List S45) (R : List UInt8), 2 * cntT t ≤ F → (By s).drop a = txtT t x y ++ R → NoD R →
    cellR F s a L d = some (some (L ++ layT t d x y, a + (txtT t x y).length)) := by
  refine Tr.ind ?_
  intro kind W H id kids ih d x y hg hx0 hx1 hy0 hy1 hd0 hcn F s a L R hF hdr hR
  rw [cntT] at hcn hF
  obtain ⟨F, rfl⟩ : ∃ m, F = m + 1 := ⟨F - 1, by omega⟩
  have hx1 : x + W ≤ 1000 := hx1
  have hy1 : y + H ≤ 1000 := hy1
  obtain ⟨hdim, hk⟩ := (goodT_def _ _ _ _ _).1 hg
  rw [txtT] at hdr ⊢
  rw [layT]
  generalize htail : (if kind = 1 then [44] ++ putNum id else [if kind = 3 then 91 else 123] ++ txtL kind true kids x y ++ [if kind = 3 then 93 else 125]) = T at hdr ⊢
  have hTne : ∃ c r, T = c :: r ∧ (c.toNat < 48 ∨ 57 < c.toNat) := by
    rw [← htail]
    split
    · exact ⟨44, _, rfl, by decide⟩
    · split
      · exact ⟨91, _, rfl, by decide⟩
      · exact ⟨123, _, rfl, by decide⟩
  have d0 : (By s).drop a = putNum W ++ (120 :: (putNum H ++ (44 :: (putNum x ++ (44 :: (putNum y ++ (T ++ R))))))) := by rw [hdr]; simp
  have n1 := number_run (n := W) (by omega) (by omega) d0 (noD_cons (by decide))
  have d1 := drop_drop d0
  have m1 := must_run d1
  have d2 := (at_drop d1).2.2
  have n2 := number_run (n := H) (by omega) (by omega) d2 (noD_cons (by decide))
  have d3 := drop_drop d2
  have m2 := must_run d3
  have d4 := (at_drop d3).2.2
  have n3 := number_run (n := x) (by omega) (by omega) d4 (noD_cons (by decide))
  have d5 := drop_drop d4
  have m3 := must_run d5
  have d6 := (at_drop d5).2.2
  have n4 := number_run (n := y) (by omega) (by omega) d6 (by
    obtain ⟨c, r, e, h⟩ := hTne
    rw [e, List.cons_append]
    exact noD_cons h)
  have d7 := drop_drop d6
  rw [cellR, n1]
  simp only
  rw [m1]
  simp only
  rw [n2]
  simp only
  rw [m2]
  simp only
  rw [n3]
  simp only
  rw [m3]
  simp only
  rw [n4]
  simp only
  rcases hk with ⟨rfl, hi0, hi1, rfl⟩ | ⟨hk, hi, hlen, hgl, hsum⟩
  · rw [if_pos rfl] at htail
    subst htail
    have d8 : (By s).drop (a + (putNum W).length + 1 + (putNum H).length + 1 + (putNum x).length + 1 + (putNum y).length) = 44 :: (putNum id ++ R) := by rw [d7]; simp
    rw [next_run d8]
    simp only [if_true]
    rw [number_run (n := id) (by omega) hi1 (at_drop d8).2.2 hR]
    simp only [Option.some.injEq, Prod.mk.injEq, List.length_append, List.length_cons, List.length_nil]
    exact ⟨trivial, by omega⟩
  · have hk1 : kind ≠ 1 := by omega
    rw [if_neg hk1] at htail
    rw [if_neg hk1]
    have hw : wrap64 (d + 1) = d + 1 := IntWalk.wrap64_in _ (by omega)
    rw [hw]
    have hroom : room kind W H x y kids := by
      refine ⟨hx0, hy0, ?_⟩
      rcases hk with rfl | rfl
      · left
        have : ext 2 W H = W := rfl
        rw [this] at hsum
        exact ⟨rfl, by omega, by omega⟩
      · right
        have : ext 3 W H = H := rfl
        rw [this] at hsum
        exact ⟨rfl, by omega, by omega⟩
    have hkne : kids ≠ [] := fun e => by rw [e] at hlen; simp at hlen
    have hall := fun sh hsh => read_list kind d sh hsh hw W H kids (fun t ht x y hg h0 h1 h2 h3 F s a L R hF hdr hR => ih t ht (d + 1) x y hg h0 h1 h2 h3 (by omega) (by have := cntT_mem t kids ht; omega) F s a L R hF hdr hR)
    rcases hk with rfl | rfl
    · subst htail
      have d8 : (By s).drop (a + (putNum W).length + 1 + (putNum H).length + 1 + (putNum x).length + 1 + (putNum y).length) = 123 :: (txtL 2 true kids x y ++ 125 :: R) := by rw [d7]; simp
      rw [next_run d8]
      simp only
      rw [if_neg (by decide), if_pos trivial, hall 125 (.inr rfl) x y F s _ _ R hkne hgl hroom (by omega) (at_drop d8).2.2]
      simp only [Option.some.injEq, Prod.mk.injEq, List.length_append, List.length_cons, List.length_nil]
      exact ⟨by simp, by omega⟩
    · subst htail
      have d8 : (By s).drop (a + (putNum W).length + 1 + (putNum H).length + 1 + (putNum x).length + 1 + (putNum y).length) = 91 :: (txtL 3 true kids x y ++ 93 :: R) := by rw [d7]; simp
      rw [next_run d8]
      simp only
      rw [if_neg (by decide), if_neg (by decide), if_pos trivial, hall 93 (.inl rfl) x y F s _ _ R hkne hgl hroom (by omega) (at_drop d8).2.2]
      simp only [Option.some.injEq, Prod.mk.injEq, List.length_append, List.length_cons, List.length_nil]
      exact ⟨by simp, by omega⟩

/-! how long a layout's text is -/
theorem putNum_small {n : Int} (h0 : 0 ≤ n) (h1 : n < 10000) : (putNum n).length ≤ 4 := by
  rcases putNum_cases n with ⟨_, h⟩ | ⟨u, hu, _, h⟩
  · rw [h]
    simp
  · rw [h]
    exact dec_len 3 u (by omega)
theorem putNum_big (n : Int) : (putNum n).length ≤ 19 := by
  rcases putNum_cases n with ⟨_, h⟩ | ⟨u, hu, hm, h⟩
  · rw [h]
    simp
  · rw [h]
    exact dec_len 18 u (by omega)
theorem panes_app (a b : List S45) : panes (a ++ b) = panes a ++ panes b := by simp [panes]
theorem txtL_len (kind W H d : Int) : ∀ (ks : List Tr), (∀ t ∈ ks, ∀ x y d : Int, goodT t → 0 ≤ x → x + t.w ≤ 1000 → 0 ≤ y → y + t.h ≤ 1000 → (txtT t x y).length + 1 ≤ 22 * (layT t d x y).length + 18 * (panes (layT t d x y)).length) →
    ∀ (x y : Int) (first : Bool), goodL kind W H ks → room kind W H x y ks → (txtL kind first ks x y).length ≤ 22 * (layL kind ks d x y).length + 18 * (panes (layL kind ks d x y)).length
  | [], _, x, y, first, _, _ => by rw [txtL]; simp
  | k :: r, hk, x, y, first, hg, hr => by
    obtain ⟨⟨b1, b2, b3, b4⟩, hr'⟩ := room_step hr hg
    rw [goodL] at hg
    have h1 := hk k List.mem_cons_self x y d hg.2.2.1 b1 b2 b3 b4
    have h2 := txtL_len kind W H d r (fun t ht => hk t (List.mem_cons_of_mem _ ht)) _ _ false hg.2.2.2 hr'
    obtain ⟨c, rr, hc, _⟩ := layT_head k d x y
    have h3 : 1 ≤ (layT k d x y).length := by rw [hc]; simp
    rw [txtL_cons, layL_cons, panes_app]
    have h4 : ((if first then [] else [44]) : List UInt8).length ≤ 1 := by cases first <;> simp
    simp only [List.length_append]
    omega
theorem txtT_len : ∀ (t : Tr) (x y d : Int), goodT t → 0 ≤ x → x + t.w ≤ 1000 → 0 ≤ y → y + t.h ≤ 1000 → (txtT t x y).length + 1 ≤ 22 * (layT t d x y).length + 18 * (panes (layT t d x y)).length := by
  refine Tr.ind ?_
  intro kind W H id kids ih x y d hg hx0 hx1 hy0 hy1
  have hx1 : x + W ≤ 1000 := hx1
  have hy1 : y + H ≤ 1000 := hy1
  obtain ⟨hdim, hk⟩ := (goodT_def _ _ _ _ _).1 hg
  have l1 := putNum_small (n := W) (by omega) (by omega)
  have l2 := putNum_small (n := H) (by omega) (by omega)
  have l3 := putNum_small (n := x) (by omega) (by omega)
  have l4 := putNum_small (n := y) (by omega) (by omega)
  rw [txtT, layT]
  rcases hk with ⟨rfl, hi0, hi1, rfl⟩ | ⟨hk, hi, hlen, hgl, hsum⟩
  · have l5 := putNum_big id
    rw [if_pos rfl, if_pos rfl]
    simp [panes]
    omega
  · have hk1 : kind ≠ 1 := by omega
    have hroom : room kind W H x y kids := by
      refine ⟨hx0, hy0, ?_⟩
      rcases hk with rfl | rfl
      · left
        have : ext 2 W H = W := rfl
        rw [this] at hsum
        exact ⟨rfl, by omega, by omega⟩
      · right
        have : ext 3 W H = H := rfl
        rw [this] at hsum
        exact ⟨rfl, by omega, by omega⟩
    have h2 := txtL_len kind W H (wrap64 (d + 1)) kids (fun t ht x y d hg a b c e => ih t ht x y d hg a b c e) x y true hgl hroom
    rw [if_neg hk1, if_neg hk1]
    have hp : panes ((⟨d, kind, x, y, W, H, 0⟩ : S45) :: layL kind kids (wrap64 (d + 1)) x y) = panes (layL kind kids (wrap64 (d + 1)) x y) := by simp [panes, hk1]
    rw [hp]
    simp only [List.length_append, List.length_cons, List.length_nil]
    omega
end Go.Proofs.YtmpnkckaohfflaaDoor.PGiv
