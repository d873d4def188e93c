/- A layout's text is read back as the layout, and is short. Plain, no program. No condition. -/
import Derived.Test.YtmpnkckaohfflaaDoorPl4
import Derived.Test.YtmpnkckaohfflaaDoorForth
import Derived.Test.YtmpnkckaohfflaaDoorArg
namespace Go.Proofs.YtmpnkckaohfflaaDoor.PGiv
open Go.RowKit Go.Proofs.YtmpnkckaohfflaaDoorW.PrintWords Go.Proofs.YtmpnkckaohfflaaDoor.K Go.Proofs.YtmpnkckaohfflaaDoor.Num Go.Proofs.YtmpnkckaohfflaaDoor.Txt Go.Proofs.YtmpnkckaohfflaaDoor.M
set_option linter.unusedVariables false
set_option linter.unusedSimpArgs false

theorem read_good {L : List S45} {t : Tr} (h : readF L = some (some t)) : goodT t ∧ (∀ c ∈ L, cellOK c) ∧ (panes L).length ≤ 32 ∧ L.length ≤ 64 ∧ layT t 0 0 0 = L ∧ cntT t ≤ 64 := by
  cases L with
  | nil => simp [readF] at h
  | cons c l =>
    rw [readF] at h
    split at h
    · simp at h
    rename_i h64
    split at h
    · simp at h
    split at h
    · simp at h
    cases hs : seenF (c :: l) [] with
    | none => rw [hs] at h; simp at h
    | some S =>
      rw [hs] at h
      simp only at h
      split at h
      · simp at h
      rename_i h32
      obtain ⟨g, hg, h⟩ := Option.bind_eq_some_iff.1 h
      cases g with
      | none => simp at h
      | some tr =>
        obtain ⟨t', rest⟩ := tr
        simp only at h
        split at h
        · simp at h
        · split at h
          · rename_i hl
            simp only [Option.some.injEq] at h
            subst h
            obtain ⟨h1, h2⟩ := seen_ok _ _ _ hs
            obtain ⟨g1, _⟩ := (grow_good 1000).1 _ _ _ _ (by omega) h1 hg
            have hcn := (grow_cnt 1000).1 _ _ _ _ hg
            exact ⟨g1, h1, by simp at h2; omega, by omega, hl, by omega⟩
          · simp at h
/-- where the cells of a good tree lie -/
theorem lay_ok : ∀ (t : Tr) (x y d : Int), goodT t → 0 ≤ x → x + t.w ≤ 1000 → 0 ≤ y → y + t.h ≤ 1000 → ∀ c ∈ layT t d x y, okC c := by
  refine Tr.ind ?_
  intro kind W H id kids ih x y d hg hx0 hx1 hy0 hy1
  have hx1 : x + W ≤ 1000 := hx1
  have hy1 : y + H ≤ 1000 := hy1
  obtain ⟨hdim, hk⟩ := (goodT_def _ _ _ _ _).1 hg
  rw [layT]
  have ok : ∀ q : Int, 0 ≤ q → q ≤ 4611686018427387904 → okC ⟨d, kind, x, y, W, H, q⟩ := fun q h0 h1 => ⟨⟨by show _ ≤ x; omega, by show x ≤ _; omega⟩, ⟨by show _ ≤ y; omega, by show y ≤ _; omega⟩, ⟨by show _ ≤ W; omega, by show W ≤ _; omega⟩, ⟨by show _ ≤ H; omega, by show H ≤ _; omega⟩, ⟨by show _ ≤ q; omega, by show q ≤ _; omega⟩⟩
  rcases hk with ⟨rfl, hi0, hi1, rfl⟩ | ⟨hk, hi, hlen, hgl, hsum⟩
  · rw [if_pos rfl]
    intro c hc
    rw [List.mem_singleton] at hc
    rw [hc]
    exact ok id (by omega) hi1
  · have hk1 : kind ≠ 1 := by omega
    rw [if_neg hk1]
    have hroom : room kind W H x y kids := by
      refine ⟨hx0, hy0, ?_⟩
      rcases hk with rfl | rfl
      · left
        have : ext 2 W H = W := rfl
        rw [this] at hsum
        exact ⟨rfl, by omega, by omega⟩
      · right
        have : ext 3 W H = H := rfl
        rw [this] at hsum
        exact ⟨rfl, by omega, by omega⟩
    have all : ∀ (ks : List Tr) (x y : Int), (∀ t ∈ ks, t ∈ kids) → goodL kind W H ks → room kind W H x y ks → ∀ c ∈ layL kind ks (wrap64 (d + 1)) x y, okC c := by
      intro ks
      induction ks with
      | nil => intro x y _ _ _ c hc; rw [layL] at hc; simp at hc
      | cons k r ihr =>
        intro x y hm hg hr c hc
        obtain ⟨⟨b1, b2, b3, b4⟩, hr'⟩ := room_step hr hg
        rw [goodL] at hg
        rw [layL_cons] at hc
        rcases List.mem_append.1 hc with hc | hc
        · exact ih k (hm k List.mem_cons_self) x y _ hg.2.2.1 b1 b2 b3 b4 c hc
        · exact ihr _ _ (fun t ht => hm t (List.mem_cons_of_mem _ ht)) hg.2.2.2 hr' c hc
    intro c hc
    rcases List.mem_cons.1 hc with rfl | hc
    · exact ok 0 (by omega) (by omega)
    · exact all kids x y (fun t ht => ht) hgl hroom c hc
theorem txt_ne (t : Tr) (x y : Int) : txtT t x y ≠ [] := by
  obtain ⟨kind, w, h, id, kids⟩ := t
  rw [txtT]
  simp
theorem bt_at (s : ByteArray) (i : Nat) (h : i < s.size) : bt s (i : Int) = (s[i].toNat : Int) := by
  unfold bt
  rw [dif_pos (by simpa using h)]
  rfl
theorem hex_at : ∀ i : Nat, i < 16 → 0 ≤ Lib.indexByte hexD.data.toList (UInt8.ofNat (bt hexD (i : Int)).toNat) := by decide
theorem hex_mod (n : Int) : 0 ≤ Lib.indexByte hexD.data.toList (UInt8.ofNat (bt hexD (n % 16)).toNat) := by
  have := hex_at (n % 16).toNat (by omega)
  rwa [Int.toNat_of_nonneg (by omega)] at this
theorem four_list (n : Int) : By (fourT n) = [UInt8.ofNat (bt hexD (n / 4096 % 16)).toNat, UInt8.ofNat (bt hexD (n / 256 % 16)).toNat, UInt8.ofNat (bt hexD (n / 16 % 16)).toNat, UInt8.ofNat (bt hexD (n % 16)).toNat] := rfl
/-- a text, out of its parts -/
theorem parts (n : Int) (B : List UInt8) (s : ByteArray) (hs : By s = By (fourT n) ++ [44] ++ B) : s.size = 5 + B.length ∧ s.extract 0 4 = fourT n ∧ s.extract 5 s.size = ⟨B.toArray⟩ ∧ (∀ h : 4 < s.size, s[4] = 44) ∧ hexTo s 4 0 = true := by
  have h4 := four_list n
  have hsz : s.size = 5 + B.length := by
    have e := congrArg List.length hs
    rw [by_len, h4] at e
    simp at e
    omega
  refine ⟨hsz, ?_, ?_, ?_, ?_⟩
  · apply by_ext
    show (s.extract 0 4).data.toList = _
    rw [seg_extract]
    show seg (By s) 0 4 = _
    rw [hs, h4]
    rfl
  · apply by_ext
    show (s.extract 5 s.size).data.toList = _
    rw [seg_extract]
    show seg (By s) 5 s.size = B
    rw [hs, h4, hsz]
    unfold seg
    simp
  · intro h
    have : (By s)[4]? = some 44 := by rw [hs, h4]; rfl
    rw [List.getElem?_eq_getElem (by rw [by_len]; exact h)] at this
    exact Option.some.inj this
  · have at_ : ∀ (i : Nat) (c : UInt8), (By s)[i]? = some c → 0 ≤ Lib.indexByte hexD.data.toList c → hexAt s i = true := by
      intro i c hc h0
      obtain ⟨hi, e⟩ := List.getElem?_eq_some_iff.1 hc
      have hi' : i < s.size := hi
      have e' : s[i] = c := e
      rw [hexAt, dif_pos hi', e', decide_eq_true h0]
    have a0 := at_ 0 _ (by rw [hs, h4]; rfl) (hex_mod (n / 4096))
    have a1 := at_ 1 _ (by rw [hs, h4]; rfl) (hex_mod (n / 256))
    have a2 := at_ 2 _ (by rw [hs, h4]; rfl) (hex_mod (n / 16))
    have a3 := at_ 3 _ (by rw [hs, h4]; rfl) (hex_mod n)
    rw [hexTo, hexTo, hexTo, hexTo, hexTo, a0, a1, a2, a3]
    rfl
/-- the text of what is a layout -/
theorem text_back {L : List S45} {t : Tr} (h : readF L = some (some t)) : ∃ s : ByteArray, plan_Text.f L = some (s, 0) ∧ By s = By (fourT (Sm.sum (txtT t 0 0))) ++ [44] ++ txtT t 0 0 ∧ s.size ≤ 2048 ∧ plan_Parse.f s = some (L, 0) := by
  obtain ⟨hg, hok, h32, h64, hl, hcnt⟩ := read_good h
  have hdim := good_dim hg
  have hlen := txtT_len t 0 0 0 hg (by omega) (by omega) (by omega) (by omega)
  rw [hl] at hlen
  have hw := write_tree t 0 0 0 1000 [] [] (by omega) (by omega) (by rw [hl]; omega) (by simp)
  rw [hl] at hw
  simp only [List.nil_append, List.append_nil, List.length_nil] at hw
  have hokC : ∀ c ∈ L, okC c := by
    rw [← hl]
    exact lay_ok t 0 0 0 hg (by omega) (by omega) (by omega) (by omega)
  have ht := text_of h hw hokC (txt_ne t 0 0) (by omega)
  refine ⟨_, ht, ?_, ?_, ?_⟩
  · rw [by_app, by_app]
  · rw [ByteArray.size_append, ByteArray.size_append, fourT_size]
    show 4 + 1 + (txtT t 0 0).length ≤ 2048
    omega
  · generalize hS : fourT (Sm.sum (txtT t 0 0)) ++ (⟨#[44]⟩ : ByteArray) ++ ⟨(txtT t 0 0).toArray⟩ = s
    have hbs : By s = By (fourT (Sm.sum (txtT t 0 0))) ++ [44] ++ txtT t 0 0 := by
      rw [← hS, by_app, by_app]
    obtain ⟨p1, p2, p3, p4, p5⟩ := parts _ _ s hbs
    unfold plan_Parse.f
    rw [if_neg (by omega), dif_neg (by omega), if_neg (by rw [p4]; simp), if_neg (by rw [p5]; simp), p3, sum_E _ (by show (txtT t 0 0).length ≤ 100000; omega)]
    simp only [Option.bind_some]
    rw [four_eq]
    simp only [Option.bind_some]
    rw [if_pos (by rw [p2])]
    unfold tailF
    rw [p3]
    have hr := read_tree t 0 0 0 hg (by omega) (by omega) (by omega) (by omega) (by omega) (by omega) 5000 ⟨(txtT t 0 0).toArray⟩ 0 [] [] (by omega) (by simp [By]) (fun c r e => by cases e)
    rw [hl, List.nil_append] at hr
    have hb : bodyF ⟨(txtT t 0 0).toArray⟩ = some (some L) := by
      unfold bodyF
      rw [hr]
      simp only [Option.bind_some]
      rw [if_pos (by show 0 + (txtT t 0 0).length = (txtT t 0 0).toArray.size; simp)]
    rw [hb]
    simp only [Option.bind_some]
    have hck : layout_Check.f L = some 0 := by unfold layout_Check.f; rw [h]; rfl
    rw [hck]
    rfl
theorem parse_nil : plan_Parse.f ⟨#[]⟩ = some ([], 50) := by
  unfold plan_Parse.f
  rw [if_neg (by decide), dif_pos (by decide)]
theorem back_f (k : Nat) (L : List S45) (hk : 65 ≤ k) : mullionlaw05_PlanBack.f k L = some true := by
  unfold mullionlaw05_PlanBack.f
  obtain ⟨r, hr⟩ := read_some L
  cases r with
  | none =>
    have ht : plan_Text.f L = some (⟨#[]⟩, 40) := by unfold plan_Text.f; rw [hr]; rfl
    have hck : layout_Check.f L = some 40 := by unfold layout_Check.f; rw [hr]; rfl
    rw [ht, hck]
    simp only [Option.bind_some]
    rw [if_neg (by decide), if_neg (by decide), if_pos (by rw [toList_by]), sure_f k (by omega)]
    rfl
  | some t =>
    obtain ⟨s, ht, _, hsz, hp⟩ := text_back hr
    have hck : layout_Check.f L = some 0 := by unfold layout_Check.f; rw [hr]; rfl
    have h64 := (read_good hr).2.2.2.1
    rw [ht, hck]
    simp only [Option.bind_some]
    rw [if_pos trivial, hp]
    simp only [Option.bind_some]
    rw [if_pos trivial, if_pos trivial, same_f _ _ (by omega) k (by omega)]
    simp only [Option.bind_some]
    rw [if_pos (by simp), if_pos (by omega), sure_f k (by omega)]
    rfl
theorem pureBack (L : List S45) (h : ∀ c ∈ L, wfC c) : ∃ k, mullionlaw05_PlanBack.f k L = some true := ⟨65, back_f 65 L (by omega)⟩
end Go.Proofs.YtmpnkckaohfflaaDoor.PGiv
