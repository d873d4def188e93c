/- Layouts as trees: what grow reads is a good tree; its text, written and read. Plain, no program. -/
import Derived.Test.YtmpnkckaohfflaaDoorPl2
namespace Go.Proofs.YtmpnkckaohfflaaDoor.PGiv
open Go.RowKit Go.Proofs.YtmpnkckaohfflaaDoorW.PrintWords Go.Proofs.YtmpnkckaohfflaaDoor.K Go.Proofs.YtmpnkckaohfflaaDoor.Num Go.Proofs.YtmpnkckaohfflaaDoor.Txt
set_option linter.unusedVariables false
set_option linter.unusedSimpArgs false

def sumL (kind : Int) : List Tr → Int
  | [] => 0
  | k :: r => ext kind k.w k.h + 1 + sumL kind r
mutual
def goodT : Tr → Prop
  | ⟨kind, w, h, id, kids⟩ => (1 ≤ w ∧ w ≤ 1000 ∧ 1 ≤ h ∧ h ≤ 1000) ∧ ((kind = 1 ∧ 1 ≤ id ∧ id ≤ 4611686018427387904 ∧ kids = []) ∨ ((kind = 2 ∨ kind = 3) ∧ id = 0 ∧ 2 ≤ kids.length ∧ goodL kind w h kids ∧ sumL kind kids = ext kind w h + 1))
def goodL : Int → Int → Int → List Tr → Prop
  | _, _, _, [] => True
  | kind, W, H, k :: r => k.kind ≠ kind ∧ ext (5 - kind) k.w k.h = ext (5 - kind) W H ∧ goodT k ∧ goodL kind W H r
end
theorem goodT_def (kind w h id : Int) (kids : List Tr) : goodT ⟨kind, w, h, id, kids⟩ ↔ (1 ≤ w ∧ w ≤ 1000 ∧ 1 ≤ h ∧ h ≤ 1000) ∧ ((kind = 1 ∧ 1 ≤ id ∧ id ≤ 4611686018427387904 ∧ kids = []) ∨ ((kind = 2 ∨ kind = 3) ∧ id = 0 ∧ 2 ≤ kids.length ∧ goodL kind w h kids ∧ sumL kind kids = ext kind w h + 1)) := by
  rw [goodT]
theorem goodL_snoc (kind W H : Int) (t : Tr) : ∀ ks, goodL kind W H ks → t.kind ≠ kind → ext (5 - kind) t.w t.h = ext (5 - kind) W H → goodT t → goodL kind W H (ks ++ [t])
  | [], _, h1, h2, h3 => by rw [List.nil_append, goodL, goodL]; exact ⟨h1, h2, h3, trivial⟩
  | k :: r, h, h1, h2, h3 => by
    rw [goodL] at h
    rw [List.cons_append, goodL]
    exact ⟨h.1, h.2.1, h.2.2.1, goodL_snoc kind W H t r h.2.2.2 h1 h2 h3⟩
theorem sumL_snoc (kind : Int) (t : Tr) : ∀ ks, sumL kind (ks ++ [t]) = sumL kind ks + (ext kind t.w t.h + 1)
  | [] => by simp [sumL]
  | k :: r => by
    rw [List.cons_append, sumL, sumL, sumL_snoc kind t r]
    omega
theorem good_dim {t : Tr} (h : goodT t) : 1 ≤ t.w ∧ t.w ≤ 1000 ∧ 1 ≤ t.h ∧ t.h ≤ 1000 := by
  obtain ⟨kind, w, h', id, kids⟩ := t
  exact ((goodT_def _ _ _ _ _).1 h).1
theorem ext_rng {kind W H : Int} (h : 1 ≤ W ∧ W ≤ 1000 ∧ 1 ≤ H ∧ H ≤ 1000) : 1 ≤ ext kind W H ∧ ext kind W H ≤ 1000 := by
  unfold ext
  split <;> omega
theorem sumL_rng (kind W H : Int) : ∀ ks, goodL kind W H ks → 0 ≤ sumL kind ks ∧ sumL kind ks ≤ 1001 * ks.length
  | [], _ => by simp [sumL]
  | k :: r, h => by
    rw [goodL] at h
    have h1 := sumL_rng kind W H r h.2.2.2
    have h2 := ext_rng (kind := kind) (good_dim h.2.2.1)
    rw [sumL, List.length_cons]
    push_cast
    omega
/-- what read asks of a cell -/
def cellOK (c : S45) : Prop := (1 ≤ c.f4 ∧ c.f4 ≤ 1000 ∧ 1 ≤ c.f5 ∧ c.f5 ≤ 1000) ∧ ((c.f1 = 1 ∧ 1 ≤ c.f6 ∧ c.f6 ≤ 4611686018427387904) ∨ (c.f1 = 2 ∨ c.f1 = 3))
def panes (l : List S45) : List Int := (l.filter fun c => c.f1 == 1).map fun c => c.f6
theorem seen_ok : ∀ (l : List S45) (S S' : List Int), seenF l S = some S' → (∀ c ∈ l, cellOK c) ∧ S'.length = (panes l).length + S.length
  | [], S, S', h => by
    rw [seenF] at h
    obtain rfl := Option.some.inj h
    simp [panes]
  | c :: r, S, S', h => by
    rw [seenF_step] at h
    split at h
    · cases h
    rename_i hb
    split at h
    · rename_i hk
      split at h
      · cases h
      rename_i hid
      have hid1 : idB c.f6 = true := by
        cases hx : idB c.f6
        · exact absurd (Or.inl hx) hid
        · rfl
      simp [idB] at hid1
      obtain ⟨h1, h2⟩ := seen_ok r _ _ h
      refine ⟨fun x hx => ?_, ?_⟩
      · rcases List.mem_cons.1 hx with rfl | hx
        · exact ⟨by omega, .inl ⟨hk, hid1.1, hid1.2⟩⟩
        · exact h1 x hx
      · rw [h2]
        simp [panes, hk]
        omega
    · rename_i hk
      split at h
      · cases h
      rename_i hid
      have hkd : kindB c.f1 = true := by
        cases hx : kindB c.f1
        · exact absurd (Or.inr hx) hid
        · rfl
      simp [kindB] at hkd
      obtain ⟨h1, h2⟩ := seen_ok r _ _ h
      refine ⟨fun x hx => ?_, ?_⟩
      · rcases List.mem_cons.1 hx with rfl | hx
        · exact ⟨by omega, .inr hkd⟩
        · exact h1 x hx
      · rw [h2]
        simp [panes, hk]
theorem grow_good : ∀ k, (∀ l d t rest, l.length ≤ 1000 → (∀ c ∈ l, cellOK c) → growF k l d = some (some (t, rest)) → goodT t ∧ (∀ c r, l = c :: r → t.kind = c.f1) ∧ (∀ c ∈ rest, cellOK c) ∧ rest.length < l.length) ∧
    (∀ c d kids sum l t rest, kids.length + l.length ≤ 1000 → cellOK c → c.f1 ≠ 1 → (∀ c ∈ l, cellOK c) → goodL c.f1 c.f4 c.f5 kids → sum = sumL c.f1 kids - 1 → growL k c d kids sum l = some (some (t, rest)) → goodT t ∧ t.kind = c.f1 ∧ (∀ c ∈ rest, cellOK c) ∧ rest.length ≤ l.length) := by
  intro k
  induction k with
  | zero => exact ⟨fun l d t rest _ _ h => by simp [growF] at h, fun c d kids sum l t rest _ _ _ _ _ _ h => by simp [growL] at h⟩
  | succ k ih =>
    obtain ⟨ih1, ih2⟩ := ih
    constructor
    · intro l d t rest hl hok h
      cases l with
      | nil => simp [growF] at h
      | cons c r =>
        have hc := hok c List.mem_cons_self
        have hr : ∀ c ∈ r, cellOK c := fun x hx => hok x (List.mem_cons_of_mem _ hx)
        rw [growF] at h
        split at h
        · rename_i hk
          simp only [Option.some.injEq, Prod.mk.injEq] at h
          obtain ⟨rfl, rfl⟩ := h
          refine ⟨(goodT_def _ _ _ _ _).2 ⟨hc.1, .inl ⟨rfl, ?_⟩⟩, fun c' r' e => by injection e with e1 _; rw [← e1]; exact hk.symm, hr, by simp⟩
          rcases hc.2 with h | h
          · exact ⟨h.2.1, h.2.2, rfl⟩
          · omega
        · rename_i hk
          obtain ⟨h1, h2, h3, h4⟩ := ih2 c d [] (-1) r t rest (by simp at hl ⊢; omega) hc hk hr (by rw [goodL]; trivial) (by simp [sumL]) h
          exact ⟨h1, fun c' r' e => by injection e with e1 _; rw [← e1]; exact h2, h3, by simp; omega⟩
    · intro c d kids sum l t rest hl hc hk hok hg hs h
      have hs1 := sumL_rng _ _ _ kids hg
      have hw5 : wrap64 (5 - c.f1) = 5 - c.f1 := IntWalk.wrap64_in _ (by rcases hc.2 with h | h <;> omega)
      have tail : ∀ (l' : List S45), l' = l → (if kids.length < 2 then some none else if sum = ext c.f1 c.f4 c.f5 then some (some ((⟨c.f1, c.f4, c.f5, 0, kids⟩ : Tr), l')) else some none) = some (some (t, rest)) → goodT t ∧ t.kind = c.f1 ∧ (∀ c ∈ rest, cellOK c) ∧ rest.length ≤ l.length := by
        intro l' hl' ht
        subst hl'
        split at ht
        · simp at ht
        split at ht
        · rename_i hsum
          simp only [Option.some.injEq, Prod.mk.injEq] at ht
          obtain ⟨rfl, rfl⟩ := ht
          refine ⟨(goodT_def _ _ _ _ _).2 ⟨hc.1, .inr ⟨?_, rfl, by omega, hg, by omega⟩⟩, rfl, hok, Nat.le_refl _⟩
          rcases hc.2 with h | h
          · exact absurd h.1 hk
          · exact h
        · simp at ht
      cases l with
      | nil =>
        rw [growL, if_neg (by simp)] at h
        exact tail [] rfl h
      | cons x r =>
        rw [growL] at h
        split at h
        · split at h
          · simp at h
          · rename_i hx
            obtain ⟨g, hgr, h⟩ := Option.bind_eq_some_iff.1 h
            cases g with
            | none => simp at h
            | some tr =>
              obtain ⟨t', rest'⟩ := tr
              obtain ⟨g1, g2, g3, g4⟩ := ih1 _ _ _ _ (by omega) hok hgr
              simp only at h
              split at h
              · rename_i he
                have hkx : t'.kind ≠ c.f1 := by
                  rw [g2 x r rfl]
                  simpa using hx
                have h1 := ext_rng (kind := c.f1) (good_dim g1)
                have hkl : (kids.length : Int) ≤ 1000 := by omega
                have hsum : wrap64 (sum + wrap64 (ext c.f1 t'.w t'.h + 1)) = sumL c.f1 (kids ++ [t']) - 1 := by
                  rw [sumL_snoc, IntWalk.wrap64_in (ext c.f1 t'.w t'.h + 1) (by omega), IntWalk.wrap64_in _ (by omega)]
                  omega
                have := ih2 c d (kids ++ [t']) _ rest' t rest (by simp at hl g4 ⊢; omega) hc hk g3 (goodL_snoc _ _ _ _ _ hg hkx (by rw [hw5] at he; exact he) g1) hsum h
                exact ⟨this.1, this.2.1, this.2.2.1, by have := this.2.2.2; omega⟩
              · simp at h
        · exact tail (x :: r) rfl h

mutual
/-- a tree's text -/
def txtT : Tr → Int → Int → List UInt8
  | ⟨kind, w, h, id, kids⟩, x, y => putNum w ++ [120] ++ putNum h ++ [44] ++ putNum x ++ [44] ++ putNum y ++ (if kind = 1 then [44] ++ putNum id else [if kind = 3 then 91 else 123] ++ txtL kind true kids x y ++ [if kind = 3 then 93 else 125])
def txtL : Int → Bool → List Tr → Int → Int → List UInt8
  | _, _, [], _, _ => []
  | kind, first, k :: r, x, y => (if first then [] else [44]) ++ txtT k x y ++ txtL kind false r (if kind = 2 then wrap64 (x + wrap64 (k.w + 1)) else x) (if kind = 2 then y else wrap64 (y + wrap64 (k.h + 1)))
end
theorem layT_head (t : Tr) (d x y : Int) : ∃ c r, layT t d x y = c :: r ∧ c.f0 = d := by
  obtain ⟨kind, w, h, id, kids⟩ := t
  rw [layT]
  split
  · exact ⟨_, _, rfl, rfl⟩
  · exact ⟨_, _, rfl, rfl⟩
theorem layL_cons (kind : Int) (k : Tr) (r : List Tr) (d x y : Int) : layL kind (k :: r) d x y = layT k d x y ++ layL kind r d (if kind = 2 then wrap64 (x + wrap64 (k.w + 1)) else x) (if kind = 2 then y else wrap64 (y + wrap64 (k.h + 1))) := by rw [layL]
theorem txtL_cons (kind : Int) (first : Bool) (k : Tr) (r : List Tr) (x y : Int) : txtL kind first (k :: r) x y = (if first then [] else [44]) ++ txtT k x y ++ txtL kind false r (if kind = 2 then wrap64 (x + wrap64 (k.w + 1)) else x) (if kind = 2 then y else wrap64 (y + wrap64 (k.h + 1))) := by rw [txtL]
theorem cntT_mem (t : Tr) : ∀ ks : List Tr, t ∈ ks → cntT t ≤ cntL ks
  | k :: r, h => by
    rw [cntL]
    rcases List.mem_cons.1 h with rfl | h
    · omega
    · have := cntT_mem t r h
      omega
/-- what writer.cell writes of a tree's list is the tree's text -/
theorem write_list (kind : Int) (d : Int) : ∀ (ks : List Tr), (∀ t ∈ ks, ∀ (x y : Int) (F : Nat) (P Q : List S45), 2 * (layT t (d + 1) x y).length ≤ F → (∀ c, Q.head? = some c → c.f0 ≤ d + 1) → cellF F (P ++ layT t (d + 1) x y ++ Q) P.length = some (txtT t x y, P.length + (layT t (d + 1) x y).length)) →
    ∀ (x y : Int) (F : Nat) (P Q : List S45) (first : Bool), 2 * (layL kind ks (d + 1) x y).length + 1 ≤ F → (∀ c, Q.head? = some c → c.f0 ≤ d) →
      cellL F (P ++ layL kind ks (d + 1) x y ++ Q) d first P.length = some (txtL kind first ks x y, P.length + (layL kind ks (d + 1) x y).length)
  | [], _, x, y, F, P, Q, first, hF, hQ => by
    have := cellL_end (F := F) (P := P) (C := []) (Q := Q) (d := d) (first := first) (by omega) hQ
    rw [layL, txtL]
    simpa using this
  | k :: r, hk, x, y, F, P, Q, first, hF, hQ => by
    obtain ⟨F, rfl⟩ : ∃ m, F = m + 1 := ⟨F - 1, by omega⟩
    obtain ⟨c, rr, hc, hc0⟩ := layT_head k (d + 1) x y
    have hl : 1 ≤ (layT k (d + 1) x y).length := by rw [hc]; simp
    rw [layL_cons] at hF ⊢
    rw [txtL_cons]
    generalize hx' : (if kind = 2 then wrap64 (x + wrap64 (k.w + 1)) else x) = x' at *
    generalize hy' : (if kind = 2 then y else wrap64 (y + wrap64 (k.h + 1))) = y' at *
    rw [List.length_append] at hF
    have h1 := hk k List.mem_cons_self x y F P (layL kind r (d + 1) x' y' ++ Q) (by omega) (fun c hc => by
      cases r with
      | nil =>
        rw [layL, List.nil_append] at hc
        have := hQ c hc
        omega
      | cons k2 r2 =>
        obtain ⟨c2, rr2, hc2, hc20⟩ := layT_head k2 (d + 1) x' y'
        rw [layL_cons, hc2] at hc
        simp at hc
        rw [← hc]
        omega)
    have h2 := write_list kind d r (fun t ht => hk t (List.mem_cons_of_mem _ ht)) x' y' F (P ++ layT k (d + 1) x y) Q false (by omega) hQ
    have e1 : P ++ (layT k (d + 1) x y ++ layL kind r (d + 1) x' y') ++ Q = P ++ layT k (d + 1) x y ++ (layL kind r (d + 1) x' y' ++ Q) := by simp
    have e2 : P ++ layT k (d + 1) x y ++ (layL kind r (d + 1) x' y' ++ Q) = (P ++ layT k (d + 1) x y) ++ layL kind r (d + 1) x' y' ++ Q := by simp
    have hh : (P ++ layT k (d + 1) x y ++ (layL kind r (d + 1) x' y' ++ Q))[P.length]? = some c := by rw [hc]; exact at_head _ _ _ _
    rw [e1, cellL, hh]
    simp only
    rw [if_pos (by omega), h1]
    simp only [Option.bind_some]
    rw [List.length_append] at h2
    rw [e2, h2]
    simp only [Option.map_some, Option.some.injEq, Prod.mk.injEq, List.length_append]
    refine ⟨?_, by omega⟩
    first | trivial | rfl
theorem write_tree : ∀ (t : Tr) (d x y : Int) (F : Nat) (P Q : List S45), 0 ≤ d → d + cntT t ≤ 1000000 → 2 * (layT t d x y).length ≤ F → (∀ c, Q.head? = some c → c.f0 ≤ d) → cellF F (P ++ layT t d x y ++ Q) P.length = some (txtT t x y, P.length + (layT t d x y).length) := by
  refine Tr.ind ?_
  intro kind W H id kids ih d x y F P Q hd hcn hF hQ
  rw [cntT] at hcn
  obtain ⟨F, rfl⟩ : ∃ m, F = m + 1 := ⟨F - 1, by
    obtain ⟨c, r, hc, _⟩ := layT_head ⟨kind, W, H, id, kids⟩ d x y
    rw [hc] at hF
    simp at hF
    omega⟩
  rw [layT] at hF ⊢
  rw [txtT]
  by_cases hk : kind = 1
  · subst hk
    rw [if_pos rfl, if_pos rfl, cellF, at_head]
    simp only [if_true, Option.some.injEq, Prod.mk.injEq]
    exact ⟨by simp [headT], by simp⟩
  · rw [if_neg hk] at hF ⊢
    rw [if_neg hk, cellF, at_head]
    simp only
    have hw : wrap64 (d + 1) = d + 1 := IntWalk.wrap64_in _ (by omega)
    rw [hw] at hF ⊢
    rw [if_neg hk]
    have hcn' : ∀ t ∈ kids, cntT t ≤ cntL kids := fun t ht => cntT_mem t kids ht
    have h2 := write_list kind d kids (fun t ht x y F P Q hF hQ => ih t ht (d + 1) x y F P Q (by omega) (by have := hcn' t ht; omega) hF hQ) x y F (P ++ [⟨d, kind, x, y, W, H, 0⟩]) Q true (by simp at hF; omega) hQ
    have e : P ++ (⟨d, kind, x, y, W, H, 0⟩ : S45) :: layL kind kids (d + 1) x y ++ Q = (P ++ [⟨d, kind, x, y, W, H, 0⟩]) ++ layL kind kids (d + 1) x y ++ Q := by simp
    have el : P.length + 1 = (P ++ [(⟨d, kind, x, y, W, H, 0⟩ : S45)]).length := by simp
    rw [e, el, h2]
    simp only [Option.map_some, Option.some.injEq, Prod.mk.injEq]
    exact ⟨by simp [headT], by simp; omega⟩
end Go.Proofs.YtmpnkckaohfflaaDoor.PGiv
