/- The last cell of a list of the call's own, written in place. Plain facts on the memory. No condition. -/
import Derived.Test.YtmpnkckaohfflaaDoorK1
namespace Go.Proofs.YtmpnkckaohfflaaDoor.PGiv
open Go.RowKit Go.Proofs.YtmpnkckaohfflaaDoorW.PrintWords Go.Proofs.YtmpnkckaohfflaaDoorW.PrintLast Go.Proofs.YtmpnkckaohfflaaDoorW.PrintMore Go.Proofs.YtmpnkckaohfflaaDoor.K
set_option linter.unusedVariables false
set_option linter.unusedSimpArgs false

theorem cell_new0 (w1 : World) (o : Obj) : (w1.alloc o).heap[w1.heap.size]? = some o ∧ (∀ k : Nat, k < w1.heap.size → (w1.alloc o).heap[k]? = w1.heap[k]?) ∧ (w1.alloc o).heap.size = w1.heap.size + 1 ∧ (∀ B, B ≤ w1.heap.size → Below B w1 (w1.alloc o)) := by
  have e : (w1.alloc o).heap = w1.heap.push o := rfl
  exact ⟨by rw [e]; simp, fun k hk => Below.heap_alloc w1 o k hk, by rw [e]; simp, fun B hB => (Below.refl B w1).alloc hB o⟩
theorem seg_ne {xs : List Value} {p m : Nat} {u : Value} (h : m * 7 + 7 ≤ p ∨ p < m * 7) : ((xs.set p u).drop (m * 7)).take 7 = (xs.drop (m * 7)).take 7 := by
  apply List.ext_getElem?
  intro i
  rw [List.getElem?_take, List.getElem?_take]
  split
  · rw [List.getElem?_drop, List.getElem?_drop, List.getElem?_set_ne (by omega)]
  · rfl
theorem seg_eq {xs : List Value} {m j : Nat} {u : Value} (hj : j < 7) : ((xs.set (m * 7 + j) u).drop (m * 7)).take 7 = ((xs.drop (m * 7)).take 7).set j u := by
  apply List.ext_getElem?
  intro i
  by_cases h : i = j
  · subst h
    have e : (i < ((xs.drop (m * 7)).take 7).length) ↔ (m * 7 + i < xs.length) := by
      rw [List.length_take, List.length_drop]
      omega
    rw [List.getElem?_take_of_lt hj, List.getElem?_drop, List.getElem?_set, List.getElem?_set]
    simp only [e, if_true]
  · rw [List.getElem?_set_ne (fun e => h e.symm), List.getElem?_take, List.getElem?_take]
    split
    · rw [List.getElem?_drop, List.getElem?_drop, List.getElem?_set_ne (by omega)]
    · rfl
/-- a number in the last cell is written -/
theorem row_set {w : World} {base n cap g : Nat} {ok : Nat → Prop} {L : List S45} {x x' : S45} {u : Value} {j : Nat} (h : Kd.R k45 45 w base ok (.slice (some ⟨g, 0, none⟩) n cap) (L ++ [x])) (hj : j < 7)
    (hx : [Value.int .i64 x'.f0, .int .i64 x'.f1, .int .i64 x'.f2, .int .i64 x'.f3, .int .i64 x'.f4, .int .i64 x'.f5, .int .i64 x'.f6] = [Value.int .i64 x.f0, .int .i64 x.f1, .int .i64 x.f2, .int .i64 x.f3, .int .i64 x.f4, .int .i64 x.f5, .int .i64 x.f6].set j u) :
    Kd.R k45 45 (w.setCell ⟨g, L.length * 7 + j, none⟩ u) base ok (.slice (some ⟨g, 0, none⟩) n cap) (L ++ [x']) := by
  obtain ⟨hok, inner, ⟨hl, hown⟩, hr1, hr2⟩ := h
  rcases hown with ⟨e, _⟩ | ⟨g', cap', cur, e, hb, hh, hnc, hcm, hcs, ht⟩
  · cases e
  injection e with e1 e2 e3
  injection e1 with e1
  injection e1 with e1
  subst e1 e3
  have hr1' : inner.length = (L ++ [x]).length * 7 := hr1
  have hn : (L ++ [x]).length = L.length + 1 := by simp
  have hsz : k45.sz = 7 := rfl
  have hn' : (L ++ [x']).length = L.length + 1 := by simp
  refine ⟨hok, inner.set (L.length * 7 + j) u, ⟨by rw [List.length_set, hl, hn, hn'], .inr ⟨g, cap, cur.setIfInBounds (L.length * 7 + j) u, by rw [e2, hn, hn'], hb, blk_set hh _ _, by rw [hn']; rw [hn] at hnc; exact hnc, hcm, by simpa using hcs, ?_⟩⟩, ?_⟩
  · have : (cur.setIfInBounds (L.length * 7 + j) u).toList = cur.toList.set (L.length * 7 + j) u := by simp
    rw [this, List.take_set]
    have ht' : cur.toList.take ((L ++ [x]).length * 7) = inner := ht
    rw [hn] at ht'
    rw [hn', hsz, ht']
  · refine ⟨by rw [List.length_set, hr1, hn, hn'], fun m p hm => ?_⟩
    by_cases hmL : m < L.length
    · have hm' : (L ++ [x])[m]? = some p := by rw [List.getElem?_append_left hmL] at hm ⊢; exact hm
      have h1 := hr2 m p hm'
      have h2 : ((inner.set (L.length * 7 + j) u).drop (m * 7)).take 7 = (inner.drop (m * 7)).take 7 := seg_ne (.inl (by omega))
      have h3 : k45.M w base (fun k => ok k ∧ some k ≠ (Value.slice (some ⟨g, 0, none⟩) n cap).ownBlock) p ((inner.drop (m * 7)).take 7) := h1
      have h4 := k45_openM h3
      show k45.M _ base _ p (((inner.set (L.length * 7 + j) u).drop (m * 7)).take 7)
      rw [h2, h4]
      exact k45_mkM _ _ _ p
    · have hmL' : m = L.length := by
        have := List.getElem?_eq_some_iff.1 hm
        obtain ⟨h, _⟩ := this
        simp at h
        omega
      subst hmL'
      have hp : p = x' := by simpa using hm.symm
      subst hp
      have h1 := hr2 L.length x (by simp)
      have h3 : k45.M w base (fun k => ok k ∧ some k ≠ (Value.slice (some ⟨g, 0, none⟩) n cap).ownBlock) x ((inner.drop (L.length * 7)).take 7) := h1
      have h4 := k45_openM h3
      show k45.M _ base _ p (((inner.set (L.length * 7 + j) u).drop (L.length * 7)).take 7)
      rw [seg_eq hj, h4, ← hx]
      exact k45_mkM _ _ _ p
/-- where the last cell lies, and what it holds -/
theorem row_last {w : World} {base : Nat} {ok : Nat → Prop} {L : List S45} {x : S45} {v : Value} (h : Kd.R k45 45 w base ok v (L ++ [x])) :
    ∃ g cap, v = .slice (some ⟨g, 0, none⟩) (L.length + 1) cap ∧ base ≤ g ∧ g < w.heap.size ∧ (∀ j, w.frozen? ⟨g, j, none⟩ = false) ∧
      (∀ j u, [Value.int .i64 x.f0, .int .i64 x.f1, .int .i64 x.f2, .int .i64 x.f3, .int .i64 x.f4, .int .i64 x.f5, .int .i64 x.f6][j]? = some u → w.cell? ⟨g, L.length * 7 + j, none⟩ = some u) := by
  obtain ⟨hok, inner, ⟨hl, hown⟩, hr1, hr2⟩ := h
  rcases hown with ⟨_, e⟩ | ⟨g, cap, cur, rfl, hb, hh, hnc, hcm, hcs, ht⟩
  · simp at e
  refine ⟨g, cap, by simp, hb, blk_lt hh, fun j => blk_frozen hh j, fun j u hu => ?_⟩
  have h1 := hr2 L.length x (by simp)
  have h3 : k45.M w base _ x ((inner.drop (L.length * 7)).take 7) := h1
  have h4 := k45_openM h3
  have hj : j < 7 := by
    have := List.getElem?_eq_some_iff.1 hu
    obtain ⟨h, _⟩ := this
    simpa using h
  rw [← h4, List.getElem?_take_of_lt hj, List.getElem?_drop] at hu
  have hin : inner[L.length * 7 + j]? = some u := hu
  rw [blk_cell hh]
  have ht' : cur.toList.take ((L ++ [x]).length * 7) = inner := ht
  rw [← ht', List.getElem?_take] at hin
  split at hin
  · simpa using hin
  · cases hin
end Go.Proofs.YtmpnkckaohfflaaDoor.PGiv
