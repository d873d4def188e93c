/- Of the texts of this claim, what it needs, put together by a program of this claim's author. Conditions: as each theorem says. -/
import Derived.Test.YtmpnkckaohfflaaDoorPtP5
section
namespace Go.Proofs.YtmpnkckaohfflaaDoor.PGiv
open Go.RowKit Go.Proofs.YtmpnkckaohfflaaDoorW.PrintWords Go.Proofs.YtmpnkckaohfflaaDoor.K Go.Proofs.YtmpnkckaohfflaaDoor.Num Go.Proofs.YtmpnkckaohfflaaDoor.Txt Go.Proofs.YtmpnkckaohfflaaDoor.L
set_option linter.unusedVariables false
set_option linter.unusedSimpArgs false
mutual
def gF : Nat → List S45 → Option (S72 × List S45)
 | 0, _ => none
 | _ + 1, [] => none
 | k + 1, c :: r => gL k c [] r
def gL : Nat → S45 → List S72 → List S45 → Option (S72 × List S45)
 | 0, _, _, _ => none
 | k + 1, c, kids, l => match l with
   | [] => some (⟨c.f1, c.f4, c.f5, c.f6, kids⟩, [])
   | x :: r => if c.f0 < x.f0 then (gF k (x :: r)).bind fun p => gL k c (kids ++ [p.1]) p.2 else some (⟨c.f1, c.f4, c.f5, c.f6, kids⟩, x :: r)
end
theorem g_drop : ∀ k, (∀ s t rest, gF k s = some (t, rest) → ∃ m, 1 ≤ m ∧ m ≤ s.length ∧ rest = s.drop m) ∧ (∀ c kids s t rest, gL k c kids s = some (t, rest) → ∃ m, m ≤ s.length ∧ rest = s.drop m) := by
 intro k
 induction k with
 | zero => exact ⟨fun s t rest h => by simp [gF] at h, fun c kids s t rest h => by simp [gL] at h⟩
 | succ k ih =>
   obtain ⟨ih1, ih2⟩ := ih
   constructor
   · intro s t rest h
     cases s with
     | nil => simp [gF] at h
     | cons c r =>
       rw [gF] at h
       obtain ⟨m, hm, e⟩ := ih2 _ _ _ _ _ h
       exact ⟨m + 1, by omega, by simp; omega, by rw [e]; rfl⟩
   · intro c kids s t rest h
     cases s with
     | nil =>
       simp only [gL, Option.some.injEq, Prod.mk.injEq] at h
       exact ⟨0, by simp, h.2.symm⟩
     | cons x r =>
       rw [gL] at h
       split at h
       · obtain ⟨⟨t1, r1⟩, h1, h2⟩ := Option.bind_eq_some_iff.1 h
         obtain ⟨m1, l1, l2, e1⟩ := ih1 _ _ _ h1
         obtain ⟨m2, l3, e2⟩ := ih2 _ _ _ _ _ h2
         simp only at e2 l3
         subst e1
         rw [List.length_drop] at l3
         exact ⟨m1 + m2, by omega, by rw [e2, List.drop_drop]⟩
       · simp only [Option.some.injEq, Prod.mk.injEq] at h
         exact ⟨0, by simp, h.2.symm⟩
mutual
def ofS : S72 → Tr
 | ⟨kind, w, h, id, kids⟩ => ⟨kind, w, h, id, ofL kids⟩
def ofL : List S72 → List Tr
 | [] => []
 | k :: r => ofS k :: ofL r
end
mutual
def toS : Tr → S72
 | ⟨kind, w, h, id, kids⟩ => ⟨kind, w, h, id, toL kids⟩
def toL : List Tr → List S72
 | [] => []
 | k :: r => toS k :: toL r
end
theorem ofL_map : ∀ ks, ofL ks = ks.map ofS
 | [] => by rw [ofL]; rfl
 | k :: r => by rw [ofL, ofL_map r]; rfl
theorem toL_map : ∀ ks, toL ks = ks.map toS
 | [] => by rw [toL]; rfl
 | k :: r => by rw [toL, toL_map r]; rfl
theorem toL_len (ks : List Tr) : (toL ks).length = ks.length := by rw [toL_map, List.length_map]
theorem of_to : ∀ t : Tr, ofS (toS t) = t := Tr.ind fun kind w h id kids ih => by
 rw [toS, ofS, toL_map, ofL_map, List.map_map]
 have : kids.map (ofS ∘ toS) = kids := (List.map_congr_left fun t ht => ih t ht).trans (List.map_id _)
 rw [this]
mutual
theorem to_of : ∀ n : S72, toS (ofS n) = n
 | ⟨kind, w, h, id, kids⟩ => by
   rw [ofS, toS, to_ofL kids]
theorem to_ofL : ∀ ks : List S72, toL (ofL ks) = ks
 | [] => by rw [ofL, toL]
 | k :: r => by rw [ofL, toL, to_of k, to_ofL r]
end
theorem gL_lay (kind d : Int) (hd1 : wrap64 (d + 1) = d + 1) : ∀ (ks : List Tr), (∀ t ∈ ks, ∀ (k : Nat) (x y : Int) (Q : List S45), goodT t → 2 * cntT t ≤ k → (∀ c, Q.head? = some c → c.f0 ≤ d + 1) → gF k (layT t (d + 1) x y ++ Q) = some (toS t, Q)) →
   ∀ (k : Nat) (c : S45) (acc : List S72) (W H x y : Int) (Q : List S45), c.f0 = d → goodL kind W H ks → 2 * cntL ks + 1 ≤ k → (∀ c, Q.head? = some c → c.f0 ≤ d) → gL k c acc (layL kind ks (d + 1) x y ++ Q) = some (⟨c.f1, c.f4, c.f5, c.f6, acc ++ toL ks⟩, Q)
 | [], _, k, c, acc, W, H, x, y, Q, hc, hg, hk, hQ => by
   obtain ⟨k, rfl⟩ : ∃ m, k = m + 1 := ⟨k - 1, by omega⟩
   rw [layL, toL, List.append_nil, List.nil_append]
   cases Q with
   | nil => rw [gL]
   | cons q Q =>
     have := hQ q rfl
     rw [gL]
     rw [if_neg (by omega)]
 | t :: r, ih, k, c, acc, W, H, x, y, Q, hc, hg, hk, hQ => by
   obtain ⟨k, rfl⟩ : ∃ m, k = m + 1 := ⟨k - 1, by omega⟩
   rw [cntL] at hk
   rw [goodL] at hg
   obtain ⟨q, qs, hq, hq0⟩ := layT_head t (d + 1) x y
   rw [layL_cons, List.append_assoc]
   generalize (if kind = 2 then wrap64 (x + wrap64 (t.w + 1)) else x) = x'
   generalize (if kind = 2 then y else wrap64 (y + wrap64 (t.h + 1))) = y'
   have h1 := ih t List.mem_cons_self k x y (layL kind r (d + 1) x' y' ++ Q) hg.2.2.1 (by omega) (fun e he => by
     cases r with
     | nil =>
       rw [layL, List.nil_append] at he
       have := hQ e he
       omega
     | cons t2 r2 =>
       obtain ⟨q2, qs2, hq2, hq20⟩ := layT_head t2 (d + 1) x' y'
       rw [layL_cons, hq2] at he
       simp at he
       rw [← he]
       omega)
   have h2 := gL_lay kind d hd1 r (fun t ht => ih t (List.mem_cons_of_mem _ ht)) k c (acc ++ [toS t]) W H x' y' Q hc hg.2.2.2 (by have := cntT_pos t; omega) hQ
   rw [hq] at h1 ⊢
   rw [List.cons_append] at h1 ⊢
   rw [gL]
   rw [if_pos (by omega), h1]
   simp only [Option.bind_some]
   rw [h2, toL]
   simp
theorem gF_lay : ∀ (t : Tr) (k : Nat) (d x y : Int) (Q : List S45), goodT t → 2 * cntT t ≤ k → 0 ≤ d → d + cntT t ≤ 1000000 → (∀ c, Q.head? = some c → c.f0 ≤ d) → gF k (layT t d x y ++ Q) = some (toS t, Q) := by
 refine Tr.ind ?_
 intro kind W H id kids ih k d x y Q hg hk hd hdc hQ
 rw [cntT] at hk hdc
 obtain ⟨k, rfl⟩ : ∃ m, k = m + 1 := ⟨k - 1, by omega⟩
 obtain ⟨hdim, hkk⟩ := (goodT_def _ _ _ _ _).1 hg
 rw [layT, toS]
 rcases hkk with ⟨rfl, hi0, hi1, rfl⟩ | ⟨hkk, rfl, hlen, hgl, hsum⟩
 · rw [if_pos rfl, List.cons_append, List.nil_append, gF]
   obtain ⟨k, rfl⟩ : ∃ m, k = m + 1 := ⟨k - 1, by omega⟩
   cases Q with
   | nil => rw [gL, toL]
   | cons q Q =>
     have hq : q.f0 ≤ d := hQ q rfl
     rw [gL]
     rw [if_neg (show ¬ d < q.f0 by omega), toL]
 · have hk1 : kind ≠ 1 := by omega
   have hw : wrap64 (d + 1) = d + 1 := IntWalk.wrap64_in _ (by omega)
   rw [if_neg hk1, List.cons_append, gF, hw]
   have := gL_lay kind d hw kids (fun t ht k x y Q hg hk hQ => ih t ht k (d + 1) x y Q hg hk (by omega) (by have := cntT_mem t kids ht; omega) hQ) k ⟨d, kind, x, y, W, H, 0⟩ [] W H x y Q rfl hgl (by omega) hQ
   rw [this]
   simp
theorem g_cnt : ∀ k, (∀ s t rest, gF k s = some (t, rest) → cntT (ofS t) + rest.length = s.length) ∧ (∀ c kids s t rest, gL k c kids s = some (t, rest) → cntT (ofS t) + rest.length = 1 + cntL (ofL kids) + s.length) := by
 intro k
 induction k with
 | zero => exact ⟨fun s t rest h => by simp [gF] at h, fun c kids s t rest h => by simp [gL] at h⟩
 | succ k ih =>
   obtain ⟨ih1, ih2⟩ := ih
   constructor
   · intro s t rest h
     cases s with
     | nil => simp [gF] at h
     | cons c r =>
       rw [gF] at h
       have := ih2 _ _ _ _ _ h
       rw [ofL, cntL] at this
       rw [List.length_cons]
       omega
   · intro c kids s t rest h
     have done : ∀ (l : List S45), some ((⟨c.f1, c.f4, c.f5, c.f6, kids⟩ : S72), l) = some (t, rest) → cntT (ofS t) + rest.length = 1 + cntL (ofL kids) + l.length := fun l e => by
       simp only [Option.some.injEq, Prod.mk.injEq] at e
       obtain ⟨rfl, rfl⟩ := e
       rw [ofS, cntT]
     cases s with
     | nil =>
       rw [gL] at h
       exact done [] h
     | cons x r =>
       rw [gL] at h
       split at h
       · obtain ⟨⟨t1, r1⟩, h1, h2⟩ := Option.bind_eq_some_iff.1 h
         have e1 := ih1 _ _ _ h1
         have e2 := ih2 _ _ _ _ _ h2
         have e3 : cntL (ofL (kids ++ [t1])) = cntL (ofL kids) + cntT (ofS t1) := by
           rw [ofL_map, ofL_map, List.map_append]
           generalize kids.map ofS = ks
           induction ks with
           | nil => simp [cntL]
           | cons a b ihb =>
             rw [List.cons_append, cntL, cntL, ihb]
             omega
         simp only at e2
         rw [e3] at e2
         omega
       · exact done _ h
theorem g_whole : ∀ k c kids s t rest, (∀ x ∈ s, c.f0 < x.f0) → gL k c kids s = some (t, rest) → rest = [] := by
 intro k
 induction k with
 | zero => intro c kids s t rest _ h; simp [gL] at h
 | succ k ih =>
   intro c kids s t rest hs h
   cases s with
   | nil =>
     simp only [gL, Option.some.injEq, Prod.mk.injEq] at h
     exact h.2.symm
   | cons x r =>
     rw [gL] at h
     rw [if_pos (hs x List.mem_cons_self)] at h
     obtain ⟨⟨t1, r1⟩, h1, h2⟩ := Option.bind_eq_some_iff.1 h
     obtain ⟨m, _, _, e⟩ := (g_drop k).1 _ _ _ h1
     exact ih _ _ _ _ _ (fun y hy => hs y (by rw [e] at hy; exact List.mem_of_mem_drop hy)) h2
theorem g_some : ∀ k, (∀ s, s ≠ [] → 2 * s.length ≤ k → ∃ r, gF k s = some r) ∧ (∀ c kids s, 2 * s.length + 1 ≤ k → ∃ r, gL k c kids s = some r) := by
 intro k
 induction k with
 | zero =>
   refine ⟨fun s h1 h2 => ?_, fun c kids s h => by omega⟩
   cases s with
   | nil => exact absurd rfl h1
   | cons x r => simp at h2
 | succ k ih =>
   obtain ⟨ih1, ih2⟩ := ih
   constructor
   · intro s h1 h2
     cases s with
     | nil => exact absurd rfl h1
     | cons c r =>
       rw [gF]
       exact ih2 _ _ _ (by simp at h2; omega)
   · intro c kids s h
     cases s with
     | nil => exact ⟨_, by rw [gL]⟩
     | cons x r =>
       rw [gL]
       split
       · obtain ⟨⟨t1, r1⟩, h1⟩ := ih1 (x :: r) (by simp) (by simp at h ⊢; omega)
         rw [h1]
         simp only [Option.bind_some]
         obtain ⟨m, l1, l2, e⟩ := (g_drop k).1 _ _ _ h1
         have : r1.length ≤ r.length := by rw [e, List.length_drop]; simp; omega
         exact ih2 _ _ _ (by simp at h; omega)
       · exact ⟨_, rfl⟩
theorem grown_eq : ∀ k, (∀ (l : List S45) (i : Nat) t rest, l.length ≤ 1000 → gF k (l.drop i) = some (t, rest) → mullionref04_grown.f k l (i : Int) = some (t.f0, t.f1, t.f2, t.f3, t.f4, ((l.length - rest.length : Nat) : Int))) ∧
   (∀ (c : S45) (kids : List S72) (l : List S45) (j : Nat) t rest, l.length ≤ 1000 → j ≤ l.length → kids.length ≤ j → gL k c kids (l.drop j) = some (t, rest) → mullionref04_grown.l0 k l (j : Int) c.f0 c.f1 c.f2 c.f3 c.f4 c.f5 c.f6 c.f1 c.f4 c.f5 c.f6 kids = some (t.f0, t.f1, t.f2, t.f3, t.f4, ((l.length - rest.length : Nat) : Int))) := by
 intro k
 induction k with
 | zero => exact ⟨fun l i t rest _ h => by simp [gF] at h, fun c kids l j t rest _ _ _ h => by simp [gL] at h⟩
 | succ k ih =>
   obtain ⟨ih1, ih2⟩ := ih
   constructor
   · intro l i t rest hl h
     by_cases hi : i < l.length
     · have hdr : l.drop i = l[i] :: l.drop (i + 1) := List.drop_eq_getElem_cons hi
       rw [hdr, gF] at h
       rw [mullionref04_grown.f, if_pos (by omega), if_pos (by omega), rd_at l i hi, IntWalk.wrap64_in _ (by omega)]
       exact ih2 l[i] [] l (i + 1) t rest hl (by omega) (by simp) h
     · rw [List.drop_eq_nil_of_le (by omega)] at h
       simp [gF] at h
   · intro c kids l j t rest hl hj hk h
     by_cases hi : j < l.length
     · have hdr : l.drop j = l[j] :: l.drop (j + 1) := List.drop_eq_getElem_cons hi
       rw [mullionref04_grown.l0, if_pos (by omega), if_pos (by omega), rd_at l j hi]
       rw [hdr, gL] at h
       by_cases hd : c.f0 < l[j].f0
       · rw [if_pos hd] at h
         rw [if_pos hd]
         obtain ⟨⟨t1, r1⟩, E1, E2⟩ := Option.bind_eq_some_iff.1 h
         rw [← hdr] at E1
         obtain ⟨m, m1, m2, hr1⟩ := (g_drop k).1 _ _ _ E1
         rw [List.drop_drop] at hr1
         rw [List.length_drop] at m2
         rw [ih1 l j t1 r1 hl E1]
         simp only [Option.bind_some]
         rw [if_pos (by omega)]
         have hn : l.length - r1.length = j + m := by rw [hr1, List.length_drop]; omega
         rw [hn]
         simp only at E2
         rw [hr1] at E2
         have := ih2 c (kids ++ [t1]) l (j + m) t rest hl (by omega) (by rw [List.length_append]; simp; omega) E2
         obtain ⟨a0, a1, a2, a3, a4⟩ := t1
         exact this
       · rw [if_neg hd] at h
         rw [if_neg (show ¬ l[j].f0 > c.f0 from hd)]
         simp only [Option.some.injEq, Prod.mk.injEq] at h
         obtain ⟨rfl, rfl⟩ := h
         rw [← hdr, List.length_drop]
         have : l.length - (l.length - j) = j := by omega
         rw [this]
     · rw [mullionref04_grown.l0, if_neg (by omega)]
       rw [List.drop_eq_nil_of_le (by omega)] at h
       simp only [gL, Option.some.injEq, Prod.mk.injEq] at h
       obtain ⟨rfl, rfl⟩ := h
       have : l.length - ([] : List S45).length = j := by simp; omega
       rw [this]
theorem rd_toL (ks : List Tr) (i : Nat) (h : i < ks.length) : rd_T72 (toL ks) (i : Int) = toS ks[i] := by
 rw [toL_map]
 simp [rd_T72, List.getD_eq_getElem?_getD, List.getElem?_map, List.getElem?_eq_getElem h]
theorem toS_f (t : Tr) : (toS t).f0 = t.kind ∧ (toS t).f1 = t.w ∧ (toS t).f2 = t.h ∧ (toS t).f3 = t.id ∧ (toS t).f4 = toL t.kids := by
 obtain ⟨kind, w, h, id, kids⟩ := t
 rw [toS]
 exact ⟨rfl, rfl, rfl, rfl, rfl⟩
mutual
def idsT : Tr → List Int
 | ⟨kind, _, _, id, kids⟩ => if kind = 1 then [id] else idsL kids
def idsL : List Tr → List Int
 | [] => []
 | k :: r => idsT k ++ idsL r
end
theorem idsL_len : ∀ ks : List Tr, (∀ t ∈ ks, (idsT t).length ≤ cntT t) → (idsL ks).length ≤ cntL ks
 | [], _ => by rw [idsL, cntL]; simp
 | k :: r, h => by
   have h1 := h k List.mem_cons_self
   have h2 := idsL_len r fun t ht => h t (List.mem_cons_of_mem _ ht)
   rw [idsL, cntL, List.length_append]
   omega
theorem idsT_len : ∀ t : Tr, (idsT t).length ≤ cntT t := Tr.ind fun kind w h id kids ih => by
 rw [idsT, cntT]
 have := idsL_len kids ih
 split
 · simp
 · omega
theorem ids_loop (kind w h id : Int) (kids : List Tr) (hk : kids.length ≤ 1000000) (ih : ∀ t ∈ kids, ∀ k, 2 * cntT t ≤ k → mullionref04_Ids.f k t.kind t.w t.h t.id (toL t.kids) = some (idsT t)) :
   ∀ (r : List Tr) (i : Nat) (L : List Int) (k : Nat), kids.drop i = r → i ≤ kids.length → L.length + cntL r ≤ 1000000 → 2 * cntL r + 1 ≤ k → mullionref04_Ids.l0 k L (i : Int) kind w h id (toL kids) = some (L ++ idsL r)
 | [], i, L, k, hr, hi, hL, hf => by
   have hi' : kids.length ≤ i := by
     have := congrArg List.length hr
     rw [List.length_drop] at this
     simp at this
     omega
   obtain ⟨k, rfl⟩ : ∃ m, k = m + 1 := ⟨k - 1, by omega⟩
   rw [mullionref04_Ids.l0, if_neg (by rw [toL_len]; omega), idsL, List.append_nil]
 | t :: r, i, L, k, hr, hi, hL, hf => by
   have hi' : i < kids.length := by
     have := congrArg List.length hr
     rw [List.length_drop] at this
     simp at this
     omega
   have hc := List.drop_eq_getElem_cons hi'
   rw [hr] at hc
   injection hc with e1 e2
   rw [cntL] at hL hf
   have hpos := cntT_pos t
   obtain ⟨k, rfl⟩ : ∃ m, k = m + 1 := ⟨k - 1, by omega⟩
   obtain ⟨a0, a1, a2, a3, a4⟩ := toS_f t
   rw [mullionref04_Ids.l0, if_pos (by rw [toL_len]; omega), if_pos (by omega), rd_toL kids i hi', ← e1, a0, a1, a2, a3, a4, ih t (by rw [e1]; exact List.getElem_mem hi') k (by omega)]
   simp only [Option.bind_some]
   have := idsT_len t
   rw [if_pos (by omega), IntWalk.wrap64_in _ (by omega)]
   have := ids_loop kind w h id kids hk ih r (i + 1) (L ++ idsT t) k e2.symm (by omega) (by rw [List.length_append]; omega) (by omega)
   rw [show ((i : Int) + 1) = ((i + 1 : Nat) : Int) from rfl, this, idsL, List.append_assoc]
theorem ids_f : ∀ (t : Tr) (k : Nat), cntT t ≤ 1000000 → 2 * cntT t ≤ k → mullionref04_Ids.f k t.kind t.w t.h t.id (toL t.kids) = some (idsT t) := by
 refine Tr.ind ?_
 intro kind w h id kids ih k hc hk
 rw [cntT] at hc hk
 obtain ⟨k, rfl⟩ : ∃ m, k = m + 1 := ⟨k - 1, by omega⟩
 rw [mullionref04_Ids.f, idsT]
 by_cases e : kind = 1
 · rw [if_pos e, if_pos e]
 · rw [if_neg e, if_neg e]
   have hl := len_cntL kids
   have := ids_loop kind w h id kids (by omega) (fun t ht k hk' => ih t ht k (by have := cntT_mem t kids ht; omega) hk') kids 0 [] k rfl (by omega) (by simp; omega) (by omega)
   exact this
theorem rdI (l : List Int) (i : Nat) (h : i < l.length) : rd l (i : Int) = l[i] := by
 simp [rd, List.getD_eq_getElem?_getD, List.getElem?_eq_getElem h]
open Classical in
theorem twice_l1 (l : List Int) (i : Nat) (hi : i < l.length) (hl : l.length ≤ 1000000) : ∀ m j k, j + m = i → m + 1 ≤ k → mullionref04_twice.l1 k l (i : Int) (j : Int) = if ∃ a, j ≤ a ∧ a < i ∧ l.getD a 0 = l.getD i 0 then some true else mullionref04_twice.l0 (k - m - 1) l ((i + 1 : Nat) : Int)
 | 0, j, k, e, hk => by
   obtain ⟨k, rfl⟩ : ∃ m, k = m + 1 := ⟨k - 1, by omega⟩
   rw [mullionref04_twice.l1, if_neg (by omega), if_neg (by rintro ⟨a, h1, h2, _⟩; omega), IntWalk.wrap64_in _ (by omega)]
   rfl
 | m + 1, j, k, e, hk => by
   obtain ⟨k, rfl⟩ : ∃ m, k = m + 1 := ⟨k - 1, by omega⟩
   have hj : j < l.length := by omega
   have e1 : l.getD j 0 = l[j] := by simp [List.getD_eq_getElem?_getD, List.getElem?_eq_getElem hj]
   have e2 : l.getD i 0 = l[i] := by simp [List.getD_eq_getElem?_getD, List.getElem?_eq_getElem hi]
   rw [mullionref04_twice.l1, if_pos (by omega), if_pos (by omega), if_pos (by omega), if_pos (by omega), if_pos (by omega), rdI l j hj, rdI l i hi]
   by_cases h : l[j] = l[i]
   · rw [if_pos h, if_pos ⟨j, by omega, by omega, by rw [e1, e2]; exact h⟩]
   · rw [if_neg h, IntWalk.wrap64_in _ (by omega)]
     have := twice_l1 l i hi hl m (j + 1) k (by omega) (by omega)
     rw [show ((j : Int) + 1) = ((j + 1 : Nat) : Int) from rfl, this]
     have e3 : k + 1 - (m + 1) - 1 = k - m - 1 := by omega
     rw [e3]
     have e4 : (∃ a, j + 1 ≤ a ∧ a < i ∧ l.getD a 0 = l.getD i 0) ↔ ∃ a, j ≤ a ∧ a < i ∧ l.getD a 0 = l.getD i 0 := by
       constructor
       · rintro ⟨a, h1, h2, h3⟩
         exact ⟨a, by omega, h2, h3⟩
       · rintro ⟨a, h1, h2, h3⟩
         refine ⟨a, ?_, h2, h3⟩
         rcases Nat.lt_or_ge j a with h4 | h4
         · omega
         · obtain rfl : a = j := by omega
           rw [e1, e2] at h3
           exact absurd h3 h
     simp only [e4]
open Classical in
theorem twice_l0 (l : List Int) (hl : l.length ≤ 1000000) : ∀ m i k, i + m = l.length → (l.length + 2) * m + 1 ≤ k → mullionref04_twice.l0 k l (i : Int) = some (decide (∃ b, i ≤ b ∧ b < l.length ∧ ∃ a, a < b ∧ l.getD a 0 = l.getD b 0))
 | 0, i, k, e, hk => by
   obtain ⟨k, rfl⟩ : ∃ m, k = m + 1 := ⟨k - 1, by omega⟩
   rw [mullionref04_twice.l0, if_neg (by omega), decide_eq_false (by rintro ⟨b, h1, h2, _⟩; omega)]
 | m + 1, i, k, e, hk => by
   have hm : (l.length + 2) * (m + 1) = (l.length + 2) * m + l.length + 2 := by rw [Nat.mul_add]; omega
   obtain ⟨k, rfl⟩ : ∃ m, k = m + 1 := ⟨k - 1, by omega⟩
   rw [mullionref04_twice.l0, if_pos (by omega)]
   have : mullionref04_twice.l1 k l (i : Int) 0 = _ := twice_l1 l i (by omega) hl i 0 k (by omega) (by omega)
   rw [this]
   by_cases h : ∃ a, 0 ≤ a ∧ a < i ∧ l.getD a 0 = l.getD i 0
   · rw [if_pos h, decide_eq_true]
     obtain ⟨a, _, h2, h3⟩ := h
     exact ⟨i, by omega, by omega, a, h2, h3⟩
   · rw [if_neg h, twice_l0 l hl m (i + 1) _ (by omega) (by omega)]
     congr 1
     have e4 : (∃ b, i + 1 ≤ b ∧ b < l.length ∧ ∃ a, a < b ∧ l.getD a 0 = l.getD b 0) ↔ ∃ b, i ≤ b ∧ b < l.length ∧ ∃ a, a < b ∧ l.getD a 0 = l.getD b 0 := by
       constructor
       · rintro ⟨b, h1, h2⟩
         exact ⟨b, by omega, h2⟩
       · rintro ⟨b, h1, h2, a, h3, h4⟩
         refine ⟨b, ?_, h2, a, h3, h4⟩
         rcases Nat.lt_or_ge i b with h5 | h5
         · omega
         · obtain rfl : b = i := by omega
           exact absurd ⟨a, by omega, h3, h4⟩ h
     simp only [e4]
open Classical in
theorem twice_f (l : List Int) (k : Nat) (hl : l.length ≤ 1000000) (hk : (l.length + 2) * l.length + 1 ≤ k) : mullionref04_twice.f k l = some (decide (¬ l.Nodup)) := by
 rw [mullionref04_twice.f]
 have : mullionref04_twice.l0 k l 0 = _ := twice_l0 l hl l.length 0 k (by omega) hk
 rw [this]
 congr 1
 have e4 : (∃ b, 0 ≤ b ∧ b < l.length ∧ ∃ a, a < b ∧ l.getD a 0 = l.getD b 0) ↔ ¬ l.Nodup := by
   have at' : ∀ (i : Nat) (h : i < l.length), l.getD i 0 = l[i] := fun i h => by simp [List.getD_eq_getElem?_getD, List.getElem?_eq_getElem h]
   rw [List.Nodup, List.pairwise_iff_getElem]
   constructor
   · rintro ⟨b, _, h2, a, h3, h4⟩ hn
     rw [at' a (by omega), at' b h2] at h4
     exact hn a b (by omega) h2 h3 h4
   · intro hn
     refine Classical.byContradiction fun h => hn fun a b ha hb hab he => h ⟨b, by omega, hb, a, hab, ?_⟩
     rw [at' a ha, at' b hb]
     exact he
 simp only [e4]
end Go.Proofs.YtmpnkckaohfflaaDoor.PGiv
end
section
namespace Go.Proofs.YtmpnkckaohfflaaDoor.PGiv
open Go.RowKit Go.Proofs.YtmpnkckaohfflaaDoorW.PrintWords Go.Proofs.YtmpnkckaohfflaaDoor.K Go.Proofs.YtmpnkckaohfflaaDoor.Num Go.Proofs.YtmpnkckaohfflaaDoor.Txt Go.Proofs.YtmpnkckaohfflaaDoor.L
set_option linter.unusedVariables false
set_option linter.unusedSimpArgs false
theorem goodL_mem (kind W H : Int) (t : Tr) : ∀ ks, goodL kind W H ks → t ∈ ks → t.kind ≠ kind ∧ ext (5 - kind) t.w t.h = ext (5 - kind) W H ∧ goodT t ∧ ext kind t.w t.h + 1 ≤ sumL kind ks
 | [], _, h => by simp at h
 | k :: r, hg, h => by
   rw [goodL] at hg
   have h1 := sumL_rng _ _ _ r hg.2.2.2
   rw [sumL]
   rcases List.mem_cons.1 h with rfl | h
   · exact ⟨hg.1, hg.2.1, hg.2.2.1, by omega⟩
   · obtain ⟨a, b, c, d⟩ := goodL_mem kind W H t r hg.2.2.2 h
     have := ext_rng (kind := kind) (good_dim hg.2.2.1)
     exact ⟨a, b, c, by omega⟩
theorem drop_cases {α : Type} {l r : List α} {i : Nat} (h : l.drop i = r) (hi : i ≤ l.length) : (r = [] ∧ i = l.length) ∨ (∃ (t : α) (r' : List α) (hi' : i < l.length), r = t :: r' ∧ l[i] = t ∧ l.drop (i + 1) = r') := by
 rcases Nat.lt_or_ge i l.length with h' | h'
 · have hc := List.drop_eq_getElem_cons h'
   exact .inr ⟨_, _, h', by rw [← h, hc], rfl, rfl⟩
 · exact .inl ⟨by rw [← h, List.drop_eq_nil_of_le h'], by omega⟩
theorem ext_eq (k a b c d : Int) (l : List S72) : mullionref04_extent.f a b c d l k = some (ext k b c) := by
 rw [mullionref04_extent.f, ext]
 split <;> rfl
theorem sizes_j3 (k : Nat) (s : Int) (i : Nat) (kind w h id : Int) (l l' : List S72) (a b c d : Int) (hk : kind = 2 ∨ kind = 3) (hi : i ≤ 1000000) :
   mullionref04_sizes.j3 (k + 1) s (i : Int) false kind w h id l a b c d l' = if ext (5 - kind) b c = ext (5 - kind) w h then mullionref04_sizes.l0 k (wrap64 (s + ext kind b c)) ((i + 1 : Nat) : Int) kind w h id l else some false := by
 rw [mullionref04_sizes.j3, if_neg (by simp)]
 have hw : wrap64 ((i : Int) + 1) = ((i + 1 : Nat) : Int) := (IntWalk.wrap64_in _ (by omega)).trans rfl
 rcases hk with rfl | rfl
 · rw [if_pos rfl]
   by_cases e : c = h
   · rw [if_pos e, if_neg (by decide), ext_eq, hw, if_pos (show ext (5 - 2) b c = ext (5 - 2) w h from e)]
     rfl
   · rw [if_neg e, if_neg (show ¬ ext (5 - 2) b c = ext (5 - 2) w h from e)]
 · rw [if_neg (by decide), if_pos rfl]
   by_cases e : b = w
   · rw [if_pos e, ext_eq, hw, if_pos (show ext (5 - 3) b c = ext (5 - 3) w h from e)]
     rfl
   · rw [if_neg e, if_neg (show ¬ ext (5 - 3) b c = ext (5 - 3) w h from e)]
theorem sizes_j3t (k : Nat) (s i kind w h id : Int) (l l' : List S72) (a b c d : Int) : mullionref04_sizes.j3 (k + 1) s i true kind w h id l a b c d l' = some false := by
 rw [mullionref04_sizes.j3, if_pos rfl]
theorem sizes_loop (kind w h id : Int) (kids : List Tr) (hk : kind = 2 ∨ kind = 3) (hw : w ≤ 1000) (hh : h ≤ 1000) (hn : kids.length ≤ 1000000)
   (ih : ∀ t ∈ kids, ∀ k, 5 * cntT t ≤ k → t.w ≤ 1000 → t.h ≤ 1000 → ∃ b, mullionref04_sizes.f k t.kind t.w t.h t.id (toL t.kids) = some b ∧ (b = true ↔ goodT t)) :
   ∀ (r : List Tr) (i : Nat) (s : Int) (k : Nat), kids.drop i = r → i ≤ kids.length → 0 ≤ s → s + 1001 * r.length ≤ 4000000000 → 5 * cntL r + 1 ≤ k →
     ∃ b, mullionref04_sizes.l0 k s (i : Int) kind w h id (toL kids) = some b ∧ (b = true ↔ (∀ t ∈ r, t.w ≤ w ∧ t.h ≤ h) ∧ goodL kind w h r ∧ s + sumL kind r - r.length = ext kind w h)
 | [], i, s, k, hr, hi, hs0, hs1, hf => by
   rcases drop_cases hr hi with ⟨_, e⟩ | ⟨_, _, _, e, _⟩
   · obtain ⟨k, rfl⟩ : ∃ m, k = m + 1 := ⟨k - 1, by omega⟩
     refine ⟨s == ext kind w h, ?_, ?_⟩
     · rw [mullionref04_sizes.l0, if_neg (by rw [toL_len]; omega), ext_eq]
       rfl
     · rw [goodL, sumL]
       simp
   · cases e
 | t :: r, i, s, k, hr, hi, hs0, hs1, hf => by
   rcases drop_cases hr hi with ⟨e, _⟩ | ⟨t', r', hi', e, e1, e2⟩
   · cases e
   · injection e with ea eb
     subst ea eb
     rw [cntL] at hf
     rw [List.length_cons] at hs1
     have hpos := cntT_pos t
     have ht : t ∈ kids := by rw [← e1]; exact List.getElem_mem hi'
     obtain ⟨k, rfl⟩ : ∃ m, k = m + 1 + 1 := ⟨k - 2, by omega⟩
     obtain ⟨a0, a1, a2, a3, a4⟩ := toS_f t
     rw [mullionref04_sizes.l0, if_pos (by rw [toL_len]; omega), if_pos (by omega), rd_toL kids i hi', e1, a0, a1, a2, a3, a4, goodL]
     by_cases c1 : t.kind = kind
     · rw [if_pos c1, sizes_j3t]
       exact ⟨false, rfl, by simp [c1]⟩
     rw [if_neg c1]
     by_cases c2 : t.w > w
     · rw [if_pos c2, sizes_j3t]
       refine ⟨false, rfl, by simp, fun h => absurd (h.1 t List.mem_cons_self).1 (by omega)⟩
     rw [if_neg c2]
     by_cases c3 : t.h > h
     · rw [if_pos c3, sizes_j3t]
       refine ⟨false, rfl, by simp, fun h => absurd (h.1 t List.mem_cons_self).2 (by omega)⟩
     rw [if_neg c3]
     obtain ⟨b, hb, hg⟩ := ih t ht (k + 1) (by omega) (by omega) (by omega)
     rw [hb]
     simp only [Option.bind_some]
     cases b with
     | false =>
       rw [Bool.not_false, sizes_j3t]
       exact ⟨false, rfl, by simp, fun h => hg.2 h.2.1.2.2.1⟩
     | true =>
       have g := hg.1 rfl
       rw [Bool.not_true, sizes_j3 _ _ _ _ _ _ _ _ _ _ _ _ _ hk (by omega)]
       by_cases c4 : ext (5 - kind) t.w t.h = ext (5 - kind) w h
       · rw [if_pos c4]
         have hx := ext_rng (kind := kind) (good_dim g)
         rw [IntWalk.wrap64_in (s + ext kind t.w t.h) (by omega)]
         obtain ⟨b, hb1, hb2⟩ := sizes_loop kind w h id kids hk hw hh hn ih r (i + 1) (s + ext kind t.w t.h) k e2 (by omega) (by omega) (by push_cast at hs1 ⊢; omega) (by omega)
         refine ⟨b, hb1, hb2.trans ?_⟩
         have es : s + ext kind t.w t.h + sumL kind r - r.length = s + sumL kind (t :: r) - (t :: r).length := by
           rw [sumL, List.length_cons]
           push_cast
           omega
         rw [es]
         constructor
         · rintro ⟨h1, h2, h3⟩
           exact ⟨fun x hx => (List.mem_cons.1 hx).elim (fun e => by rw [e]; exact ⟨by omega, by omega⟩) (h1 x), ⟨c1, c4, g, h2⟩, h3⟩
         · rintro ⟨h1, h2, h3⟩
           exact ⟨fun x hx => h1 x (List.mem_cons_of_mem _ hx), h2.2.2.2, h3⟩
       · rw [if_neg c4]
         exact ⟨false, rfl, by simp, fun h => absurd h.2.1.2.1 c4⟩
theorem sizes_j0t (k : Nat) (a b c d : Int) (l : List S72) : mullionref04_sizes.j0 (k + 1) true a b c d l = some false := by rw [mullionref04_sizes.j0, if_pos rfl]
theorem sizes_j1t (k : Nat) (a b c d : Int) (l : List S72) : mullionref04_sizes.j1 (k + 1) true a b c d l = some false := by rw [mullionref04_sizes.j1, if_pos rfl]
theorem sizes_f : ∀ (t : Tr), cntT t ≤ 1000000 → ∀ k, 5 * cntT t ≤ k → t.w ≤ 1000 → t.h ≤ 1000 → ∃ b, mullionref04_sizes.f k t.kind t.w t.h t.id (toL t.kids) = some b ∧ (b = true ↔ goodT t) := by
 refine Tr.ind ?_
 intro kind w h id kids ih hc k hk hw hh
 rw [cntT] at hc hk
 simp only at hw hh
 have hlen := len_cntL kids
 obtain ⟨k, rfl⟩ : ∃ m, k = m + 1 + 1 + 1 + 1 + 1 := ⟨k - 5, by omega⟩
 rw [goodT_def, mullionref04_sizes.f]
 simp only
 by_cases c1 : w < 1
 · rw [if_pos c1, sizes_j0t]
   exact ⟨false, rfl, by simp, fun h => by omega⟩
 rw [if_neg c1]
 by_cases c2 : h < 1
 · rw [if_pos c2, sizes_j0t]
   exact ⟨false, rfl, by simp, fun h => by omega⟩
 rw [if_neg c2]
 by_cases c3 : kind < 1
 · rw [if_pos c3, sizes_j0t]
   exact ⟨false, rfl, by simp, fun h => by omega⟩
 rw [if_neg c3]
 by_cases c4 : kind > 3
 · rw [decide_eq_true c4, sizes_j0t]
   exact ⟨false, rfl, by simp, fun h => by omega⟩
 rw [decide_eq_false c4, mullionref04_sizes.j0, if_neg (by simp), toL_len]
 by_cases c5 : kind = 1
 · rw [if_pos c5]
   by_cases c6 : (kids.length : Int) = 0
   · rw [if_pos c6]
     have e0 : kids = [] := List.eq_nil_of_length_eq_zero (by omega)
     by_cases c7 : id ≥ 1
     · rw [if_pos c7]
       refine ⟨_, rfl, ?_⟩
       rw [decide_eq_true_iff]
       constructor
       · intro h1
         exact ⟨by omega, .inl ⟨c5, by omega, h1, e0⟩⟩
       · rintro ⟨_, ⟨_, _, h1, _⟩ | ⟨h1, _⟩⟩
         · exact h1
         · omega
     · rw [if_neg c7]
       refine ⟨false, rfl, by simp, ?_⟩
       rintro ⟨_, ⟨_, h1, _⟩ | ⟨h1, _⟩⟩ <;> omega
   · rw [if_neg c6]
     refine ⟨false, rfl, by simp, ?_⟩
     rintro ⟨_, ⟨_, _, _, h1⟩ | ⟨h1, _⟩⟩
     · rw [h1] at c6
       exact absurd rfl c6
     · omega
 rw [if_neg c5]
 by_cases c6 : (kids.length : Int) < 2
 · rw [if_pos c6, sizes_j1t]
   refine ⟨false, rfl, by simp, ?_⟩
   rintro ⟨_, ⟨h1, _⟩ | ⟨_, _, h1, _⟩⟩ <;> omega
 rw [if_neg c6]
 by_cases c7 : id = 0
 · subst c7
   rw [show ((0 : Int) != 0) = false from rfl, mullionref04_sizes.j1, if_neg (by simp), toL_len, IntWalk.wrap64_in _ (by omega)]
   have hk23 : kind = 2 ∨ kind = 3 := by omega
   obtain ⟨b, hb1, hb2⟩ := sizes_loop kind w h 0 kids hk23 hw hh (by omega) (fun t ht k hk hw hh => ih t ht (by have := cntT_mem t kids ht; omega) k hk hw hh) kids 0 ((kids.length : Int) - 1) (k + 1 + 1) rfl (by omega) (by omega) (by omega) (by omega)
   refine ⟨b, hb1, hb2.trans ?_⟩
   constructor
   · rintro ⟨h1, h2, h3⟩
     exact ⟨by omega, .inr ⟨hk23, rfl, by omega, h2, by omega⟩⟩
   · rintro ⟨_, ⟨h1, _⟩ | ⟨_, _, h1, h2, h3⟩⟩
     · exact absurd h1 c5
     · refine ⟨fun t ht => ?_, h2, by omega⟩
       obtain ⟨_, e1, g, e2⟩ := goodL_mem _ _ _ t kids h2 ht
       rw [h3] at e2
       rcases hk23 with rfl | rfl
       · have e1 : t.h = h := e1
         have e2 : t.w + 1 ≤ w + 1 := e2
         omega
       · have e1 : t.w = w := e1
         have e2 : t.h + 1 ≤ h + 1 := e2
         omega
 · rw [show (id != 0) = true from bne_iff_ne.2 c7, sizes_j1t]
   refine ⟨false, rfl, by simp, ?_⟩
   rintro ⟨_, ⟨h1, _⟩ | ⟨_, h1, _⟩⟩
   · exact absurd h1 c5
   · exact absurd h1 c7
theorem wrap_mod (a : Int) : ∃ q : Int, wrap64 a = a - q * 18446744073709551616 := ⟨(a + 9223372036854775808) / 18446744073709551616, by
 unfold wrap64
 have := Int.emod_def (a + 9223372036854775808) 18446744073709551616
 rw [this]
 generalize (a + 9223372036854775808) / 18446744073709551616 = q
 rw [Int.mul_comm]
 generalize q * 18446744073709551616 = z
 omega⟩
theorem wrap_cong {a b : Int} (q : Int) (h : a = b + q * 18446744073709551616) : wrap64 a = wrap64 b := by
 unfold wrap64
 rw [h, show b + q * 18446744073709551616 + 9223372036854775808 = b + 9223372036854775808 + q * 18446744073709551616 by generalize q * 18446744073709551616 = z; omega, Int.add_mul_emod_self_right]
theorem wrap_two (x n : Int) : wrap64 (wrap64 (x + n) + 1) = wrap64 (x + wrap64 (n + 1)) := by
 obtain ⟨q, hq⟩ := wrap_mod (x + n)
 obtain ⟨r, hr⟩ := wrap_mod (n + 1)
 rw [hq, hr]
 refine (wrap_cong (-q) (b := x + n + 1) ?_).trans (wrap_cong (-r) (b := x + n + 1) ?_).symm
 · rw [Int.neg_mul]
   generalize q * 18446744073709551616 = z
   omega
 · rw [Int.neg_mul]
   generalize r * 18446744073709551616 = z
   omega
theorem lay_loop (kind w h id d : Int) (kids : List Tr) (hn : kids.length ≤ 1000000) (ih : ∀ t ∈ kids, ∀ (k : Nat) (d x y : Int), 2 * cntT t ≤ k → mullionref04_lay.f k t.kind t.w t.h t.id (toL t.kids) d x y = some (layT t d x y)) :
   ∀ (r : List Tr) (i : Nat) (L : List S45) (x y : Int) (k : Nat), kids.drop i = r → i ≤ kids.length → L.length + cntL r ≤ 1000000 → 2 * cntL r + 1 ≤ k → mullionref04_lay.l0 k d x y L (i : Int) kind w h id (toL kids) = some (L ++ layL kind r (wrap64 (d + 1)) x y)
 | [], i, L, x, y, k, hr, hi, hL, hf => by
   rcases drop_cases hr hi with ⟨_, e⟩ | ⟨_, _, _, e, _⟩
   · obtain ⟨k, rfl⟩ : ∃ m, k = m + 1 := ⟨k - 1, by omega⟩
     rw [mullionref04_lay.l0, if_neg (by rw [toL_len]; omega), layL, List.append_nil]
   · cases e
 | t :: r, i, L, x, y, k, hr, hi, hL, hf => by
   rcases drop_cases hr hi with ⟨e, _⟩ | ⟨t', r', hi', e, e1, e2⟩
   · cases e
   · injection e with ea eb
     subst ea eb
     rw [cntL] at hL hf
     have hpos := cntT_pos t
     have ht : t ∈ kids := by rw [← e1]; exact List.getElem_mem hi'
     obtain ⟨k, rfl⟩ : ∃ m, k = m + 1 := ⟨k - 1, by omega⟩
     obtain ⟨a0, a1, a2, a3, a4⟩ := toS_f t
     have q1 : i + 1 ≤ kids.length := by omega
     have q2 : 2 * cntL r + 1 ≤ k := by omega
     have q3 : L.length + (layT t (wrap64 (d + 1)) x y).length < 2513169434916 := by
       have hl := layT_len t (wrap64 (d + 1)) x y
       omega
     have q4 : (L ++ layT t (wrap64 (d + 1)) x y).length + cntL r ≤ 1000000 := by
       have hl := layT_len t (wrap64 (d + 1)) x y
       rw [List.length_append]
       omega
     rw [mullionref04_lay.l0, if_pos (by rw [toL_len]; omega), if_pos (by omega), rd_toL kids i hi', e1, a0, a1, a2, a3, a4, ih t ht k _ _ _ (by omega)]
     simp only [Option.bind_some]
     rw [if_pos q3, wrap_two, wrap_two]
     have hw : wrap64 ((i : Int) + 1) = ((i + 1 : Nat) : Int) := (IntWalk.wrap64_in _ (by omega)).trans rfl
     rw [layL, ← List.append_assoc, hw]
     by_cases c : kind = 2
     · rw [if_pos c, if_pos c, if_pos c]
       exact lay_loop kind w h id d kids hn ih r (i + 1) _ _ _ k e2 q1 q4 q2
     · rw [if_neg c, if_neg c, if_neg c]
       exact lay_loop kind w h id d kids hn ih r (i + 1) _ _ _ k e2 q1 q4 q2
theorem lay_f : ∀ (t : Tr), goodT t → cntT t ≤ 100000 → ∀ (k : Nat) (d x y : Int), 2 * cntT t ≤ k → mullionref04_lay.f k t.kind t.w t.h t.id (toL t.kids) d x y = some (layT t d x y) := by
 refine Tr.ind ?_
 intro kind w h id kids ih hg hc k d x y hk
 rw [cntT] at hc hk
 have hlen := len_cntL kids
 obtain ⟨k, rfl⟩ : ∃ m, k = m + 1 := ⟨k - 1, by omega⟩
 obtain ⟨_, hh⟩ := (goodT_def _ _ _ _ _).1 hg
 simp only
 rw [mullionref04_lay.f, layT]
 have hloop := fun (hi : ∀ t ∈ kids, goodT t) => lay_loop kind w h id d kids (by omega) (fun t ht k d x y hk => ih t ht (hi t ht) (by have := cntT_mem t kids ht; omega) k d x y hk) kids 0 [⟨d, kind, x, y, w, h, id⟩] x y k rfl (by omega) (by simp; omega) (by omega)
 rcases hh with ⟨e1, _, _, e2⟩ | ⟨e1, e2, _, e3, _⟩
 · rw [if_pos e1]
   have := hloop (fun t ht => by rw [e2] at ht; simp at ht)
   rw [e2, layL, List.append_nil, e1] at this
   rw [e1, e2]
   exact this
 · rw [if_neg (by omega)]
   have := hloop (fun t ht => (goodL_mem _ _ _ t kids e3 ht).2.2.1)
   rw [e2] at this ⊢
   exact this
theorem panesL_ids (kind d : Int) : ∀ (ks : List Tr), (∀ t ∈ ks, ∀ d x y, panes (layT t d x y) = idsT t) → ∀ x y, panes (layL kind ks d x y) = idsL ks
 | [], _, x, y => by rw [layL, idsL]; rfl
 | k :: r, h, x, y => by rw [layL, idsL, panes_app, h k List.mem_cons_self, panesL_ids kind d r (fun t ht => h t (List.mem_cons_of_mem _ ht))]
theorem panes_ids : ∀ (t : Tr), goodT t → ∀ (d x y : Int), panes (layT t d x y) = idsT t := by
 refine Tr.ind ?_
 intro kind w h id kids ih hg d x y
 obtain ⟨_, hh⟩ := (goodT_def _ _ _ _ _).1 hg
 rw [layT, idsT]
 rcases hh with ⟨e1, _, _, e2⟩ | ⟨e1, e2, _, e3, _⟩
 · rw [if_pos e1, if_pos e1]
   rfl
 · rw [if_neg (by omega), if_neg (by omega)]
   rw [← panesL_ids kind (wrap64 (d + 1)) kids (fun t ht => ih t ht (goodL_mem _ _ _ t kids e3 ht).2.2.1) x y]
   have : ((⟨d, kind, x, y, w, h, 0⟩ : S45) :: layL kind kids (wrap64 (d + 1)) x y) = [⟨d, kind, x, y, w, h, 0⟩] ++ layL kind kids (wrap64 (d + 1)) x y := rfl
   rw [this, panes_app]
   have e4 : panes [(⟨d, kind, x, y, w, h, 0⟩ : S45)] = [] := by
     have : (kind == 1) = false := by simp; omega
     simp [panes, this]
   rw [e4, List.nil_append]
def okD : Int → List S45 → Prop
 | _, [] => True
 | p, c :: r => 1 ≤ c.f0 ∧ c.f0 ≤ p + 1 ∧ okD c.f0 r
theorem okD_list (kind d : Int) (hd : 1 ≤ d) (Q : List S45) (hQ : ∀ p, d - 1 ≤ p → okD p Q) : ∀ (ks : List Tr), (∀ t ∈ ks, ∀ (x y p : Int) (Q : List S45), d ≤ p + 1 → (∀ p', d ≤ p' → okD p' Q) → okD p (layT t d x y ++ Q)) → ∀ x y p, d ≤ p + 1 → okD p (layL kind ks d x y ++ Q)
 | [], _, x, y, p, hp => by rw [layL]; exact hQ p (by omega)
 | k :: r, h, x, y, p, hp => by
   rw [layL, List.append_assoc]
   exact h k List.mem_cons_self x y p _ hp fun p' hp' => okD_list kind d hd Q hQ r (fun t ht => h t (List.mem_cons_of_mem _ ht)) _ _ p' (by omega)
theorem okD_tree : ∀ (t : Tr) (d x y p : Int) (Q : List S45), 1 ≤ d → d + cntT t ≤ 1000000 → d ≤ p + 1 → (∀ p', d ≤ p' → okD p' Q) → okD p (layT t d x y ++ Q) := by
 refine Tr.ind ?_
 intro kind w h id kids ih d x y p Q hd hc hp hQ
 rw [cntT] at hc
 have hlen := len_cntL kids
 rw [layT]
 split
 · exact ⟨hd, hp, hQ d (by omega)⟩
 · refine ⟨hd, hp, ?_⟩
   rw [IntWalk.wrap64_in _ (by omega)]
   exact okD_list kind (d + 1) (by omega) Q (fun p' hp' => hQ p' (by omega)) kids (fun t ht x y p Q hp hQ => ih t ht (d + 1) x y p Q (by omega) (by have := cntT_mem t kids ht; omega) hp hQ) x y d (by omega)
theorem okD_root (t : Tr) (hc : cntT t ≤ 1000) : ∀ c r, layT t 0 0 0 = c :: r → c.f0 = 0 ∧ c.f4 = t.w ∧ c.f5 = t.h ∧ okD 0 r := by
 obtain ⟨kind, w, h, id, kids⟩ := t
 rw [cntT] at hc
 intro c r e
 rw [layT] at e
 split at e
 · injection e with e1 e2
   subst e1 e2
   exact ⟨rfl, rfl, rfl, trivial⟩
 · injection e with e1 e2
   subst e1 e2
   refine ⟨rfl, rfl, rfl, ?_⟩
   rw [IntWalk.wrap64_in _ (by omega), ← List.append_nil (layL _ _ _ _ _)]
   exact okD_list kind (0 + 1) (by omega) [] (fun _ _ => trivial) kids (fun t ht x y p Q hp hQ => okD_tree t (0 + 1) x y p Q (by omega) (by have := cntT_mem t kids ht; omega) hp hQ) 0 0 0 (by omega)
theorem okD_pos : ∀ (l : List S45) (p : Int), okD p l → ∀ c ∈ l, 1 ≤ c.f0
 | [], _, _, c, h => by simp at h
 | x :: r, p, h, c, hc => by
   rcases List.mem_cons.1 hc with rfl | hc
   · exact h.1
   · exact okD_pos r _ h.2.2 c hc
end Go.Proofs.YtmpnkckaohfflaaDoor.PGiv
end
section
namespace Go.Proofs.YtmpnkckaohfflaaDoor.PGiv
open Go.RowKit Go.Proofs.YtmpnkckaohfflaaDoorW.PrintWords Go.Proofs.YtmpnkckaohfflaaDoor.K Go.Proofs.YtmpnkckaohfflaaDoor.Num Go.Proofs.YtmpnkckaohfflaaDoor.Txt Go.Proofs.YtmpnkckaohfflaaDoor.L
set_option linter.unusedVariables false
set_option linter.unusedSimpArgs false
theorem layL_cnt (kind d : Int) : ∀ (ks : List Tr), (∀ t ∈ ks, ∀ x y, (layT t d x y).length = cntT t) → ∀ x y, (layL kind ks d x y).length = cntL ks
 | [], _, x, y => by rw [layL, cntL]; rfl
 | k :: r, h, x, y => by rw [layL, cntL, List.length_append, h k List.mem_cons_self, layL_cnt kind d r fun t ht => h t (List.mem_cons_of_mem _ ht)]
theorem lay_cnt : ∀ (t : Tr), goodT t → ∀ (d x y : Int), (layT t d x y).length = cntT t := by
 refine Tr.ind ?_
 intro kind w h id kids ih hg d x y
 obtain ⟨_, hh⟩ := (goodT_def _ _ _ _ _).1 hg
 rw [layT, cntT]
 rcases hh with ⟨e1, _, _, e2⟩ | ⟨e1, e2, _, e3, _⟩
 · rw [if_pos e1, e2, cntL]
   rfl
 · rw [if_neg (by omega), List.length_cons, layL_cnt kind (wrap64 (d + 1)) kids fun t ht x y => ih t ht (goodL_mem _ _ _ t kids e3 ht).2.2.1 _ x y]
   omega
theorem layT_kind (t : Tr) (d x y : Int) : ∃ c r, layT t d x y = c :: r ∧ c.f0 = d ∧ c.f1 = t.kind := by
 obtain ⟨kind, w, h, id, kids⟩ := t
 rw [layT]
 split
 · exact ⟨_, _, rfl, rfl, by assumption |> Eq.symm⟩
 · exact ⟨_, _, rfl, rfl, rfl⟩
theorem growL_lay (kind d W H : Int) (hk : kind = 2 ∨ kind = 3) (hd1 : wrap64 (d + 1) = d + 1) (h5 : wrap64 (5 - kind) = 5 - kind) : ∀ (ks : List Tr), (∀ t ∈ ks, ∀ (k : Nat) (x y : Int) (Q : List S45), goodT t → 2 * cntT t ≤ k → (∀ c, Q.head? = some c → c.f0 ≤ d + 1) → growF k (layT t (d + 1) x y ++ Q) (d + 1) = some (some (t, Q))) →
   ∀ (k : Nat) (c : S45) (acc : List Tr) (sum x y : Int) (Q : List S45), c.f1 = kind → c.f4 = W → c.f5 = H → goodL kind W H (acc ++ ks) → sum = sumL kind acc - 1 → acc.length + ks.length ≤ 1000 → 2 ≤ acc.length + ks.length → sumL kind (acc ++ ks) = ext kind W H + 1 → goodL kind W H acc → 2 * cntL ks + 1 ≤ k → (∀ c, Q.head? = some c → c.f0 ≤ d) →
     growL k c d acc sum (layL kind ks (d + 1) x y ++ Q) = some (some (⟨kind, W, H, 0, acc ++ ks⟩, Q))
 | [], _, k, c, acc, sum, x, y, Q, e1, e4, e5, hg, hs, hn, h2, hS, hga, hf, hQ => by
   obtain ⟨k, rfl⟩ : ∃ m, k = m + 1 := ⟨k - 1, by omega⟩
   rw [layL, List.nil_append, List.append_nil]
   rw [List.append_nil] at hS
   have h2 : ¬ acc.length < 2 := by simp at h2; omega
   have hS : sum = ext kind W H := by omega
   cases Q with
   | nil => rw [growL, if_neg (by simp), if_neg h2, e1, e4, e5, if_pos hS]
   | cons q Q =>
     have hq : q.f0 ≤ d := hQ q rfl
     rw [growL, if_neg (by simp only [hd1]; simp; omega), if_neg h2, e1, e4, e5, if_pos hS]
 | t :: r, ih, k, c, acc, sum, x, y, Q, e1, e4, e5, hg, hs, hn, h2, hS, hga, hf, hQ => by
   obtain ⟨k, rfl⟩ : ∃ m, k = m + 1 := ⟨k - 1, by omega⟩
   rw [cntL] at hf
   rw [List.length_cons] at hn h2
   obtain ⟨g1, g2, g3, g4⟩ := goodL_mem kind W H t (acc ++ t :: r) hg (by simp)
   obtain ⟨q, qs, hq, hq0, hq1⟩ := layT_kind t (d + 1) x y
   rw [layL_cons, List.append_assoc]
   generalize (if kind = 2 then wrap64 (x + wrap64 (t.w + 1)) else x) = x'
   generalize (if kind = 2 then y else wrap64 (y + wrap64 (t.h + 1))) = y'
   have h1 := ih t List.mem_cons_self k x y (layL kind r (d + 1) x' y' ++ Q) g3 (by omega) (fun e he => by
     cases r with
     | nil =>
       rw [layL, List.nil_append] at he
       have := hQ e he
       omega
     | cons t2 r2 =>
       obtain ⟨q2, qs2, hq2, hq20⟩ := layT_head t2 (d + 1) x' y'
       rw [layL_cons, hq2] at he
       simp at he
       rw [← he]
       omega)
   have hx := ext_rng (kind := kind) (good_dim g3)
   have hr := sumL_rng kind W H acc hga
   have es : sumL kind (acc ++ [t]) = sumL kind acc + (ext kind t.w t.h + 1) := sumL_snoc kind t acc
   have hw1 : wrap64 (ext kind t.w t.h + 1) = ext kind t.w t.h + 1 := IntWalk.wrap64_in _ (by omega)
   have hw2 : wrap64 (sum + (ext kind t.w t.h + 1)) = sumL kind (acc ++ [t]) - 1 := by rw [IntWalk.wrap64_in _ (by omega), es]; omega
   have h3 := growL_lay kind d W H hk hd1 h5 r (fun t ht => ih t (List.mem_cons_of_mem _ ht)) k c (acc ++ [t]) (sumL kind (acc ++ [t]) - 1) x' y' Q e1 e4 e5 (by simpa using hg) rfl (by simp; omega) (by simp; omega) (by simpa using hS) (goodL_snoc kind W H t acc hga g1 g2 g3) (by have := cntT_pos t; clear hw1 hw2; omega) hQ
   rw [hq] at h1 ⊢
   rw [List.cons_append] at h1 ⊢
   rw [growL, if_pos (by simp only [hd1, hq0]; simp), if_neg (by simp only [hq1, e1]; simpa using g1), hd1, h1]
   simp only [Option.bind_some]
   rw [e1, e4, e5, h5, if_pos g2, hw1, hw2, h3]
   simp
theorem growF_lay : ∀ (t : Tr) (k : Nat) (d x y : Int) (Q : List S45), goodT t → 2 * cntT t ≤ k → 0 ≤ d → d + cntT t ≤ 1000 → (∀ c, Q.head? = some c → c.f0 ≤ d) → growF k (layT t d x y ++ Q) d = some (some (t, Q)) := by
 refine Tr.ind ?_
 intro kind W H id kids ih k d x y Q hg hk hd hdc hQ
 rw [cntT] at hk hdc
 obtain ⟨k, rfl⟩ : ∃ m, k = m + 1 := ⟨k - 1, by omega⟩
 obtain ⟨hdim, hkk⟩ := (goodT_def _ _ _ _ _).1 hg
 rw [layT]
 rcases hkk with ⟨rfl, hi0, hi1, rfl⟩ | ⟨hkk, rfl, hlen, hgl, hsum⟩
 · rw [if_pos rfl, List.cons_append, List.nil_append, growF]
   simp
 · have hk1 : kind ≠ 1 := by omega
   have hl := len_cntL kids
   have h1 : kids.length ≤ 1000 := by omega
   have h2 : 2 * cntL kids + 1 ≤ k := by omega
   have h5 : wrap64 (5 - kind) = 5 - kind := IntWalk.wrap64_in _ (by omega)
   have hw : wrap64 (d + 1) = d + 1 := IntWalk.wrap64_in _ (by omega)
   rw [if_neg hk1, List.cons_append, growF]
   simp only
   rw [if_neg hk1, hw]
   have := growL_lay kind d W H hkk hw h5 kids (fun t ht k x y Q hg hk hQ => ih t ht k (d + 1) x y Q hg hk (by clear hw h5; omega) (by have := cntT_mem t kids ht; clear hw h5; omega) hQ) k ⟨d, kind, x, y, W, H, 0⟩ [] (-1) x y Q rfl rfl rfl hgl (by simp [sumL]) (by simpa using h1) (by simpa using hlen) hsum (by rw [goodL]; trivial) h2 hQ
   rw [this]
   rfl
theorem cells_list (kind d : Int) : ∀ (ks : List Tr), (∀ t ∈ ks, ∀ x y, ∀ c ∈ layT t d x y, cellOK c ∧ (c.f1 ≠ 1 → c.f6 = 0)) → ∀ x y, ∀ c ∈ layL kind ks d x y, cellOK c ∧ (c.f1 ≠ 1 → c.f6 = 0)
 | [], _, x, y => by rw [layL]; intro c hc; simp at hc
 | k :: r, h, x, y => by
   rw [layL]
   intro c hc
   rcases List.mem_append.1 hc with hc | hc
   · exact h k List.mem_cons_self x y c hc
   · exact cells_list kind d r (fun t ht => h t (List.mem_cons_of_mem _ ht)) _ _ c hc
theorem cells_tree : ∀ (t : Tr), goodT t → ∀ (d x y : Int), ∀ c ∈ layT t d x y, cellOK c ∧ (c.f1 ≠ 1 → c.f6 = 0) := by
 refine Tr.ind ?_
 intro kind w h id kids ih hg d x y
 obtain ⟨hd, hh⟩ := (goodT_def _ _ _ _ _).1 hg
 rw [layT]
 rcases hh with ⟨e1, i1, i2, e2⟩ | ⟨e1, e2, _, e3, _⟩
 · rw [if_pos e1]
   intro c hc
   rw [List.mem_singleton.1 hc]
   exact ⟨⟨⟨hd.1, hd.2.1, hd.2.2.1, hd.2.2.2⟩, .inl ⟨rfl, i1, i2⟩⟩, fun h => absurd rfl h⟩
 · rw [if_neg (by omega)]
   intro c hc
   rcases List.mem_cons.1 hc with rfl | hc
   · exact ⟨⟨⟨hd.1, hd.2.1, hd.2.2.1, hd.2.2.2⟩, .inr e1⟩, fun _ => rfl⟩
   · exact cells_list kind (wrap64 (d + 1)) kids (fun t ht x y => ih t ht (goodL_mem _ _ _ t kids e3 ht).2.2.1 _ x y) x y c hc
theorem panes_cons1 {c : S45} (r : List S45) (h : c.f1 = 1) : panes (c :: r) = c.f6 :: panes r := by simp [panes, h]
theorem panes_cons0 {c : S45} (r : List S45) (h : c.f1 ≠ 1) : panes (c :: r) = panes r := by simp [panes, h]
theorem seen_some : ∀ (l : List S45) (S : List Int), (∀ c ∈ l, cellOK c ∧ (c.f1 ≠ 1 → c.f6 = 0)) → (panes l).Nodup → (∀ p ∈ panes l, p ∉ S) → ∃ S', seenF l S = some S' ∧ S'.length = (panes l).length + S.length
 | [], S, _, _, _ => ⟨S, by rw [seenF], by simp [panes]⟩
 | c :: r, S, hc, hn, hs => by
   obtain ⟨⟨h1, h2⟩, h3⟩ := hc c List.mem_cons_self
   have hr := fun c' h => hc c' (List.mem_cons_of_mem _ h)
   rw [seenF_step, if_neg (by omega)]
   by_cases e : c.f1 = 1
   · rw [panes_cons1 r e] at hn hs ⊢
     obtain ⟨n1, n2⟩ := List.nodup_cons.1 hn
     have hid : ¬ idB c.f6 = false := by
       have : 1 ≤ c.f6 ∧ c.f6 ≤ 4611686018427387904 := by omega
       simp [idB]
       omega
     rw [if_pos e, if_neg (fun h => h.elim hid (hs _ List.mem_cons_self))]
     obtain ⟨S', h4, h5⟩ := seen_some r (c.f6 :: S) hr n2 (fun p hp hm => by
       rcases List.mem_cons.1 hm with rfl | hm
       · exact n1 hp
       · exact hs p (List.mem_cons_of_mem _ hp) hm)
     exact ⟨S', h4, by rw [h5, List.length_cons, List.length_cons]; omega⟩
   · rw [panes_cons0 r e] at hn hs ⊢
     have hkb : ¬ kindB c.f1 = false := by
       have : c.f1 = 2 ∨ c.f1 = 3 := by omega
       rcases this with h | h <;> rw [h] <;> decide
     rw [if_neg e, if_neg (fun h => h.elim (fun h => h (h3 e)) hkb)]
     exact seen_some r S hr hn hs
theorem seen_nodup : ∀ (l : List S45) (S S' : List Int), seenF l S = some S' → (panes l).Nodup ∧ ∀ p ∈ panes l, p ∉ S
 | [], S, S', h => by simp [panes]
 | c :: r, S, S', h => by
   rw [seenF_step] at h
   split at h
   · simp at h
   · split at h
     · rename_i e
       split at h
       · simp at h
       · rename_i hne
         obtain ⟨n1, n2⟩ := seen_nodup r _ _ h
         rw [panes_cons1 r e]
         refine ⟨List.nodup_cons.2 ⟨fun hm => n2 _ hm List.mem_cons_self, n1⟩, fun p hp => ?_⟩
         rcases List.mem_cons.1 hp with rfl | hp
         · exact fun hm => hne (.inr hm)
         · exact fun hm => n2 p hp (List.mem_cons_of_mem _ hm)
     · rename_i e
       split at h
       · simp at h
       · rw [panes_cons0 r e]
         exact seen_nodup r _ _ h
def LayoutOK (t : Tr) (L : List S45) : Prop := goodT t ∧ layT t 0 0 0 = L ∧ (panes L).Nodup ∧ (panes L).length ≤ 32 ∧ L.length ≤ 64
theorem read_ok {L : List S45} {t : Tr} (h : readF L = some (some t)) : LayoutOK t L := by
 obtain ⟨h1, h2, h3, h4, h5, h6⟩ := read_good h
 refine ⟨h1, h5, ?_, h3, h4⟩
 cases L with
 | nil => simp [panes]
 | cons c l =>
   rw [readF] at h
   split at h
   · simp at h
   split at h
   · simp at h
   split at h
   · simp at h
   split at h
   · simp at h
   · rename_i S hS
     exact (seen_nodup _ _ _ hS).1
theorem ok_read {L : List S45} {t : Tr} (h : LayoutOK t L) : readF L = some (some t) := by
 obtain ⟨hg, rfl, hn, hp, hl⟩ := h
 have hc := lay_cnt t hg 0 0 0
 obtain ⟨S, hS, hSl⟩ := seen_some (layT t 0 0 0) [] (cells_tree t hg 0 0 0) hn (fun p _ h => by simp at h)
 have hgr := growF_lay t 1000 0 0 0 [] hg (by omega) (by omega) (by omega) (fun c h => by simp at h)
 rw [List.append_nil] at hgr
 obtain ⟨c, r, he, h0⟩ := layT_head t 0 0 0
 obtain ⟨_, h4, h5, _⟩ := okD_root t (by omega) c r he
 have hd := good_dim hg
 rw [he] at hS hgr hl ⊢
 rw [readF, if_neg (by omega), if_neg (by rw [h4]; simp [sideB]; omega), if_neg (by rw [h5]; simp [sideB]; omega), hS]
 simp only
 rw [if_neg (by rw [he] at hSl hp; simp at hSl; omega), hgr]
 simp only [Option.bind_some]
 rw [if_neg (by simp), if_pos he]
theorem cell_ne {a b : S45} : (!(a.f0 == b.f0) || (!(a.f1 == b.f1) || (!(a.f2 == b.f2) || (!(a.f3 == b.f3) || (!(a.f4 == b.f4) || (!(a.f5 == b.f5) || !(a.f6 == b.f6))))))) = true ↔ a ≠ b := by
 constructor
 · intro h e
   subst e
   simp at h
 · intro h
   cases hb : (!(a.f0 == b.f0) || (!(a.f1 == b.f1) || (!(a.f2 == b.f2) || (!(a.f3 == b.f3) || (!(a.f4 == b.f4) || (!(a.f5 == b.f5) || !(a.f6 == b.f6)))))))
   · exact absurd (cell_eq hb) h
   · rfl
theorem tree_l1 (l a : List S45) (hl : l.length ≤ 1000) (hla : a.length = l.length) (q0 q1 q2 q3 : Int) (q4 : List S72) : ∀ m i k, i + m = l.length → m + 1 ≤ k →
   mullionref04_Tree.l1 k l a (i : Int) q0 q1 q2 q3 q4 = if a.drop i = l.drop i then some (q0, q1, q2, q3, q4, true) else some (0, 0, 0, 0, [], false)
 | 0, i, k, e, hk => by
   obtain ⟨k, rfl⟩ : ∃ m, k = m + 1 := ⟨k - 1, by omega⟩
   rw [mullionref04_Tree.l1, if_neg (by omega), List.drop_eq_nil_of_le (by omega), List.drop_eq_nil_of_le (by omega), if_pos rfl]
 | m + 1, i, k, e, hk => by
   obtain ⟨k, rfl⟩ : ∃ m, k = m + 1 := ⟨k - 1, by omega⟩
   have h1 : i < l.length := by omega
   have h2 : i < a.length := by omega
   rw [mullionref04_Tree.l1, if_pos (by omega), if_pos (by omega), if_pos (by omega), rd_at l i h1, rd_at a i h2, List.drop_eq_getElem_cons h1, List.drop_eq_getElem_cons h2]
   by_cases c : a[i] = l[i]
   · rw [if_neg (fun h => (cell_ne.1 h) c)]
     have hw : wrap64 ((i : Int) + 1) = ((i + 1 : Nat) : Int) := (IntWalk.wrap64_in _ (by omega)).trans rfl
     rw [hw, tree_l1 l a hl hla q0 q1 q2 q3 q4 m (i + 1) k (by clear hw; omega) (by clear hw; omega), c]
     simp only [List.cons.injEq, true_and]
   · rw [if_pos (cell_ne.2 c), if_neg (fun h => c (by injection h))]
theorem tree_l0 (l : List S45) (hl : l.length ≤ 64) : ∀ m i k (h : i - 1 < l.length), i + m = l.length → 1 ≤ i → m + 1 ≤ k → 0 ≤ l[i - 1].f0 → l[i - 1].f0 ≤ i →
   (okD l[i - 1].f0 (l.drop i) → mullionref04_Tree.l0 k l (i : Int) = mullionref04_Tree.l0 (k - m) l (l.length : Int)) ∧ (¬ okD l[i - 1].f0 (l.drop i) → mullionref04_Tree.l0 k l (i : Int) = some (0, 0, 0, 0, [], false))
 | 0, i, k, h, e, hi, hk, h0, h1 => by
   obtain rfl : i = l.length := by omega
   refine ⟨fun _ => rfl, fun hn => absurd ?_ hn⟩
   rw [List.drop_eq_nil_of_le (by omega)]
   trivial
 | m + 1, i, k, h, e, hi, hk, h0, h1 => by
   obtain ⟨k, rfl⟩ : ∃ m, k = m + 1 := ⟨k - 1, by omega⟩
   have h2 : i < l.length := by omega
   have ek : k + 1 - (m + 1) = k - m := by omega
   have q1 : i + 1 + m = l.length := by omega
   have q2 : m + 1 ≤ k := by omega
   have e1 : wrap64 ((i : Int) - 1) = ((i - 1 : Nat) : Int) := (IntWalk.wrap64_in _ (by omega)).trans (by omega)
   have ew : wrap64 (l[i - 1].f0 + 1) = l[i - 1].f0 + 1 := IntWalk.wrap64_in _ (by clear e1; omega)
   have hw : wrap64 ((i : Int) + 1) = ((i + 1 : Nat) : Int) := (IntWalk.wrap64_in _ (by clear e1 ew; omega)).trans rfl
   rw [List.drop_eq_getElem_cons h2, okD]
   by_cases c1 : l[i].f0 < 1
   · refine ⟨fun hh => absurd hh.1 (by clear e1 ew hw; omega), fun _ => ?_⟩
     rw [mullionref04_Tree.l0, if_pos (by clear e1 ew hw; omega), if_pos (by clear e1 ew hw; omega), rd_at l i h2, if_pos c1]
   by_cases c2 : l[i].f0 > l[i - 1].f0 + 1
   · refine ⟨fun hh => absurd hh.2.1 (by clear e1 ew hw; omega), fun _ => ?_⟩
     rw [mullionref04_Tree.l0, if_pos (by clear e1 ew hw; omega), if_pos (by clear e1 ew hw; omega), rd_at l i h2, if_neg c1, e1, if_pos (by clear e1 ew hw; omega), if_pos (by clear e1 ew hw; omega), rd_at l (i - 1) h, ew, if_pos c2]
   · have q3 : 0 ≤ l[i + 1 - 1].f0 := by simp only [Nat.add_sub_cancel]; clear e1 ew hw; omega
     have q4 : l[i + 1 - 1].f0 ≤ ((i + 1 : Nat) : Int) := by simp only [Nat.add_sub_cancel]; clear e1 ew hw; omega
     have ih := tree_l0 l hl m (i + 1) k (by clear e1 ew hw; omega) q1 (by clear e1 ew hw; omega) q2 q3 q4
     simp only [Nat.add_sub_cancel] at ih
     have go : mullionref04_Tree.l0 (k + 1) l (i : Int) = mullionref04_Tree.l0 k l ((i + 1 : Nat) : Int) := by
       rw [mullionref04_Tree.l0, if_pos (by clear e1 ew hw; omega), if_pos (by clear e1 ew hw; omega), rd_at l i h2, if_neg c1, e1, if_pos (by clear e1 ew hw; omega), if_pos (by clear e1 ew hw; omega), rd_at l (i - 1) h, ew, if_neg c2, hw]
     rw [go, ek]
     exact ⟨fun hh => ih.1 hh.2.2, fun hn => ih.2 fun hh => hn ⟨by clear e1 ew hw; omega, by clear e1 ew hw; omega, hh⟩⟩
theorem g_head : ∀ k (c : S45) kids s t rest, gL k c kids s = some (t, rest) → t.f0 = c.f1 ∧ t.f1 = c.f4 ∧ t.f2 = c.f5 := by
 intro k
 induction k with
 | zero => intro c kids s t rest h; simp [gL] at h
 | succ k ih =>
   intro c kids s t rest h
   cases s with
   | nil =>
     simp only [gL, Option.some.injEq, Prod.mk.injEq] at h
     rw [← h.1]
     exact ⟨rfl, rfl, rfl⟩
   | cons x r =>
     rw [gL] at h
     split at h
     · obtain ⟨⟨t1, r1⟩, h1, h2⟩ := Option.bind_eq_some_iff.1 h
       exact ih _ _ _ _ _ h2
     · simp only [Option.some.injEq, Prod.mk.injEq] at h
       rw [← h.1]
       exact ⟨rfl, rfl, rfl⟩
end Go.Proofs.YtmpnkckaohfflaaDoor.PGiv
end
section
namespace Go.Proofs.YtmpnkckaohfflaaDoor.PGiv
open Go.RowKit Go.Proofs.YtmpnkckaohfflaaDoorW.PrintWords Go.Proofs.YtmpnkckaohfflaaDoor.K Go.Proofs.YtmpnkckaohfflaaDoor.Num Go.Proofs.YtmpnkckaohfflaaDoor.Txt Go.Proofs.YtmpnkckaohfflaaDoor.L
set_option linter.unusedVariables false
set_option linter.unusedSimpArgs false
theorem tree_end (c : S45) (l : List S45) (h64 : (c :: l).length ≤ 64) (h0 : c.f0 = 0) (hw : c.f4 ≤ 1000) (hh : c.f5 ≤ 1000) (hd : okD 0 l) (k : Nat) (hk : 5000 ≤ k) :
   ∃ t0 : Tr, (∀ t, LayoutOK t (c :: l) → t = t0) ∧ ((LayoutOK t0 (c :: l) ∧ mullionref04_Tree.l0 (k + 1) (c :: l) ((c :: l).length : Int) = some (t0.kind, t0.w, t0.h, t0.id, toL t0.kids, true)) ∨
     (¬ LayoutOK t0 (c :: l) ∧ mullionref04_Tree.l0 (k + 1) (c :: l) ((c :: l).length : Int) = some (0, 0, 0, 0, [], false))) := by
 obtain ⟨⟨n, rest⟩, hF⟩ := (g_some k).1 (c :: l) (by simp) (by omega)
 obtain ⟨k', rfl⟩ : ∃ m, k = m + 1 := ⟨k - 1, by omega⟩
 have hL : gL k' c [] l = some (n, rest) := by rw [gF] at hF; exact hF
 obtain rfl : rest = [] := g_whole k' c [] l n rest (fun x hx => by have := okD_pos l 0 hd x hx; omega) hL
 obtain ⟨n0, n1, n2⟩ := g_head k' c [] l n [] hL
 have hcnt : cntT (ofS n) + ([] : List S45).length = (c :: l).length := (g_cnt (k' + 1)).1 _ _ _ hF
 obtain ⟨t0, ht0⟩ : ∃ t0, t0 = ofS n := ⟨_, rfl⟩
 have hn : toS t0 = n := by rw [ht0, to_of]
 rw [← ht0] at hcnt
 rw [← hn] at n0 n1 n2 hF
 clear hL
 obtain ⟨a0, a1, a2, a3, a4⟩ := toS_f t0
 have hg := (grown_eq (k' + 1)).1 (c :: l) 0 (toS t0) [] (by omega) hF
 rw [a0, a1, a2, a3, a4] at hg
 rw [a1] at n1
 rw [a2] at n2
 have hcnt : cntT t0 = (c :: l).length := hcnt
 refine ⟨t0, fun t ht => ?_, ?_⟩
 · obtain ⟨g1, g2, _, _, _⟩ := ht
   have hc := lay_cnt t g1 0 0 0
   rw [g2] at hc
   have := gF_lay t (k' + 1) 0 0 0 [] g1 (by omega) (by omega) (by omega) (fun c h => by simp at h)
   rw [List.append_nil, g2, hF] at this
   have e := congrArg (fun p => ofS p.1) (Option.some.inj this)
   simp only [of_to] at e
   exact e.symm
 · have e0 : mullionref04_grown.f (k' + 1) (c :: l) 0 = _ := hg
   rw [mullionref04_Tree.l0, if_neg (by omega), e0]
   simp only [Option.bind_some]
   rw [ids_f t0 (k' + 1) (by omega) (by omega)]
   simp only [Option.bind_some]
   obtain ⟨b, hb, hgood⟩ := sizes_f t0 (by omega) (k' + 1) (by omega) (by omega) (by omega)
   rw [hb]
   simp only [Option.bind_some]
   cases b with
   | false =>
     rw [if_neg (by simp), mullionref04_Tree.j2, if_pos rfl]
     exact .inr ⟨fun h => absurd (hgood.2 h.1) (by simp), rfl⟩
   | true =>
     have g := hgood.1 rfl
     have hil := idsT_len t0
     have hsq : ((idsT t0).length + 2) * (idsT t0).length ≤ 66 * 64 := Nat.mul_le_mul (by omega) (by omega)
     rw [if_pos rfl, twice_f (idsT t0) (k' + 1) (by omega) (by omega)]
     simp only [Option.bind_some]
     have hp : layT t0 0 0 0 = c :: l → panes (c :: l) = idsT t0 := fun e => by rw [← e, panes_ids t0 g]
     by_cases hN : (idsT t0).Nodup
     · rw [if_neg (by simp [hN])]
       by_cases h32 : ((idsT t0).length : Int) > 32
       · rw [decide_eq_true h32, mullionref04_Tree.j2, if_pos rfl]
         exact .inr ⟨fun h => by have := h.2.2.2.1; rw [hp h.2.1] at this; omega, rfl⟩
       · rw [decide_eq_false h32, mullionref04_Tree.j2, if_neg (by simp), mullionref04_List.f, lay_f t0 g (by omega) k' 0 0 0 (by omega)]
         simp only [Option.bind_some]
         have hc := lay_cnt t0 g 0 0 0
         have := tree_l1 (c :: l) (layT t0 0 0 0) (by omega) (by omega) t0.kind t0.w t0.h t0.id (toL t0.kids) (c :: l).length 0 k' (by omega) (by omega)
         have e1 : mullionref04_Tree.l1 k' (c :: l) (layT t0 0 0 0) 0 t0.kind t0.w t0.h t0.id (toL t0.kids) = _ := this
         rw [e1, List.drop_zero, List.drop_zero]
         by_cases he : layT t0 0 0 0 = c :: l
         · rw [if_pos he]
           refine .inl ⟨⟨g, he, ?_, ?_, h64⟩, rfl⟩
           · rw [hp he]
             exact hN
           · rw [hp he]
             omega
         · rw [if_neg he]
           exact .inr ⟨fun h => he h.2.1, rfl⟩
     · rw [if_pos (by simp [hN]), mullionref04_Tree.j2, if_pos rfl]
       exact .inr ⟨fun h => hN (by have := h.2.2.1; rw [hp h.2.1] at this; exact this), rfl⟩
theorem tree_j0t (k : Nat) (L : List S45) : mullionref04_Tree.j0 (k + 1) L true = some (0, 0, 0, 0, [], false) := by rw [mullionref04_Tree.j0, if_pos rfl]
theorem tree_f (L : List S45) (k : Nat) (hk : 10000 ≤ k) : (∃ t, LayoutOK t L ∧ mullionref04_Tree.f k L = some (t.kind, t.w, t.h, t.id, toL t.kids, true)) ∨ ((¬ ∃ t, LayoutOK t L) ∧ mullionref04_Tree.f k L = some (0, 0, 0, 0, [], false)) := by
 obtain ⟨k, rfl⟩ : ∃ m, k = m + 1 := ⟨k - 1, by omega⟩
 have head : ∀ t, LayoutOK t L → ∃ c l, L = c :: l ∧ c.f0 = 0 ∧ c.f4 ≤ 1000 ∧ c.f5 ≤ 1000 ∧ okD 0 l := fun t ht => by
   obtain ⟨g1, g2, _, _, g5⟩ := ht
   have hc := lay_cnt t g1 0 0 0
   rw [g2] at hc
   obtain ⟨c, r, he, _⟩ := layT_head t 0 0 0
   obtain ⟨b0, b1, b2, b3⟩ := okD_root t (by omega) c r he
   have := good_dim g1
   exact ⟨c, r, g2.symm.trans he, b0, by omega, by omega, b3⟩
 rw [mullionref04_Tree.f, tree_j0t]
 cases L with
 | nil =>
   rw [if_pos (show ((([] : List S45).length : Int) = 0) from rfl)]
   refine .inr ⟨?_, rfl⟩
   rintro ⟨t, ht⟩
   obtain ⟨c, l, e, _⟩ := head t ht
   cases e
 | cons c l =>
   rw [if_neg (by rw [List.length_cons]; omega)]
   by_cases h64 : ((c :: l).length : Int) > 64
   · rw [if_pos h64]
     exact .inr ⟨fun ⟨t, ht⟩ => by have := ht.2.2.2.2; omega, rfl⟩
   rw [if_neg h64, if_pos (by rw [List.length_cons]; omega)]
   have er : rd_T45 (c :: l) 0 = c := rfl
   rw [er]
   have hd2 : ∀ t, LayoutOK t (c :: l) → c.f0 = 0 ∧ c.f4 ≤ 1000 ∧ c.f5 ≤ 1000 ∧ okD 0 l := fun t ht => by
     obtain ⟨c', l', e, h⟩ := head t ht
     injection e with e1 e2
     subst e1 e2
     exact h
   by_cases h0 : c.f0 = 0
   case neg =>
     rw [if_neg h0]
     exact .inr ⟨fun ⟨t, ht⟩ => h0 (hd2 t ht).1, rfl⟩
   rw [if_pos h0]
   by_cases h4 : c.f4 > 1000
   · rw [if_pos h4]
     exact .inr ⟨fun ⟨t, ht⟩ => by have := (hd2 t ht).2.1; omega, rfl⟩
   rw [if_neg h4]
   by_cases h5 : c.f5 > 1000
   · rw [decide_eq_true h5, tree_j0t]
     exact .inr ⟨fun ⟨t, ht⟩ => by have := (hd2 t ht).2.2.1; omega, rfl⟩
   rw [decide_eq_false h5, mullionref04_Tree.j0, if_neg (by simp)]
   have hl : (c :: l).length ≤ 64 := by omega
   have e : l.length + 1 ≤ 64 := hl
   have := tree_l0 (c :: l) hl l.length 1 k (by simp) (by rw [List.length_cons]; omega) (by omega) (by omega) (by show 0 ≤ c.f0; omega) (by show c.f0 ≤ _; omega)
   simp only [Nat.sub_self, List.getElem_cons_zero, List.drop_succ_cons, List.drop_zero, h0] at this
   have this : (okD 0 l → mullionref04_Tree.l0 k (c :: l) 1 = mullionref04_Tree.l0 (k - l.length) (c :: l) ((c :: l).length : Int)) ∧ (¬ okD 0 l → mullionref04_Tree.l0 k (c :: l) 1 = some (0, 0, 0, 0, [], false)) := this
   by_cases hd : okD 0 l
   · rw [this.1 hd]
     obtain ⟨m, hm⟩ : ∃ m, k - l.length = m + 1 := ⟨k - l.length - 1, by omega⟩
     rw [hm]
     obtain ⟨t0, hu, h⟩ := tree_end c l hl h0 (by omega) (by omega) hd m (by omega)
     rcases h with ⟨ho, h⟩ | ⟨ho, h⟩
     · exact .inl ⟨t0, ho, h⟩
     · exact .inr ⟨fun ⟨t, ht⟩ => ho (by rw [← hu t ht]; exact ht), h⟩
   · rw [this.2 hd]
     exact .inr ⟨fun ⟨t, ht⟩ => hd (hd2 t ht).2.2.2, rfl⟩
theorem check_f (L : List S45) (k : Nat) (hk : 10000 ≤ k) : (∃ t, readF L = some (some t) ∧ mullionref04_Check.f k L = some 0) ∨ (readF L = some none ∧ mullionref04_Check.f k L = some 40) := by
 rw [mullionref04_Check.f]
 rcases tree_f L k hk with ⟨t, ht, h⟩ | ⟨hn, h⟩
 · rw [h]
   exact .inl ⟨t, ok_read ht, rfl⟩
 · rw [h]
   refine .inr ⟨?_, rfl⟩
   obtain ⟨r, hr⟩ := read_some L
   cases r with
   | none => exact hr
   | some t => exact absurd ⟨t, read_ok hr⟩ hn
end Go.Proofs.YtmpnkckaohfflaaDoor.PGiv
end
section
namespace Go.Proofs.YtmpnkckaohfflaaDoor.PGiv
open Go.RowKit Go.Proofs.YtmpnkckaohfflaaDoorW.PrintWords Go.Proofs.YtmpnkckaohfflaaDoorW.PrintLast Go.Proofs.YtmpnkckaohfflaaDoor.K Go.Proofs.YtmpnkckaohfflaaDoor.Num Go.Proofs.YtmpnkckaohfflaaDoor.Txt Go.Proofs.YtmpnkckaohfflaaDoor.L Go.Proofs.YtmpnkckaohfflaaDoor.NGiv
open Go.Lib (decDigits decDigits_one)
set_option linter.unusedVariables false
set_option linter.unusedSimpArgs false
theorem one_digit (u : Nat) (h : u < 10) : strOfNums [(wrap64 (48 + (u : Int))) % 256] = S (decDigits u) := by
 have e : wrap64 (48 + (u : Int)) % 256 = ((UInt8.ofNat (48 + u)).toNat : Int) := by
   rw [Num.byte_nat u h]
   unfold wrap64
   omega
 rw [e, decDigits_one h]
 exact S_nums [UInt8.ofNat (48 + u)]
theorem ref_put_small (u k : Nat) (h : u < 10) (hk : 2 ≤ k) : mullionref01_PutNumber.f k (u : Int) = some (S (decDigits u)) := by
 obtain ⟨k, rfl⟩ : ∃ m, k = m + 2 := ⟨k - 2, by omega⟩
 unfold mullionref01_PutNumber.f
 rw [if_neg (by omega), show decide ((u : Int) > 4611686018427387904) = false from decide_eq_false (by omega)]
 unfold mullionref01_PutNumber.j0
 rw [if_neg (by simp), if_pos (by omega), one_digit u h]
theorem ref_put_nat (d : Nat) : ∀ (u k : Nat), u < 10 ^ (d + 1) → u ≤ 4611686018427387904 → 2 * d + 2 ≤ k → mullionref01_PutNumber.f k (u : Int) = some (S (decDigits u)) := by
 induction d with
 | zero => exact fun u k h _ hk => ref_put_small u k (by omega) (by omega)
 | succ d ih =>
   intro u k h hu hk
   by_cases h1 : u < 10
   · exact ref_put_small u k h1 (by omega)
   · obtain ⟨k, rfl⟩ : ∃ m, k = m + 2 := ⟨k - 2, by omega⟩
     have h2 : u / 10 < 10 ^ (d + 1) := by
       rw [Nat.pow_succ] at h
       omega
     have e1 : wrap64 (Int.tdiv (u : Int) 10) = ((u / 10 : Nat) : Int) := by
       rw [Int.tdiv_eq_ediv_of_nonneg (by omega)]
       unfold wrap64
       omega
     have e2 : Int.tmod (u : Int) 10 = ((u % 10 : Nat) : Int) := by
       rw [Int.tmod_eq_emod_of_nonneg (by omega)]
       omega
     have l1 := dec_len d (u / 10) h2
     have l2 := dec_len 0 (u % 10) (by omega)
     have hd : d ≤ k := by omega
     unfold mullionref01_PutNumber.f
     rw [if_neg (by omega), show decide ((u : Int) > 4611686018427387904) = false from decide_eq_false (by omega)]
     unfold mullionref01_PutNumber.j0
     rw [if_neg (by simp), if_neg (by omega), e1, e2, ih (u / 10) k h2 (by omega) (by omega), ref_put_small (u % 10) k (by omega) (by omega)]
     simp only [Option.bind_some]
     have l3 : (decDigits (u / 10)).length ≤ 20 := by
       have := dec_len 18 (u / 10) (by omega)
       omega
     rw [if_pos (by rw [S_size, S_size]; omega), S_app, dec_big u h1, decDigits_one (show u % 10 < 10 by omega)]
theorem ref_put (n : Int) (k : Nat) (hk : 40 ≤ k) : mullionref01_PutNumber.f k n = some (S (putNum n)) := by
 rcases putNum_cases n with ⟨h, p⟩ | ⟨u, rfl, hu, p⟩
 · rw [p]
   obtain ⟨k, rfl⟩ : ∃ m, k = m + 2 := ⟨k - 2, by omega⟩
   unfold mullionref01_PutNumber.f
   by_cases a : n < 0
   · rw [if_pos a]
     unfold mullionref01_PutNumber.j0
     rw [if_pos rfl]
   · rw [if_neg a, show decide (n > 4611686018427387904) = true from decide_eq_true (by omega)]
     unfold mullionref01_PutNumber.j0
     rw [if_pos rfl]
 · rw [p]
   exact ref_put_nat 18 u k (by omega) hu (by omega)
theorem step_ref (n c : Int) (h0 : 0 ≤ n) (h1 : n ≤ 65535) (c0 : 0 ≤ c) (c1 : c ≤ 255) :
   Int.tmod (wrap64 ((wrap64 ((wrap64 (Int.tdiv n 2)) + (wrap64 (32768 * (Int.tmod n 2))))) + (wrap64 c))) 65536 = (n / 2 + n % 2 * 32768 + c) % 65536 := by
 rw [Int.tdiv_eq_ediv_of_nonneg h0, Int.tmod_eq_emod_of_nonneg h0]
 have w1 : wrap64 (n / 2) = n / 2 := by unfold wrap64; omega
 have w2 : wrap64 (32768 * (n % 2)) = 32768 * (n % 2) := by unfold wrap64; omega
 have w3 : wrap64 c = c := by unfold wrap64; omega
 rw [w1, w2, w3]
 have w4 : wrap64 (n / 2 + 32768 * (n % 2)) = n / 2 + 32768 * (n % 2) := by unfold wrap64; omega
 rw [w4]
 have w5 : wrap64 (n / 2 + 32768 * (n % 2) + c) = n / 2 + 32768 * (n % 2) + c := by unfold wrap64; omega
 rw [w5, Int.tmod_eq_emod_of_nonneg (by omega)]
 omega
theorem ref_sum (suf : List UInt8) : ∀ (pre : List UInt8) (k : Nat) (n i : Int), i = pre.length → 0 ≤ n → n ≤ 65535 → (pre ++ suf).length ≤ 1000000 → suf.length < k →
   mullionref05_Sum.l0 k (S (pre ++ suf)) n i = some (Sm.sumFrom n suf) := by
 induction suf with
 | nil =>
   intro pre k n i hi n0 n1 hl hk
   obtain ⟨k, rfl⟩ : ∃ m, k = m + 1 := ⟨k - 1, by simp at hk; omega⟩
   simp only [mullionref05_Sum.l0]
   rw [if_neg (by rw [S_size]; simp; omega)]
   rfl
 | cons c suf ih =>
   intro pre k n i hi n0 n1 hl hk
   obtain ⟨k, rfl⟩ : ∃ m, k = m + 1 := ⟨k - 1, by simp at hk; omega⟩
   have hlen : pre.length + (suf.length + 1) ≤ 1000000 := by simpa using hl
   have e : pre ++ c :: suf = (pre ++ [c]) ++ suf := by simp
   have hc : c.toNat < 256 := c.toNat_lt
   have h := ih (pre ++ [c]) k (Sm.step n (c.toNat : Int)) (i + 1) (by rw [hi]; simp) (Sm.step_range _ _).1 (Sm.step_range _ _).2 (by rw [← e]; exact hl) (by simp at hk; omega)
   have q1 : i < ((S (pre ++ c :: suf)).size : Int) := by rw [S_size]; simp; omega
   have q2 : 0 ≤ i := by omega
   have wi : wrap64 (i + 1) = i + 1 := IntWalk.wrap64_in _ (by omega)
   simp only [mullionref05_Sum.l0]
   rw [if_pos q1, if_pos q2, bt_mid _ _ _ _ hi, wi, step_ref n _ n0 n1 (by clear wi; omega) (by clear wi; omega), Sm.sumFrom_cons, e]
   exact h
theorem ref_sum_f (l : List UInt8) (k : Nat) (hl : l.length ≤ 1000000) (hk : l.length < k) : mullionref05_Sum.f k (S l) = some (Sm.sum l) :=
 ref_sum l [] k 0 0 rfl (by omega) (by omega) hl hk
theorem hexcut : ∀ d : Nat, d < 16 → (⟨#[48, 49, 50, 51, 52, 53, 54, 55, 56, 57, 97, 98, 99, 100, 101, 102]⟩ : ByteArray).extract d (d + 1) = strOfNums [bt hexD (d : Int)] := by decide +kernel
theorem hexcut' (d : Int) (h0 : 0 ≤ d) (h1 : d < 16) : (⟨#[48, 49, 50, 51, 52, 53, 54, 55, 56, 57, 97, 98, 99, 100, 101, 102]⟩ : ByteArray).extract d.toNat (d + 1).toNat = strOfNums [bt hexD d] := by
 obtain ⟨m, rfl⟩ := Int.eq_ofNat_of_zero_le h0
 exact hexcut m (by omega)
theorem ref_four (n : Int) (h0 : 0 ≤ n) (h1 : n ≤ 65535) : mullionref05_four.f n = some (fourT n) := by
 have e0 : Int.tdiv n 4096 = n / 4096 := Int.tdiv_eq_ediv_of_nonneg h0
 have e1 : Int.tdiv n 256 = n / 256 := Int.tdiv_eq_ediv_of_nonneg h0
 have e2 : Int.tdiv n 16 = n / 16 := Int.tdiv_eq_ediv_of_nonneg h0
 have r0 : 0 ≤ n / 4096 ∧ n / 4096 < 16 := by omega
 have r1 : 0 ≤ n / 256 ∧ n / 256 ≤ 65535 := by omega
 have r2 : 0 ≤ n / 16 ∧ n / 16 ≤ 65535 := by omega
 have m1 : Int.tmod (n / 256) 16 = n / 256 % 16 := Int.tmod_eq_emod_of_nonneg r1.1
 have m2 : Int.tmod (n / 16) 16 = n / 16 % 16 := Int.tmod_eq_emod_of_nonneg r2.1
 have m3 : Int.tmod n 16 = n % 16 := Int.tmod_eq_emod_of_nonneg h0
 have t0 : n / 4096 % 16 = n / 4096 := Int.emod_eq_of_lt r0.1 r0.2
 have s1 : 0 ≤ n / 256 % 16 ∧ n / 256 % 16 < 16 := by omega
 have s2 : 0 ≤ n / 16 % 16 ∧ n / 16 % 16 < 16 := by omega
 have s3 : 0 ≤ n % 16 ∧ n % 16 < 16 := by omega
 have w0 : wrap64 (n / 4096) = n / 4096 := IntWalk.wrap64_in _ (by omega)
 have w1 : wrap64 (n / 256) = n / 256 := IntWalk.wrap64_in _ (by omega)
 have w2 : wrap64 (n / 16) = n / 16 := IntWalk.wrap64_in _ (by omega)
 have v0 : wrap64 (n / 4096 + 1) = n / 4096 + 1 := IntWalk.wrap64_in _ (by omega)
 have v1 : wrap64 (n / 256 % 16 + 1) = n / 256 % 16 + 1 := IntWalk.wrap64_in _ (by omega)
 have v2 : wrap64 (n / 16 % 16 + 1) = n / 16 % 16 + 1 := IntWalk.wrap64_in _ (by omega)
 have v3 : wrap64 (n % 16 + 1) = n % 16 + 1 := IntWalk.wrap64_in _ (by omega)
 unfold mullionref05_four.f
 rw [e0, e1, e2, w0, w1, w2, m1, m2, m3, v0, v1, v2, v3]
 clear e0 e1 e2 w0 w1 w2 m1 m2 m3 v0 v1 v2 v3
 rw [hexcut' _ r0.1 r0.2, hexcut' _ s1.1 s1.2, hexcut' _ s2.1 s2.2, hexcut' _ s3.1 s3.2]
 unfold fourT
 rw [t0]
 clear t0
 generalize hA : n / 4096 = a at *
 generalize hB : n / 256 % 16 = b at *
 generalize hC : n / 16 % 16 = c at *
 generalize hD : n % 16 = d at *
 have z : ∀ l : List Int, (strOfNums l).size = l.length := strOfNums_size
 rw [if_pos (by omega), if_pos (by omega), if_pos (by omega), if_pos (by omega), if_pos (by omega), if_pos (by omega), if_pos (by rw [z, z]; simp), if_pos (by omega), if_pos (by omega), if_pos (by omega), if_pos (by rw [ByteArray.size_append, z, z, z]; simp), if_pos (by omega), if_pos (by omega), if_pos (by omega), if_pos (by rw [ByteArray.size_append, ByteArray.size_append, z, z, z, z]; simp)]
 congr 1
end Go.Proofs.YtmpnkckaohfflaaDoor.PGiv
end
section
namespace Go.Proofs.YtmpnkckaohfflaaDoor.L
open Go.Proofs.YtmpnkckaohfflaaDoor.K Go.RowKit Go.Proofs.YtmpnkckaohfflaaDoorW.PrintWords Go.Proofs.YtmpnkckaohfflaaDoorW.PrintLast Go.Proofs.YtmpnkckaohfflaaDoorW.PrintMore
attribute [local go_sem] max2_int min2_int max_two min_two max_three min_three max_four min_four
set_option linter.unusedVariables false
set_option linter.unusedSimpArgs false
def mullionref01_Number.l0 : Nat → ByteArray → Int → Int → Option (Int × Bool)
 | 0, _, _, _ => none
 | k + 1, x0, x4, x5 => if x5 < (x0.size : Int) then (if 0 ≤ x5 then (if (bt x0 x5) < 48 then (some (0, false)) else (if (bt x0 x5) > 57 then (some (0, false)) else (if x5 > 18 then (some (0, false)) else (if x4 > 461168601842738790 then (some (0, false)) else (mullionref01_Number.l0 k x0 (wrap64 ((wrap64 (10 * x4)) + (((bt x0 x5) - 48) % 256))) (wrap64 (x5 + 1))))))) else (none)) else (if x0.toList = ([] : List UInt8) then (some (0, false)) else ((mullionref01_PutNumber.f k x4).bind fun t239 => (if t239.toList = x0.toList then (some (x4, true)) else (some (0, false)))))
def mullionref01_Number.f (k : Nat) (a0 : ByteArray) : Option (Int × Bool) := mullionref01_Number.l0 k a0 0 0
theorem mullionref01_Number.mono_l : ∀ k, (∀ y0 y1 y2, LeO (mullionref01_Number.l0 k y0 y1 y2) (mullionref01_Number.l0 (k + 1) y0 y1 y2))
 | 0 => fun _ _ _ r h => by simp [mullionref01_Number.l0] at h
 | k + 1 => by
   have ih0 := mullionref01_Number.mono_l k
   · intro y0 y1 y2
     unfold mullionref01_Number.l0
     repeat' first
     | (with_reducible exact ih0 _ _ _)
     | (with_reducible exact mullionref01_PutNumber.mono _ _)
     | (with_reducible exact LeO.refl _)
     | (with_reducible exact LeO.none _)
     | (with_reducible refine LeO.ite ?_ ?_)
     | (with_reducible refine LeO.bind ?_ (fun _ => ?_))
     | exact ih0 _ _ _
     | exact mullionref01_PutNumber.mono _ _
     | exact LeO.none _
     | refine LeO.ite ?_ ?_
     | refine LeO.bind ?_ (fun _ => ?_)
theorem mullionref01_Number.mono : ∀ a0 k, LeO (mullionref01_Number.f k a0) (mullionref01_Number.f (k + 1) a0) := by
 intro a0 k
 have ih0 := mullionref01_Number.mono_l k
 unfold mullionref01_Number.f
 repeat' first
     | (with_reducible exact ih0 _ _ _)
     | (with_reducible exact mullionref01_PutNumber.mono _ _)
     | (with_reducible exact LeO.refl _)
     | (with_reducible exact LeO.none _)
     | (with_reducible refine LeO.ite ?_ ?_)
     | (with_reducible refine LeO.bind ?_ (fun _ => ?_))
     | exact ih0 _ _ _
     | exact mullionref01_PutNumber.mono _ _
     | exact LeO.none _
     | refine LeO.ite ?_ ?_
     | refine LeO.bind ?_ (fun _ => ?_)
set_option maxHeartbeats 8000000 in
set_option maxRecDepth 100000 in
theorem mullionref01_Number.calls (k : Nat) (a0 : ByteArray) (r1 : Int) (r2 : Bool) (w : World) (h : mullionref01_Number.f k a0 = some (r1, r2)) :
   Calls Tryd.prog 67 #[.string a0] w fun e w' => e = .returned (.tuple #[.int .i64 r1, .bool r2]) ∧ Below w.heap.size w w' := by
 have HB := Aside0.mk (Below.refl w.heap.size w)
 have H : (mullionref01_Number.l0 k a0 0 0) = some (r1, r2) := h
 clear h
 have H' := Aside0.mk H
 clear H
 go_enter Tryd.func67, Tryd.ntmps67
 go_wp2
 go_loopg [4, 5] k (fun kq v4 v5 w' => ∃ (x4_1 : Int) (x5_1 : Int), v4 = .int .i64 x4_1 ∧ v5 = .int .i64 x5_1 ∧ Aside0 (mullionref01_Number.l0 kq a0 x4_1 x5_1 = some (r1, r2)) ∧ Aside0 (kq ≤ k) ∧ Aside0 (Below w.heap.size w w'))
 case atStart => exact ⟨(0), (0), (by first | rfl | (simp; done) | (simp [*]; done)), (by first | rfl | (simp; done) | (simp [*]; done)), H', ⟨Nat.le_refl _⟩, ⟨by repeat (first | (with_reducible first | exact HB.out | apply below_alloc | apply pw_below_drewN | apply below_drew1) | exact HB.out)⟩⟩
 case round =>
   clear H'
   obtain ⟨x4_1, x5_1, rfl, rfl, HA, HK1, HB⟩ := hrel
   cases gk with
   | zero => exact absurd HA.out (by simp [mullionref01_Number.l0])
   | succ k1 =>
     have H := HA.out
     clear HA
     simp only [mullionref01_Number.l0] at H
     by_cases c2 : x5_1 < (a0.size : Int)
     · rw [if_pos c2] at H
       have c2b0 : decide (x5_1 < (a0.size : Int)) = true := decide_eq_true c2
       clear c2
       by_cases c3 : 0 ≤ x5_1
       · rw [if_pos c3] at H
         have c3b0 : decide (0 ≤ x5_1) = true := decide_eq_true c3
         clear c3
         by_cases c5 : (bt a0 x5_1) < 48
         · rw [if_pos c5] at H
           have c5b0 : decide ((bt a0 x5_1) < 48) = true := decide_eq_true c5
           clear c5
           simp only [Option.some.injEq, Prod.mk.injEq] at H
           obtain ⟨rfl, rfl⟩ := H
           have p4 : 0 ≤ (x5_1 : Int) := of_decide_eq_true (by first | (with_reducible assumption) | assumption)
           have q4 : x5_1 < (a0.size : Int) := of_decide_eq_true (by first | (with_reducible assumption) | assumption)
           have hx4 := bt_at a0 x5_1
           replace p4 := eq_true p4
           replace q4 := eq_true q4
           go_wp2
           go_ret2
           exact ⟨by first | rfl | (simp [errW_none, errW_some] <;> rfl) | (simp [*, errW_none, errW_some] <;> rfl), by repeat (first | (with_reducible first | exact HB.out | apply below_alloc | apply pw_below_drewN | apply below_drew1) | exact HB.out)⟩
         · rw [if_neg c5] at H
           have c5b0 : decide ((bt a0 x5_1) < 48) = false := decide_eq_false c5
           clear c5
           by_cases c7 : (bt a0 x5_1) > 57
           · rw [if_pos c7] at H
             have c7b0 : decide (57 < (bt a0 x5_1)) = true := decide_eq_true c7
             clear c7
             simp only [Option.some.injEq, Prod.mk.injEq] at H
             obtain ⟨rfl, rfl⟩ := H
             have p4 : 0 ≤ (x5_1 : Int) := of_decide_eq_true (by first | (with_reducible assumption) | assumption)
             have q4 : x5_1 < (a0.size : Int) := of_decide_eq_true (by first | (with_reducible assumption) | assumption)
             have hx4 := bt_at a0 x5_1
             replace p4 := eq_true p4
             replace q4 := eq_true q4
             have p6 : 0 ≤ (x5_1 : Int) := of_decide_eq_true (by first | (with_reducible assumption) | assumption)
             have q6 : x5_1 < (a0.size : Int) := of_decide_eq_true (by first | (with_reducible assumption) | assumption)
             have hx6 := bt_at a0 x5_1
             replace p6 := eq_true p6
             replace q6 := eq_true q6
             go_wp2
             go_ret2
             exact ⟨by first | rfl | (simp [errW_none, errW_some] <;> rfl) | (simp [*, errW_none, errW_some] <;> rfl), by repeat (first | (with_reducible first | exact HB.out | apply below_alloc | apply pw_below_drewN | apply below_drew1) | exact HB.out)⟩
           · rw [if_neg c7] at H
             have c7b0 : decide (57 < (bt a0 x5_1)) = false := decide_eq_false c7
             clear c7
             by_cases c8 : x5_1 > 18
             · rw [if_pos c8] at H
               have c8b0 : decide (18 < x5_1) = true := decide_eq_true c8
               clear c8
               simp only [Option.some.injEq, Prod.mk.injEq] at H
               obtain ⟨rfl, rfl⟩ := H
               have p4 : 0 ≤ (x5_1 : Int) := of_decide_eq_true (by first | (with_reducible assumption) | assumption)
               have q4 : x5_1 < (a0.size : Int) := of_decide_eq_true (by first | (with_reducible assumption) | assumption)
               have hx4 := bt_at a0 x5_1
               replace p4 := eq_true p4
               replace q4 := eq_true q4
               have p6 : 0 ≤ (x5_1 : Int) := of_decide_eq_true (by first | (with_reducible assumption) | assumption)
               have q6 : x5_1 < (a0.size : Int) := of_decide_eq_true (by first | (with_reducible assumption) | assumption)
               have hx6 := bt_at a0 x5_1
               replace p6 := eq_true p6
               replace q6 := eq_true q6
               go_wp2
               go_ret2
               exact ⟨by first | rfl | (simp [errW_none, errW_some] <;> rfl) | (simp [*, errW_none, errW_some] <;> rfl), by repeat (first | (with_reducible first | exact HB.out | apply below_alloc | apply pw_below_drewN | apply below_drew1) | exact HB.out)⟩
             · rw [if_neg c8] at H
               have c8b0 : decide (18 < x5_1) = false := decide_eq_false c8
               clear c8
               by_cases c9 : x4_1 > 461168601842738790
               · rw [if_pos c9] at H
                 have c9b0 : decide (461168601842738790 < x4_1) = true := decide_eq_true c9
                 clear c9
                 simp only [Option.some.injEq, Prod.mk.injEq] at H
                 obtain ⟨rfl, rfl⟩ := H
                 have p4 : 0 ≤ (x5_1 : Int) := of_decide_eq_true (by first | (with_reducible assumption) | assumption)
                 have q4 : x5_1 < (a0.size : Int) := of_decide_eq_true (by first | (with_reducible assumption) | assumption)
                 have hx4 := bt_at a0 x5_1
                 replace p4 := eq_true p4
                 replace q4 := eq_true q4
                 have p6 : 0 ≤ (x5_1 : Int) := of_decide_eq_true (by first | (with_reducible assumption) | assumption)
                 have q6 : x5_1 < (a0.size : Int) := of_decide_eq_true (by first | (with_reducible assumption) | assumption)
                 have hx6 := bt_at a0 x5_1
                 replace p6 := eq_true p6
                 replace q6 := eq_true q6
                 go_wp2
                 go_ret2
                 exact ⟨by first | rfl | (simp [errW_none, errW_some] <;> rfl) | (simp [*, errW_none, errW_some] <;> rfl), by repeat (first | (with_reducible first | exact HB.out | apply below_alloc | apply pw_below_drewN | apply below_drew1) | exact HB.out)⟩
               · rw [if_neg c9] at H
                 have c9b0 : decide (461168601842738790 < x4_1) = false := decide_eq_false c9
                 clear c9
                 have H' := Aside0.mk H
                 clear H
                 have p4 : 0 ≤ (x5_1 : Int) := of_decide_eq_true (by first | (with_reducible assumption) | assumption)
                 have q4 : x5_1 < (a0.size : Int) := of_decide_eq_true (by first | (with_reducible assumption) | assumption)
                 have hx4 := bt_at a0 x5_1
                 replace p4 := eq_true p4
                 replace q4 := eq_true q4
                 have p6 : 0 ≤ (x5_1 : Int) := of_decide_eq_true (by first | (with_reducible assumption) | assumption)
                 have q6 : x5_1 < (a0.size : Int) := of_decide_eq_true (by first | (with_reducible assumption) | assumption)
                 have hx6 := bt_at a0 x5_1
                 replace p6 := eq_true p6
                 replace q6 := eq_true q6
                 have p10 : 0 ≤ (x5_1 : Int) := of_decide_eq_true (by first | (with_reducible assumption) | assumption)
                 have q10 : x5_1 < (a0.size : Int) := of_decide_eq_true (by first | (with_reducible assumption) | assumption)
                 have hx10 := bt_at a0 x5_1
                 replace p10 := eq_true p10
                 replace q10 := eq_true q10
                 go_wp2
                 go_roundg k1
                 case measure => have := HK1.out; omega
                 case rel => exact ⟨(wrap64 ((wrap64 (10 * x4_1)) + (((bt a0 x5_1) - 48) % 256))), (wrap64 (x5_1 + 1)), (by first | rfl | (simp; done) | (simp [*]; done)), (by first | rfl | (simp; done) | (simp [*]; done)), H', ⟨by have := HK1.out; omega⟩, ⟨by repeat (first | (with_reducible first | exact HB.out | apply below_alloc | apply pw_below_drewN | apply below_drew1) | exact HB.out)⟩⟩
       · rw [if_neg c3] at H
         exact absurd H (by simp)
     · rw [if_neg c2] at H
       have c2b0 : decide (x5_1 < (a0.size : Int)) = false := decide_eq_false c2
       clear c2
       by_cases c11 : a0.toList = ([] : List UInt8)
       · rw [if_pos c11] at H
         have c11b0 : (a0.toList == ([] : List UInt8)) = true := beq_iff_eq.mpr c11
         have c11b1 : (a0.toList != ([] : List UInt8)) = false := bne_eq_false_iff_eq.mpr c11
         clear c11
         simp only [Option.some.injEq, Prod.mk.injEq] at H
         obtain ⟨rfl, rfl⟩ := H
         go_wp2
         go_ret2
         exact ⟨by first | rfl | (simp [errW_none, errW_some] <;> rfl) | (simp [*, errW_none, errW_some] <;> rfl), by repeat (first | (with_reducible first | exact HB.out | apply below_alloc | apply pw_below_drewN | apply below_drew1) | exact HB.out)⟩
       · rw [if_neg c11] at H
         have c11b0 : (a0.toList == ([] : List UInt8)) = false := beq_eq_false_iff_ne.mpr c11
         have c11b1 : (a0.toList != ([] : List UInt8)) = true := bne_iff_ne.mpr c11
         replace H := Option.bind_eq_some_iff.mp H
         obtain ⟨t239, A120, H⟩ := H
         replace H : (if t239.toList = a0.toList then (some (x4_1, true)) else (some (0, false))) = some (r1, r2) := H
         have A12 := Aside0.mk A120
         clear A120
         by_cases c13 : t239.toList = a0.toList
         · rw [if_pos c13] at H
           have c13b0 : (t239.toList == a0.toList) = true := beq_iff_eq.mpr c13
           have c13b1 : (t239.toList != a0.toList) = false := bne_eq_false_iff_eq.mpr c13
           clear c13
           simp only [Option.some.injEq, Prod.mk.injEq] at H
           obtain ⟨rfl, rfl⟩ := H
           go_wp2_with (first | (go_at_call 40; (with_reducible refine (mullionref01_PutNumber.calls k1 x4_1 t239 _ A12.out).mono ?_); rintro e w14 ⟨rfl, hb⟩; have n0_ := Aside0.mk (below_step (by repeat (first | (with_reducible first | exact HB.out | apply below_alloc | apply pw_below_drewN | apply below_drew1) | exact HB.out)) hb); clear HB; have HB := n0_; clear n0_; (try clear hb); (try clear hb2); (try clear hk); (try clear hi)))
           go_ret2
           exact ⟨by first | rfl | (simp [errW_none, errW_some] <;> rfl) | (simp [*, errW_none, errW_some] <;> rfl), by repeat (first | (with_reducible first | exact HB.out | apply below_alloc | apply pw_below_drewN | apply below_drew1) | exact HB.out)⟩
         · rw [if_neg c13] at H
           have c13b0 : (t239.toList == a0.toList) = false := beq_eq_false_iff_ne.mpr c13
           have c13b1 : (t239.toList != a0.toList) = true := bne_iff_ne.mpr c13
           simp only [Option.some.injEq, Prod.mk.injEq] at H
           obtain ⟨rfl, rfl⟩ := H
           go_wp2_with (first | (go_at_call 40; (with_reducible refine (mullionref01_PutNumber.calls k1 x4_1 t239 _ A12.out).mono ?_); rintro e w15 ⟨rfl, hb⟩; have n0_ := Aside0.mk (below_step (by repeat (first | (with_reducible first | exact HB.out | apply below_alloc | apply pw_below_drewN | apply below_drew1) | exact HB.out)) hb); clear HB; have HB := n0_; clear n0_; (try clear hb); (try clear hb2); (try clear hk); (try clear hi)))
           go_ret2
           exact ⟨by first | rfl | (simp [errW_none, errW_some] <;> rfl) | (simp [*, errW_none, errW_some] <;> rfl), by repeat (first | (with_reducible first | exact HB.out | apply below_alloc | apply pw_below_drewN | apply below_drew1) | exact HB.out)⟩
def mullionref05_number.l0 : Nat → ByteArray → Int → Option (Int × ByteArray × Bool)
 | 0, _, _ => none
 | k + 1, x0, x5 => if x5 < (x0.size : Int) then (if 0 ≤ x5 then (if (bt x0 x5) ≥ 48 then (if (bt x0 x5) ≤ 57 then (mullionref05_number.l0 k x0 (wrap64 (x5 + 1))) else (if x5 ≤ (x0.size : Int) then ((mullionref01_Number.f k (x0.extract 0 (x5 : Int).toNat)).bind fun bt240 => (some (bt240.1, x0.extract (x5 : Int).toNat x0.size, bt240.2))) else (none))) else (if x5 ≤ (x0.size : Int) then ((mullionref01_Number.f k (x0.extract 0 (x5 : Int).toNat)).bind fun bt242 => (some (bt242.1, x0.extract (x5 : Int).toNat x0.size, bt242.2))) else (none))) else (none)) else (if 0 ≤ x5 then (if x5 ≤ (x0.size : Int) then ((mullionref01_Number.f k (x0.extract 0 (x5 : Int).toNat)).bind fun bt244 => (some (bt244.1, x0.extract (x5 : Int).toNat x0.size, bt244.2))) else (none)) else (none))
def mullionref05_number.f (k : Nat) (a0 : ByteArray) : Option (Int × ByteArray × Bool) := mullionref05_number.l0 k a0 0
theorem mullionref05_number.mono_l : ∀ k, (∀ y0 y1, LeO (mullionref05_number.l0 k y0 y1) (mullionref05_number.l0 (k + 1) y0 y1))
 | 0 => fun _ _ r h => by simp [mullionref05_number.l0] at h
 | k + 1 => by
   have ih0 := mullionref05_number.mono_l k
   · intro y0 y1
     unfold mullionref05_number.l0
     repeat' first
     | (with_reducible exact ih0 _ _)
     | (with_reducible exact mullionref01_Number.mono _ _)
     | (with_reducible exact LeO.refl _)
     | (with_reducible exact LeO.none _)
     | (with_reducible refine LeO.ite ?_ ?_)
     | (with_reducible refine LeO.bind ?_ (fun _ => ?_))
     | exact ih0 _ _
     | exact mullionref01_Number.mono _ _
     | exact LeO.none _
     | refine LeO.ite ?_ ?_
     | refine LeO.bind ?_ (fun _ => ?_)
theorem mullionref05_number.mono : ∀ a0 k, LeO (mullionref05_number.f k a0) (mullionref05_number.f (k + 1) a0) := by
 intro a0 k
 have ih0 := mullionref05_number.mono_l k
 unfold mullionref05_number.f
 repeat' first
     | (with_reducible exact ih0 _ _)
     | (with_reducible exact mullionref01_Number.mono _ _)
     | (with_reducible exact LeO.refl _)
     | (with_reducible exact LeO.none _)
     | (with_reducible refine LeO.ite ?_ ?_)
     | (with_reducible refine LeO.bind ?_ (fun _ => ?_))
     | exact ih0 _ _
     | exact mullionref01_Number.mono _ _
     | exact LeO.none _
     | refine LeO.ite ?_ ?_
     | refine LeO.bind ?_ (fun _ => ?_)
set_option maxHeartbeats 8000000 in
set_option maxRecDepth 100000 in
theorem mullionref05_number.calls (k : Nat) (a0 : ByteArray) (r1 : Int) (r2 : ByteArray) (r3 : Bool) (w : World) (h : mullionref05_number.f k a0 = some (r1, r2, r3)) :
   Calls Tryd.prog 46 #[.string a0] w fun e w' => e = .returned (.tuple #[.int .i64 r1, .string r2, .bool r3]) ∧ Below w.heap.size w w' := by
 have HB := Aside0.mk (Below.refl w.heap.size w)
 have H : (mullionref05_number.l0 k a0 0) = some (r1, r2, r3) := h
 clear h
 have H' := Aside0.mk H
 clear H
 go_enter Tryd.func46, Tryd.ntmps46
 go_wp2
 repeat (go_quiet (fail); try go_wp2)
 go_loopg [5] k (fun kq v5 w' => ∃ (x5_1 : Int), v5 = .int .i64 x5_1 ∧ Aside0 (mullionref05_number.l0 kq a0 x5_1 = some (r1, r2, r3)) ∧ Aside0 (kq ≤ k) ∧ Aside0 (Below w.heap.size w w'))
 case atStart => exact ⟨(0), (by first | rfl | (simp; done) | (simp [*]; done)), H', ⟨Nat.le_refl _⟩, ⟨by repeat (first | (with_reducible first | exact HB.out | apply below_alloc | apply pw_below_drewN | apply below_drew1) | exact HB.out)⟩⟩
 case round =>
   clear H'
   obtain ⟨x5_1, rfl, HA, HK1, HB⟩ := hrel
   cases gk with
   | zero => exact absurd HA.out (by simp [mullionref05_number.l0])
   | succ k1 =>
     have H := HA.out
     clear HA
     simp only [mullionref05_number.l0] at H
     by_cases c2 : x5_1 < (a0.size : Int)
     · rw [if_pos c2] at H
       have c2b0 : decide (x5_1 < (a0.size : Int)) = true := decide_eq_true c2
       clear c2
       by_cases c3 : 0 ≤ x5_1
       · rw [if_pos c3] at H
         have c3b0 : decide (0 ≤ x5_1) = true := decide_eq_true c3
         clear c3
         by_cases c5 : (bt a0 x5_1) ≥ 48
         · rw [if_pos c5] at H
           have c5b0 : decide (48 ≤ (bt a0 x5_1)) = true := decide_eq_true c5
           clear c5
           by_cases c7 : (bt a0 x5_1) ≤ 57
           · rw [if_pos c7] at H
             have c7b0 : decide ((bt a0 x5_1) ≤ 57) = true := decide_eq_true c7
             clear c7
             have H' := Aside0.mk H
             clear H
             have p4 : 0 ≤ (x5_1 : Int) := of_decide_eq_true (by first | (with_reducible assumption) | assumption)
             have q4 : x5_1 < (a0.size : Int) := of_decide_eq_true (by first | (with_reducible assumption) | assumption)
             have hx4 := bt_at a0 x5_1
             replace p4 := eq_true p4
             replace q4 := eq_true q4
             have p6 : 0 ≤ (x5_1 : Int) := of_decide_eq_true (by first | (with_reducible assumption) | assumption)
             have q6 : x5_1 < (a0.size : Int) := of_decide_eq_true (by first | (with_reducible assumption) | assumption)
             have hx6 := bt_at a0 x5_1
             replace p6 := eq_true p6
             replace q6 := eq_true q6
             go_wp2
             repeat (go_quiet (fail); try go_wp2)
             go_roundg k1
             case measure => have := HK1.out; omega
             case rel => exact ⟨(wrap64 (x5_1 + 1)), (by first | rfl | (simp; done) | (simp [*]; done)), H', ⟨by have := HK1.out; omega⟩, ⟨by repeat (first | (with_reducible first | exact HB.out | apply below_alloc | apply pw_below_drewN | apply below_drew1) | exact HB.out)⟩⟩
           · rw [if_neg c7] at H
             have c7b0 : decide ((bt a0 x5_1) ≤ 57) = false := decide_eq_false c7
             clear c7
             have c8b0 := eq_true (of_decide_eq_true (by first | (with_reducible assumption) | assumption) : 0 ≤ x5_1)
             by_cases c9 : x5_1 ≤ (a0.size : Int)
             · rw [if_pos c9] at H
               have c9b0 := eq_true c9
               have c9b1 : decide (x5_1 ≤ (a0.size : Int)) = true := decide_eq_true c9
               clear c9
               replace H := Option.bind_eq_some_iff.mp H
               obtain ⟨⟨t240, t241⟩, A100, H⟩ := H
               replace H : (some (t240, a0.extract (x5_1 : Int).toNat a0.size, t241)) = some (r1, r2, r3) := H
               have A10 := Aside0.mk A100
               clear A100
               have c11b0 := eq_true (of_decide_eq_true (by first | (with_reducible assumption) | assumption) : 0 ≤ x5_1)
               have c12b0 := eq_true (of_decide_eq_true (by first | (with_reducible assumption) | assumption) : x5_1 ≤ (a0.size : Int))
               simp only [Option.some.injEq, Prod.mk.injEq] at H
               obtain ⟨rfl, rfl, rfl⟩ := H
               have p4 : 0 ≤ (x5_1 : Int) := of_decide_eq_true (by first | (with_reducible assumption) | assumption)
               have q4 : x5_1 < (a0.size : Int) := of_decide_eq_true (by first | (with_reducible assumption) | assumption)
               have hx4 := bt_at a0 x5_1
               replace p4 := eq_true p4
               replace q4 := eq_true q4
               have p6 : 0 ≤ (x5_1 : Int) := of_decide_eq_true (by first | (with_reducible assumption) | assumption)
               have q6 : x5_1 < (a0.size : Int) := of_decide_eq_true (by first | (with_reducible assumption) | assumption)
               have hx6 := bt_at a0 x5_1
               replace p6 := eq_true p6
               replace q6 := eq_true q6
               go_wp2_with (first | (go_at_call 67; (with_reducible refine (mullionref01_Number.calls k1 (a0.extract 0 (x5_1 : Int).toNat) t240 t241 _ A10.out).mono ?_); rintro e w13 ⟨rfl, hb⟩; have n0_ := Aside0.mk (below_step (by repeat (first | (with_reducible first | exact HB.out | apply below_alloc | apply pw_below_drewN | apply below_drew1) | exact HB.out)) hb); clear HB; have HB := n0_; clear n0_; (try clear hb); (try clear hb2); (try clear hk); (try clear hi)))
               repeat (go_quiet (fail); try go_wp2_with (first | (go_at_call 67; (with_reducible refine (mullionref01_Number.calls k1 (a0.extract 0 (x5_1 : Int).toNat) t240 t241 _ A10.out).mono ?_); rintro e w13 ⟨rfl, hb⟩; have n0_ := Aside0.mk (below_step (by repeat (first | (with_reducible first | exact HB.out | apply below_alloc | apply pw_below_drewN | apply below_drew1) | exact HB.out)) hb); clear HB; have HB := n0_; clear n0_; (try clear hb); (try clear hb2); (try clear hk); (try clear hi))))
               go_ret3
               exact ⟨by first | rfl | (simp [errW_none, errW_some] <;> rfl) | (simp [*, errW_none, errW_some] <;> rfl), by repeat (first | (with_reducible first | exact HB.out | apply below_alloc | apply pw_below_drewN | apply below_drew1) | exact HB.out)⟩
             · rw [if_neg c9] at H
               exact absurd H (by simp)
         · rw [if_neg c5] at H
           have c5b0 : decide (48 ≤ (bt a0 x5_1)) = false := decide_eq_false c5
           clear c5
           have c14b0 := eq_true (of_decide_eq_true (by first | (with_reducible assumption) | assumption) : 0 ≤ x5_1)
           by_cases c15 : x5_1 ≤ (a0.size : Int)
           · rw [if_pos c15] at H
             have c15b0 := eq_true c15
             have c15b1 : decide (x5_1 ≤ (a0.size : Int)) = true := decide_eq_true c15
             clear c15
             replace H := Option.bind_eq_some_iff.mp H
             obtain ⟨⟨t242, t243⟩, A160, H⟩ := H
             replace H : (some (t242, a0.extract (x5_1 : Int).toNat a0.size, t243)) = some (r1, r2, r3) := H
             have A16 := Aside0.mk A160
             clear A160
             have c17b0 := eq_true (of_decide_eq_true (by first | (with_reducible assumption) | assumption) : 0 ≤ x5_1)
             have c18b0 := eq_true (of_decide_eq_true (by first | (with_reducible assumption) | assumption) : x5_1 ≤ (a0.size : Int))
             simp only [Option.some.injEq, Prod.mk.injEq] at H
             obtain ⟨rfl, rfl, rfl⟩ := H
             have p4 : 0 ≤ (x5_1 : Int) := of_decide_eq_true (by first | (with_reducible assumption) | assumption)
             have q4 : x5_1 < (a0.size : Int) := of_decide_eq_true (by first | (with_reducible assumption) | assumption)
             have hx4 := bt_at a0 x5_1
             replace p4 := eq_true p4
             replace q4 := eq_true q4
             go_wp2_with (first | (go_at_call 67; (with_reducible refine (mullionref01_Number.calls k1 (a0.extract 0 (x5_1 : Int).toNat) t242 t243 _ A16.out).mono ?_); rintro e w19 ⟨rfl, hb⟩; have n0_ := Aside0.mk (below_step (by repeat (first | (with_reducible first | exact HB.out | apply below_alloc | apply pw_below_drewN | apply below_drew1) | exact HB.out)) hb); clear HB; have HB := n0_; clear n0_; (try clear hb); (try clear hb2); (try clear hk); (try clear hi)))
             repeat (go_quiet (fail); try go_wp2_with (first | (go_at_call 67; (with_reducible refine (mullionref01_Number.calls k1 (a0.extract 0 (x5_1 : Int).toNat) t242 t243 _ A16.out).mono ?_); rintro e w19 ⟨rfl, hb⟩; have n0_ := Aside0.mk (below_step (by repeat (first | (with_reducible first | exact HB.out | apply below_alloc | apply pw_below_drewN | apply below_drew1) | exact HB.out)) hb); clear HB; have HB := n0_; clear n0_; (try clear hb); (try clear hb2); (try clear hk); (try clear hi))))
             go_ret3
             exact ⟨by first | rfl | (simp [errW_none, errW_some] <;> rfl) | (simp [*, errW_none, errW_some] <;> rfl), by repeat (first | (with_reducible first | exact HB.out | apply below_alloc | apply pw_below_drewN | apply below_drew1) | exact HB.out)⟩
           · rw [if_neg c15] at H
             exact absurd H (by simp)
       · rw [if_neg c3] at H
         exact absurd H (by simp)
     · rw [if_neg c2] at H
       have c2b0 : decide (x5_1 < (a0.size : Int)) = false := decide_eq_false c2
       clear c2
       by_cases c20 : 0 ≤ x5_1
       · rw [if_pos c20] at H
         have c20b0 := eq_true c20
         have c20b1 : decide (0 ≤ x5_1) = true := decide_eq_true c20
         clear c20
         by_cases c21 : x5_1 ≤ (a0.size : Int)
         · rw [if_pos c21] at H
           have c21b0 := eq_true c21
           have c21b1 : decide (x5_1 ≤ (a0.size : Int)) = true := decide_eq_true c21
           clear c21
           replace H := Option.bind_eq_some_iff.mp H
           obtain ⟨⟨t244, t245⟩, A220, H⟩ := H
           replace H : (some (t244, a0.extract (x5_1 : Int).toNat a0.size, t245)) = some (r1, r2, r3) := H
           have A22 := Aside0.mk A220
           clear A220
           have c23b0 := eq_true (of_decide_eq_true (by first | (with_reducible assumption) | assumption) : 0 ≤ x5_1)
           have c24b0 := eq_true (of_decide_eq_true (by first | (with_reducible assumption) | assumption) : x5_1 ≤ (a0.size : Int))
           simp only [Option.some.injEq, Prod.mk.injEq] at H
           obtain ⟨rfl, rfl, rfl⟩ := H
           go_wp2_with (first | (go_at_call 67; (with_reducible refine (mullionref01_Number.calls k1 (a0.extract 0 (x5_1 : Int).toNat) t244 t245 _ A22.out).mono ?_); rintro e w25 ⟨rfl, hb⟩; have n0_ := Aside0.mk (below_step (by repeat (first | (with_reducible first | exact HB.out | apply below_alloc | apply pw_below_drewN | apply below_drew1) | exact HB.out)) hb); clear HB; have HB := n0_; clear n0_; (try clear hb); (try clear hb2); (try clear hk); (try clear hi)))
           repeat (go_quiet (fail); try go_wp2_with (first | (go_at_call 67; (with_reducible refine (mullionref01_Number.calls k1 (a0.extract 0 (x5_1 : Int).toNat) t244 t245 _ A22.out).mono ?_); rintro e w25 ⟨rfl, hb⟩; have n0_ := Aside0.mk (below_step (by repeat (first | (with_reducible first | exact HB.out | apply below_alloc | apply pw_below_drewN | apply below_drew1) | exact HB.out)) hb); clear HB; have HB := n0_; clear n0_; (try clear hb); (try clear hb2); (try clear hk); (try clear hi))))
           go_ret3
           exact ⟨by first | rfl | (simp [errW_none, errW_some] <;> rfl) | (simp [*, errW_none, errW_some] <;> rfl), by repeat (first | (with_reducible first | exact HB.out | apply below_alloc | apply pw_below_drewN | apply below_drew1) | exact HB.out)⟩
         · rw [if_neg c21] at H
           exact absurd H (by simp)
       · rw [if_neg c20] at H
         exact absurd H (by simp)
def mullionref05_after.f (a0 : ByteArray) (a1 : Int) (a2 : Bool) : Option (ByteArray × Bool) := if a2 = true then (if a0.toList = ([] : List UInt8) then (some ((⟨#[]⟩ : ByteArray), false)) else (if 0 < (a0.size : Int) then (if (bt a0 0) = a1 then (if 1 ≤ (a0.size : Int) then (some (a0.extract 1 a0.size, true)) else (none)) else (some ((⟨#[]⟩ : ByteArray), false))) else (none))) else (some ((⟨#[]⟩ : ByteArray), false))
set_option maxHeartbeats 8000000 in
set_option maxRecDepth 100000 in
theorem mullionref05_after.calls (a0 : ByteArray) (a1 : Int) (a2 : Bool) (r1 : ByteArray) (r2 : Bool) (w : World) (h : mullionref05_after.f a0 a1 a2 = some (r1, r2)) :
   Calls Tryd.prog 47 #[.string a0, .int .u8 a1, .bool a2] w fun e w' => e = .returned (.tuple #[.string r1, .bool r2]) ∧ Drawn0 w w' := by
 have H : (if a2 = true then (if a0.toList = ([] : List UInt8) then (some ((⟨#[]⟩ : ByteArray), false)) else (if 0 < (a0.size : Int) then (if (bt a0 0) = a1 then (if 1 ≤ (a0.size : Int) then (some (a0.extract 1 a0.size, true)) else (none)) else (some ((⟨#[]⟩ : ByteArray), false))) else (none))) else (some ((⟨#[]⟩ : ByteArray), false))) = some (r1, r2) := h
 clear h
 by_cases c4 : a2 = true
 · subst c4
   have H1 : (if a0.toList = ([] : List UInt8) then (some ((⟨#[]⟩ : ByteArray), false)) else (if 0 < (a0.size : Int) then (if (bt a0 0) = a1 then (if 1 ≤ (a0.size : Int) then (some (a0.extract 1 a0.size, true)) else (none)) else (some ((⟨#[]⟩ : ByteArray), false))) else (none))) = some (r1, r2) := by rw [if_pos rfl] at H; exact H
   clear H
   have H := H1
   clear H1
   by_cases c5 : a0.toList = ([] : List UInt8)
   · rw [if_pos c5] at H
     have c5b0 : (a0.toList == ([] : List UInt8)) = true := beq_iff_eq.mpr c5
     have c5b1 : (a0.toList != ([] : List UInt8)) = false := bne_eq_false_iff_eq.mpr c5
     clear c5
     simp only [Option.some.injEq, Prod.mk.injEq] at H
     obtain ⟨rfl, rfl⟩ := H
     go_enter Tryd.func47, Tryd.ntmps47
     go_wp2
     go_ret2
     exact ⟨by first | rfl | (simp; done) | (simp [*]; done), by repeat (first | exact Drawn0.refl _ | apply Drawn0.step)⟩
   · rw [if_neg c5] at H
     have c5b0 : (a0.toList == ([] : List UInt8)) = false := beq_eq_false_iff_ne.mpr c5
     have c5b1 : (a0.toList != ([] : List UInt8)) = true := bne_iff_ne.mpr c5
     by_cases c6 : 0 < (a0.size : Int)
     · rw [if_pos c6] at H
       have c6b0 : decide (0 < (a0.size : Int)) = true := decide_eq_true c6
       have c6b1 : decide (0 < a0.size) = true := decide_eq_true (by omega)
       clear c6
       by_cases c8 : (bt a0 0) = a1
       · rw [if_pos c8] at H
         have c8b0 : ((bt a0 0) == a1) = true := beq_iff_eq.mpr c8
         have c8b1 : ((bt a0 0) != a1) = false := bne_eq_false_iff_eq.mpr c8
         clear c8
         by_cases c9 : 1 ≤ (a0.size : Int)
         · rw [if_pos c9] at H
           have c9b0 := eq_true c9
           have c9b1 : decide (1 ≤ (a0.size : Int)) = true := decide_eq_true c9
           clear c9
           simp only [Option.some.injEq, Prod.mk.injEq] at H
           obtain ⟨rfl, rfl⟩ := H
           have p7 : 0 ≤ (0 : Int) := (by omega)
           have q7 : 0 < a0.size := (by have : (0 : Int) < (a0.size : Int) := of_decide_eq_true (by first | (with_reducible assumption) | assumption); omega)
           have hx7 : ∀ h : 0 < a0.size, ((a0[0]'h).toNat : Int) = bt a0 0 := bt_at a0 0
           clear p7
           have qi7 : (0 < (a0.size : Int)) = True := eq_true (of_decide_eq_true (by first | (with_reducible assumption) | assumption))
           replace q7 := eq_true q7
           go_enter Tryd.func47, Tryd.ntmps47
           go_wp2
           go_ret2
           exact ⟨by first | rfl | (simp; done) | (simp [*]; done), by repeat (first | exact Drawn0.refl _ | apply Drawn0.step)⟩
         · rw [if_neg c9] at H
           exact absurd H (by simp)
       · rw [if_neg c8] at H
         have c8b0 : ((bt a0 0) == a1) = false := beq_eq_false_iff_ne.mpr c8
         have c8b1 : ((bt a0 0) != a1) = true := bne_iff_ne.mpr c8
         simp only [Option.some.injEq, Prod.mk.injEq] at H
         obtain ⟨rfl, rfl⟩ := H
         have p7 : 0 ≤ (0 : Int) := (by omega)
         have q7 : 0 < a0.size := (by have : (0 : Int) < (a0.size : Int) := of_decide_eq_true (by first | (with_reducible assumption) | assumption); omega)
         have hx7 : ∀ h : 0 < a0.size, ((a0[0]'h).toNat : Int) = bt a0 0 := bt_at a0 0
         clear p7
         have qi7 : (0 < (a0.size : Int)) = True := eq_true (of_decide_eq_true (by first | (with_reducible assumption) | assumption))
         replace q7 := eq_true q7
         go_enter Tryd.func47, Tryd.ntmps47
         go_wp2
         go_ret2
         exact ⟨by first | rfl | (simp; done) | (simp [*]; done), by repeat (first | exact Drawn0.refl _ | apply Drawn0.step)⟩
     · rw [if_neg c6] at H
       exact absurd H (by simp)
 · replace c4 := Bool.eq_false_iff.mpr c4
   subst c4
   have H1 : (some ((⟨#[]⟩ : ByteArray), false)) = some (r1, r2) := by rw [if_neg (show ¬ (false = true) by decide)] at H; exact H
   clear H
   have H := H1
   clear H1
   simp only [Option.some.injEq, Prod.mk.injEq] at H
   obtain ⟨rfl, rfl⟩ := H
   go_enter Tryd.func47, Tryd.ntmps47
   go_wp2
   go_ret2
   exact ⟨by first | rfl | (simp; done) | (simp [*]; done), by repeat (first | exact Drawn0.refl _ | apply Drawn0.step)⟩
end Go.Proofs.YtmpnkckaohfflaaDoor.L
end
section
namespace Go.Proofs.YtmpnkckaohfflaaDoor.PGiv
open Go.RowKit Go.Proofs.YtmpnkckaohfflaaDoorW.PrintWords Go.Proofs.YtmpnkckaohfflaaDoorW.PrintLast Go.Proofs.YtmpnkckaohfflaaDoorW.PrintMore Go.Proofs.YtmpnkckaohfflaaDoor.K Go.Proofs.YtmpnkckaohfflaaDoor.Num Go.Proofs.YtmpnkckaohfflaaDoor.Txt
set_option linter.unusedVariables false
set_option linter.unusedSimpArgs false
def isDig (c : UInt8) : Bool := decide (48 ≤ c.toNat) && decide (c.toNat ≤ 57)
def numV (s : ByteArray) : Option (Int × ByteArray × Bool) := if 2100 < s.size then none else
 let D := s.data.toList.takeWhile isDig
 some ((numOf D).1, s.extract D.length s.size, (numOf D).2)
abbrev RC := List S45 × ByteArray × Bool
def failR : Option RC := some (([] : List S45), (⟨#[]⟩ : ByteArray), false)
def tailW (P : S45 → ByteArray → Int → Option RC) (s : ByteArray) (d x y w h : Int) : Option RC :=
 if s.size = 0 then failR else if bt s 0 = 44 then (numV (s.extract 1 s.size)).bind fun t => some ([(⟨d, 1, x, y, w, h, t.1⟩ : S45)], t.2.1, t.2.2)
 else if bt s 0 = 123 then P ⟨d, 2, x, y, w, h, 0⟩ s 125 else if bt s 0 = 91 then P ⟨d, 3, x, y, w, h, 0⟩ s 93 else failR
def cellW (P : S45 → ByteArray → Int → Option RC) (s : ByteArray) (d : Int) : Option RC :=
 (numV s).bind fun t1 => (L.mullionref05_after.f t1.2.1 120 t1.2.2).bind fun u1 => if u1.2 = true then
   (numV u1.1).bind fun t2 => (L.mullionref05_after.f t2.2.1 44 t2.2.2).bind fun u2 => if u2.2 = true then
     (numV u2.1).bind fun t3 => (L.mullionref05_after.f t3.2.1 44 t3.2.2).bind fun u3 => if u3.2 = true then
       (numV u3.1).bind fun t4 => if t4.2.2 = true then tailW P t4.2.1 d t3.1 t4.1 t1.1 t2.1 else failR
     else failR
   else failR
 else failR
def stepW (s : ByteArray) (shut : Int) (out : List S45) (go : ByteArray → List S45 → Option RC) (r : RC) : Option RC :=
 if r.2.2 = false ∨ r.2.1.size = 0 then failR else if 2513169434916 ≤ out.length + r.1.length then none
 else if bt r.2.1 0 = shut then some (out ++ r.1, r.2.1.extract 1 r.2.1.size, true) else if bt r.2.1 0 = 44 then go r.2.1 (out ++ r.1) else failR
def loopG : Nat → S45 → List S45 → ByteArray → Int → Option RC
 | 0, _, _, _, _ => none
 | 1, _, _, _, _ => none
 | m + 2, c, out, s, shut => if s.size = 0 then none else (cellW (fun c s sh => loopG m c [c] s sh) (s.extract 1 s.size) (wrap64 (c.f0 + 1))).bind (stepW s shut out fun s' out' => loopG m c out' s' shut)
def mullionref05_cell.f (k : Nat) (a0 : ByteArray) (a1 : Int) : Option RC := if k < 5001 then none else cellW (fun c s sh => loopG (k - 5001) c [c] s sh) a0 a1
theorem tailW_mono {P P' : S45 → ByteArray → Int → Option RC} (h : ∀ c s sh, LeO (P c s sh) (P' c s sh)) (s : ByteArray) (d x y w h' : Int) : LeO (tailW P s d x y w h') (tailW P' s d x y w h') := by
 unfold tailW
 exact LeO.ite (LeO.refl _) (LeO.ite (LeO.refl _) (LeO.ite (h _ _ _) (LeO.ite (h _ _ _) (LeO.refl _))))
theorem cellW_mono {P P' : S45 → ByteArray → Int → Option RC} (h : ∀ c s sh, LeO (P c s sh) (P' c s sh)) (s : ByteArray) (d : Int) : LeO (cellW P s d) (cellW P' s d) := by
 unfold cellW
 refine LeO.bind (LeO.refl _) fun t1 => LeO.bind (LeO.refl _) fun u1 => LeO.ite ?_ (LeO.refl _)
 refine LeO.bind (LeO.refl _) fun t2 => LeO.bind (LeO.refl _) fun u2 => LeO.ite ?_ (LeO.refl _)
 refine LeO.bind (LeO.refl _) fun t3 => LeO.bind (LeO.refl _) fun u3 => LeO.ite ?_ (LeO.refl _)
 exact LeO.bind (LeO.refl _) fun t4 => LeO.ite (tailW_mono h _ _ _ _ _ _) (LeO.refl _)
theorem stepW_mono (s : ByteArray) (sh : Int) (out : List S45) {g g' : ByteArray → List S45 → Option RC} (h : ∀ a b, LeO (g a b) (g' a b)) (r : RC) : LeO (stepW s sh out g r) (stepW s sh out g' r) := by
 unfold stepW
 exact LeO.ite (LeO.refl _) (LeO.ite (LeO.refl _) (LeO.ite (LeO.refl _) (LeO.ite (h _ _) (LeO.refl _))))
theorem loopG_mono : ∀ m c out s sh, LeO (loopG m c out s sh) (loopG (m + 1) c out s sh) := by
 intro m
 induction m using Nat.strongRecOn with
 | _ m ih =>
 intro c out s sh
 match m, ih with
 | 0, _ => exact fun r h => by simp [loopG] at h
 | 1, _ => exact fun r h => by simp [loopG] at h
 | m + 2, ih =>
   rw [loopG, loopG]
   refine LeO.ite (LeO.refl _) (LeO.bind (cellW_mono (fun c s sh => ih m (by omega) _ _ _ _) _ _) fun r => stepW_mono _ _ _ (fun a b => ih m (by omega) _ _ _ _) r)
theorem mullionref05_cell.mono : ∀ a0 a1 k, LeO (mullionref05_cell.f k a0 a1) (mullionref05_cell.f (k + 1) a0 a1) := by
 intro a0 a1 k
 unfold mullionref05_cell.f
 by_cases h : k < 5001
 · rw [if_pos h]
   exact LeO.none _
 · rw [if_neg h, if_neg (by omega), show k + 1 - 5001 = (k - 5001) + 1 by omega]
   exact cellW_mono (fun c s sh => loopG_mono _ _ _ _ _) _ _
abbrev CellOK (K : Nat) : Prop := ∀ k, k < K → ∀ (a0 : ByteArray) (a1 : Int) (r1 : List S45) (r2 : ByteArray) (r3 : Bool) (w : World) (h : mullionref05_cell.f k a0 a1 = some (r1, r2, r3)),
   Calls Tryd.prog 32 #[.string a0, .int .i64 a1] w fun e w' => ∃ v0_ : Value, e = .returned (.tuple #[v0_, .string r2, .bool r3]) ∧ Kd.R k45 45 w' w.heap.size (fun _ => True) v0_ r1 ∧ Below w.heap.size w w'
end Go.Proofs.YtmpnkckaohfflaaDoor.PGiv
end
section
namespace Go.Proofs.YtmpnkckaohfflaaDoor.P
open Go.Proofs.YtmpnkckaohfflaaDoor.K Go.RowKit Go.Proofs.YtmpnkckaohfflaaDoorW.PrintWords Go.Proofs.YtmpnkckaohfflaaDoorW.PrintLast Go.Proofs.YtmpnkckaohfflaaDoorW.PrintMore Go.Proofs.YtmpnkckaohfflaaDoor.PGiv
attribute [local go_sem] max2_int min2_int max_two min_two max_three min_three max_four min_four
set_option linter.unusedVariables false
set_option linter.unusedSimpArgs false
mutual
def mullionref05_parts.l0 : Nat → ByteArray → Int → List (S45) → Int → Int → Int → Int → Int → Int → Int → Option ((List (S45)) × ByteArray × Bool)
 | 0, _, _, _, _, _, _, _, _, _, _ => none
 | k + 1, x1, x2, x9, x114000, x114001, x114002, x114003, x114004, x114005, x114006 => if 1 ≤ (x1.size : Int) then ((mullionref05_cell.f k (x1.extract 1 x1.size) (wrap64 (x114000 + 1))).bind fun bt117 => (if bt117.2.2 = true then (mullionref05_parts.j1 k x2 x9 bt117.1 bt117.2.1 (bt117.2.1.toList == ([] : List UInt8)) x114000 x114001 x114002 x114003 x114004 x114005 x114006) else (mullionref05_parts.j1 k x2 x9 bt117.1 bt117.2.1 true x114000 x114001 x114002 x114003 x114004 x114005 x114006))) else (none)
def mullionref05_parts.j1 : Nat → Int → List (S45) → List (S45) → ByteArray → Bool → Int → Int → Int → Int → Int → Int → Int → Option ((List (S45)) × ByteArray × Bool)
 | 0, _, _, _, _, _, _, _, _, _, _, _, _ => none
 | k + 1, x2, x9, x10, x11, x30, x114000, x114001, x114002, x114003, x114004, x114005, x114006 => if x30 = true then (some (([] : List (S45)), (⟨#[]⟩ : ByteArray), false)) else (if x9.length + x10.length < 2513169434916 then ((some (x9 ++ x10 : List (S45))).bind fun y122 => (if 0 < (x11.size : Int) then (if (bt x11 0) = x2 then (if 1 ≤ (x11.size : Int) then (some (y122, x11.extract 1 x11.size, true)) else (none)) else (if (bt x11 0) = 44 then (mullionref05_parts.l0 k x11 x2 y122 x114000 x114001 x114002 x114003 x114004 x114005 x114006) else (some (([] : List (S45)), (⟨#[]⟩ : ByteArray), false)))) else (none))) else (none))
end
def mullionref05_parts.f (k : Nat) (a0_0 : Int) (a0_1 : Int) (a0_2 : Int) (a0_3 : Int) (a0_4 : Int) (a0_5 : Int) (a0_6 : Int) (a1 : ByteArray) (a2 : Int) : Option ((List (S45)) × ByteArray × Bool) := mullionref05_parts.l0 k a1 a2 (([(⟨a0_0, a0_1, a0_2, a0_3, a0_4, a0_5, a0_6⟩ : S45)] : List (S45))) a0_0 a0_1 a0_2 a0_3 a0_4 a0_5 a0_6
theorem mullionref05_parts.mono_l : ∀ k, (∀ y0 y1 y2 y3 y4 y5 y6 y7 y8 y9, LeO (mullionref05_parts.l0 k y0 y1 y2 y3 y4 y5 y6 y7 y8 y9) (mullionref05_parts.l0 (k + 1) y0 y1 y2 y3 y4 y5 y6 y7 y8 y9)) ∧ (∀ y0 y1 y2 y3 y4 y5 y6 y7 y8 y9 y10 y11, LeO (mullionref05_parts.j1 k y0 y1 y2 y3 y4 y5 y6 y7 y8 y9 y10 y11) (mullionref05_parts.j1 (k + 1) y0 y1 y2 y3 y4 y5 y6 y7 y8 y9 y10 y11))
 | 0 => ⟨fun _ _ _ _ _ _ _ _ _ _ r h => by simp [mullionref05_parts.l0] at h, fun _ _ _ _ _ _ _ _ _ _ _ _ r h => by simp [mullionref05_parts.j1] at h⟩
 | k + 1 => by
   obtain ⟨ih0, ih1⟩ := mullionref05_parts.mono_l k
   refine ⟨?_, ?_⟩
   · intro y0 y1 y2 y3 y4 y5 y6 y7 y8 y9
     unfold mullionref05_parts.l0
     repeat' first
     | (with_reducible exact ih0 _ _ _ _ _ _ _ _ _ _)
     | (with_reducible exact ih1 _ _ _ _ _ _ _ _ _ _ _ _)
     | (with_reducible exact mullionref05_cell.mono _ _ _)
     | (with_reducible exact LeO.refl _)
     | (with_reducible exact LeO.none _)
     | (with_reducible refine LeO.ite ?_ ?_)
     | (with_reducible refine LeO.bind ?_ (fun _ => ?_))
     | exact ih0 _ _ _ _ _ _ _ _ _ _
     | exact ih1 _ _ _ _ _ _ _ _ _ _ _ _
     | exact mullionref05_cell.mono _ _ _
     | exact LeO.none _
     | refine LeO.ite ?_ ?_
     | refine LeO.bind ?_ (fun _ => ?_)
   · intro y0 y1 y2 y3 y4 y5 y6 y7 y8 y9 y10 y11
     unfold mullionref05_parts.j1
     repeat' first
     | (with_reducible exact ih0 _ _ _ _ _ _ _ _ _ _)
     | (with_reducible exact ih1 _ _ _ _ _ _ _ _ _ _ _ _)
     | (with_reducible exact mullionref05_cell.mono _ _ _)
     | (with_reducible exact LeO.refl _)
     | (with_reducible exact LeO.none _)
     | (with_reducible refine LeO.ite ?_ ?_)
     | (with_reducible refine LeO.bind ?_ (fun _ => ?_))
     | exact ih0 _ _ _ _ _ _ _ _ _ _
     | exact ih1 _ _ _ _ _ _ _ _ _ _ _ _
     | exact mullionref05_cell.mono _ _ _
     | exact LeO.none _
     | refine LeO.ite ?_ ?_
     | refine LeO.bind ?_ (fun _ => ?_)
theorem mullionref05_parts.mono : ∀ a0 a1 a2 a3 a4 a5 a6 a7 a8 k, LeO (mullionref05_parts.f k a0 a1 a2 a3 a4 a5 a6 a7 a8) (mullionref05_parts.f (k + 1) a0 a1 a2 a3 a4 a5 a6 a7 a8) := by
 intro a0 a1 a2 a3 a4 a5 a6 a7 a8 k
 obtain ⟨ih0, ih1⟩ := mullionref05_parts.mono_l k
 unfold mullionref05_parts.f
 repeat' first
     | (with_reducible exact ih0 _ _ _ _ _ _ _ _ _ _)
     | (with_reducible exact ih1 _ _ _ _ _ _ _ _ _ _ _ _)
     | (with_reducible exact mullionref05_cell.mono _ _ _)
     | (with_reducible exact LeO.refl _)
     | (with_reducible exact LeO.none _)
     | (with_reducible refine LeO.ite ?_ ?_)
     | (with_reducible refine LeO.bind ?_ (fun _ => ?_))
     | exact ih0 _ _ _ _ _ _ _ _ _ _
     | exact ih1 _ _ _ _ _ _ _ _ _ _ _ _
     | exact mullionref05_cell.mono _ _ _
     | exact LeO.none _
     | refine LeO.ite ?_ ?_
     | refine LeO.bind ?_ (fun _ => ?_)
def mullionref05_parts.T2 : Bool × List (List Nat × List Nat) := (true, [([], []), ([0], [0]), ([], []), ([2], [2]), ([3], [3]), ([1, 4], [1, 4]), ([5], [5]), ([6], [6]), ([6], [6]), ([6], [6]), ([7, 5, 0, 1, 2, 3, 4, 5, 6, 7], [7]), ([8, 10, 0, 1, 2, 3, 4, 5, 6, 7, 8, 10], [8]), ([9, 11, 0, 1, 2, 3, 4, 5, 6, 7, 8, 9, 10, 11], [9])])
def mullionref05_parts.B2 : List Nat := [0, 1, 0, 4, 12, 31, 63, 127, 127, 127, 255, 1535, 4095]
theorem mullionref05_parts.tab2 : rtab .any (opsOf Tryd.f48 2) = mullionref05_parts.T2 := by kernel_rfl
theorem mullionref05_parts.bits2 : waitsOk mullionref05_parts.T2.2 mullionref05_parts.B2 = true := by kernel_rfl
set_option maxHeartbeats 8000000 in
set_option maxRecDepth 100000 in
theorem mullionref05_parts.calls (k : Nat) (HCELL : Aside0 (CellOK k)) (a0_0 : Int) (a0_1 : Int) (a0_2 : Int) (a0_3 : Int) (a0_4 : Int) (a0_5 : Int) (a0_6 : Int) (a1 : ByteArray) (a2 : Int) (r1 : List (S45)) (r2 : ByteArray) (r3 : Bool) (w : World) (h : mullionref05_parts.f k a0_0 a0_1 a0_2 a0_3 a0_4 a0_5 a0_6 a1 a2 = some (r1, r2, r3)) :
   Calls Tryd.prog 48 #[.agg #[.int .i64 a0_0, .int .i64 a0_1, .int .i64 a0_2, .int .i64 a0_3, .int .i64 a0_4, .int .i64 a0_5, .int .i64 a0_6], .string a1, .int .u8 a2] w fun e w' => ∃ v0_ : Value, e = .returned (.tuple #[v0_, .string r2, .bool r3]) ∧ Kd.R k45 45 w' w.heap.size (fun _ => True) v0_ r1 ∧ Below w.heap.size w w' := by
 have hu45 := Tryd.underlying45
 have HB := Aside0.mk (Below.refl w.heap.size w)
 have H : (mullionref05_parts.l0 k a1 a2 (([(⟨a0_0, a0_1, a0_2, a0_3, a0_4, a0_5, a0_6⟩ : S45)] : List (S45))) a0_0 a0_1 a0_2 a0_3 a0_4 a0_5 a0_6) = some (r1, r2, r3) := h
 clear h
 obtain ⟨y114, hy114⟩ : ∃ y_ : List (S45), y_ = (([(⟨a0_0, a0_1, a0_2, a0_3, a0_4, a0_5, a0_6⟩ : S45)] : List (S45))) := ⟨_, rfl⟩
 replace H : (mullionref05_parts.l0 k a1 a2 y114 a0_0 a0_1 a0_2 a0_3 a0_4 a0_5 a0_6) = some (r1, r2, r3) := by first | (rw [hy114]; with_reducible exact H) | (have H2_ := (Option.bind_some _ _).symm.trans H; rw [hy114]; with_reducible exact H2_) | (have H2_ := (Option.bind_some _ _).symm.trans H; with_reducible exact H2_) | with_reducible exact H | (rw [hy114]; exact H) | exact H
 have Ny114 := Aside0.mk hy114
 clear hy114
 have H' := Aside0.mk H
 clear H
 go_enter Tryd.func48, Tryd.ntmps48
 go_wp2_with (first | ((with_reducible refine gate_dst (N := 3) rfl ?_); refine box_event ?hg (N := 3) ?hd (cs := #[.int .i64 a0_0, .int .i64 a0_1, .int .i64 a0_2, .int .i64 a0_3, .int .i64 a0_4, .int .i64 a0_5, .int .i64 a0_6]) (t := 45) ?hr ?_; (case hd => rfl); (case hg => rfl); (case hr => first | (go_simp; done) | (go_simp; rfl)); intro gb113 hg w4 hbox hb; have n0_ := Aside0.mk (below_step (by repeat (first | (with_reducible first | exact HB.out | apply below_alloc | apply pw_below_drewN | apply below_drew1) | exact HB.out)) hb); have n1_ := Aside0.mk (hbox); have n2_ := Aside0.mk ((by rw [hg]; exact (below_size (by repeat (first | (with_reducible first | exact HB.out | apply below_alloc | apply pw_below_drewN | apply below_drew1) | exact HB.out))) : w.heap.size ≤ gb113)); have n3_ := Aside0.mk ((by rw [hg]; exact (below_size (by repeat (first | (with_reducible first | exact HB.out | apply below_alloc | apply pw_below_drewN | apply below_drew1) | exact HB.out))) : w.heap.size ≤ gb113)); clear HB; have HB := n0_; have BK113 := n1_; have GW113 := n2_; have GE113 := n3_; clear n0_ n1_ n2_ n3_; clear hb hbox hg; have hcz5_0 : w4.cell? ⟨gb113, 0, none⟩ = some (.int .i64 a0_0) := (blk_cell BK113.out 0).trans rfl; have hcz5_1 : w4.cell? ⟨gb113, 1, none⟩ = some (.int .i64 a0_1) := (blk_cell BK113.out 1).trans rfl; have hcz5_2 : w4.cell? ⟨gb113, 2, none⟩ = some (.int .i64 a0_2) := (blk_cell BK113.out 2).trans rfl; have hcz5_3 : w4.cell? ⟨gb113, 3, none⟩ = some (.int .i64 a0_3) := (blk_cell BK113.out 3).trans rfl; have hcz5_4 : w4.cell? ⟨gb113, 4, none⟩ = some (.int .i64 a0_4) := (blk_cell BK113.out 4).trans rfl; have hcz5_5 : w4.cell? ⟨gb113, 5, none⟩ = some (.int .i64 a0_5) := (blk_cell BK113.out 5).trans rfl; have hcz5_6 : w4.cell? ⟨gb113, 6, none⟩ = some (.int .i64 a0_6) := (blk_cell BK113.out 6).trans rfl; have hfz5_0 := blk_frozen BK113.out 0; have hfz5_1 := blk_frozen BK113.out 1; have hfz5_2 := blk_frozen BK113.out 2; have hfz5_3 := blk_frozen BK113.out 3; have hfz5_4 := blk_frozen BK113.out 4; have hfz5_5 := blk_frozen BK113.out 5; have hfz5_6 := blk_frozen BK113.out 6) | ((with_reducible refine gate_dst (N := 14) rfl ?_); refine Kd.R_lit k45 _ 45 ?hg (N := 14) ?hd (xs := ([(⟨a0_0, a0_1, a0_2, a0_3, a0_4, a0_5, a0_6⟩ : S45)] : List (S45))) (inner := [.int .i64 a0_0, .int .i64 a0_1, .int .i64 a0_2, .int .i64 a0_3, .int .i64 a0_4, .int .i64 a0_5, .int .i64 a0_6]) (ok := fun _ => True) (okp := fun _ => True) ?hr ?hp (fun _ hk => hk) trivial (Below.refl _ _) (Nat.le_refl _) (by simp) ?_; (case hd => rfl); (case hg => rfl); (case hr => first | (go_simp; done) | (go_simp; rfl)); (case hp => exact (Reps.c7 (show Kd.M k45 _ _ _ (⟨a0_0, a0_1, a0_2, a0_3, a0_4, a0_5, a0_6⟩ : S45) [.int .i64 a0_0, .int .i64 a0_1, .int .i64 a0_2, .int .i64 a0_3, .int .i64 a0_4, .int .i64 a0_5, .int .i64 a0_6] from (k45_mkM _ _ _ (⟨a0_0, a0_1, a0_2, a0_3, a0_4, a0_5, a0_6⟩ : S45) )) (Reps.none _ _))); intro v115 w6 ho7 hb hg_ hnew_; clear hg_ hnew_; (first | rw [← Ny114.out] at ho7 | (simp only [Int.reduceToNat] at ho7; rw [← Ny114.out] at ho7)); have n0_ := Aside0.mk (Kd.R_lower (Kd.R_newB ho7 (g := gb113) (o := .cells #[.int .i64 a0_0, .int .i64 a0_1, .int .i64 a0_2, .int .i64 a0_3, .int .i64 a0_4, .int .i64 a0_5, .int .i64 a0_6] 45 (0, 0)) (by (with_reducible repeat (first | refine blk_drewN ?_ _ | refine blk_drew ?_ | refine blk_alloc ?_ _)); exact BK113.out)) (below_size (by repeat (first | (with_reducible first | exact HB.out | apply below_alloc | apply pw_below_drewN | apply below_drew1 | refine below_set ?_ GE113.out) | exact HB.out)))); have n1_ := Aside0.mk (blk_below (g := gb113) (o := .cells #[.int .i64 a0_0, .int .i64 a0_1, .int .i64 a0_2, .int .i64 a0_3, .int .i64 a0_4, .int .i64 a0_5, .int .i64 a0_6] 45 (0, 0)) (by (with_reducible repeat (first | refine blk_drewN ?_ _ | refine blk_drew ?_ | refine blk_alloc ?_ _)); exact BK113.out) hb); have n2_ := Aside0.mk (below_step (by repeat (first | (with_reducible first | exact HB.out | apply below_alloc | apply pw_below_drewN | apply below_drew1 | refine below_set ?_ GE113.out) | exact HB.out)) hb); clear BK113; clear HB; have HO116 := n0_; have BK113 := n1_; have HB := n2_; clear n0_ n1_ n2_; clear hb ho7))
 go_loopg [1, 9] k (fun kq v1 v9 w' => ∃ (x1_1 : ByteArray) (x9_1 : List (S45)), v1 = .string x1_1 ∧ Aside0 (mullionref05_parts.l0 kq x1_1 a2 x9_1 a0_0 a0_1 a0_2 a0_3 a0_4 a0_5 a0_6 = some (r1, r2, r3)) ∧ Aside0 (kq ≤ k) ∧ Aside0 (Kd.R k45 45 w' w.heap.size (fun k_ => k_ ≠ gb113) v9 x9_1) ∧ Aside0 (w'.heap[gb113]? = some (.cells #[.int .i64 a0_0, .int .i64 a0_1, .int .i64 a0_2, .int .i64 a0_3, .int .i64 a0_4, .int .i64 a0_5, .int .i64 a0_6] 45 (0, 0))) ∧ Aside0 (Below w.heap.size w w'))
 case atStart => exact ⟨(a1), (y114), (by first | rfl | (simp; done) | (simp [*]; done)), H', ⟨Nat.le_refl _⟩, ⟨by (with_reducible repeat (first | apply Kd.R_alloc | apply Kd.R_drewN | apply Kd.R_drew)); exact Kd.R_mono HO116.out (fun _ hk => hk.2)⟩, ⟨by (with_reducible repeat (first | refine blk_drewN ?_ _ | refine blk_drew ?_ | refine blk_alloc ?_ _)); exact BK113.out⟩, ⟨by repeat (first | (with_reducible first | exact HB.out | apply below_alloc | apply pw_below_drewN | apply below_drew1 | refine below_set ?_ GE113.out) | exact HB.out)⟩⟩
 case round =>
   clear H'
   try clear p2
   try clear c4
   try clear c7
   try clear hcz5_0
   try clear hcz5_1
   try clear hcz5_2
   try clear hcz5_3
   try clear hcz5_4
   try clear hcz5_5
   try clear hcz5_6
   try clear hfz5_0
   try clear hfz5_1
   try clear hfz5_2
   try clear hfz5_3
   try clear hfz5_4
   try clear hfz5_5
   try clear hfz5_6
   obtain ⟨x1_1, x9_1, rfl, HA, HK1, HO_9, BK113, HB⟩ := hrel
   cases gk with
   | zero => exact absurd HA.out (by simp [mullionref05_parts.l0])
   | succ k1 =>
     have H := HA.out
     clear HA
     simp only [mullionref05_parts.l0] at H
     by_cases c8 : 1 ≤ (x1_1.size : Int)
     · rw [if_pos c8] at H
       have c8b0 := eq_true c8
       have c8b1 : decide (1 ≤ (x1_1.size : Int)) = true := decide_eq_true c8
       clear c8
       replace H := Option.bind_eq_some_iff.mp H
       obtain ⟨⟨t117, t118, t119⟩, A90, H⟩ := H
       replace H : (if t119 = true then (mullionref05_parts.j1 k1 a2 x9_1 t117 t118 (t118.toList == ([] : List UInt8)) a0_0 a0_1 a0_2 a0_3 a0_4 a0_5 a0_6) else (mullionref05_parts.j1 k1 a2 x9_1 t117 t118 true a0_0 a0_1 a0_2 a0_3 a0_4 a0_5 a0_6)) = some (r1, r2, r3) := H
       have A9 := Aside0.mk A90
       clear A90
       have HC10 := Aside0.mk H
       clear H
       try go_wp2
       have n0_ := Aside0.mk (Kd.R_drew HO_9.out)
       have n1_ := Aside0.mk (blk_drew BK113.out)
       have n2_ := Aside0.mk (below_drew1 HB.out)
       clear HO_9
       clear BK113
       clear HB
       have HO_9 := n0_
       have BK113 := n1_
       have HB := n2_
       clear n0_ n1_ n2_
       refine start_ (n := 13) (S := fun w' => w'.cell? ⟨gb113, 0, none⟩ = some (.int .i64 a0_0) ∧ w'.cell? ⟨gb113, 1, none⟩ = some (.int .i64 a0_1) ∧ w'.cell? ⟨gb113, 2, none⟩ = some (.int .i64 a0_2) ∧ w'.cell? ⟨gb113, 3, none⟩ = some (.int .i64 a0_3) ∧ w'.cell? ⟨gb113, 4, none⟩ = some (.int .i64 a0_4) ∧ w'.cell? ⟨gb113, 5, none⟩ = some (.int .i64 a0_5) ∧ w'.cell? ⟨gb113, 6, none⟩ = some (.int .i64 a0_6)) (ds := []) #[false, false, false, false, false, false, false, false, false, false, false, false, false] (by kernel_rfl) rfl rfl ⟨(blk_cell BK113.out 0).trans rfl, (blk_cell BK113.out 1).trans rfl, (blk_cell BK113.out 2).trans rfl, (blk_cell BK113.out 3).trans rfl, (blk_cell BK113.out 4).trans rfl, (blk_cell BK113.out 5).trans rfl, (blk_cell BK113.out 6).trans rfl⟩ (fun hHeld => ?_); refine with_tabW mullionref05_parts.tab2 mullionref05_parts.bits2 (fun HT_ HW_ => ?_)
       generalize wr.drew = w11 at HO_9 BK113 HB hHeld ⊢
       refine pure_ (i := 0) (N := some 16) (v := ?_) (a' := ?_) #[true, false, false, false, false, false, false, false, false, false, false, false, false] rfl rfl (any_of HT_.out (by kernel_rfl)) (fun _ _ _ h => h) (Or.inl ⟨by rfl, ?_⟩) ?_ ?_
       rotate_left
       · intro w'
         go_simp
         with_reducible rfl
       rotate_left
       · simp only [Act.put, List.setIfInBounds_toArray, List.set_cons_zero, List.set_cons_succ, i64_w, i32_w]
         rfl
       refine pure_ (i := 1) (N := some 17) (v := ?_) (a' := ?_) #[true, true, false, false, false, false, false, false, false, false, false, false, false] rfl rfl (any_of HT_.out (by kernel_rfl)) (fun _ _ _ h => h) (Or.inl ⟨by rfl, ?_⟩) ?_ ?_
       rotate_left
       · intro w'
         go_simp
         with_reducible rfl
       rotate_left
       · simp only [Act.put, List.setIfInBounds_toArray, List.set_cons_zero, List.set_cons_succ, i64_w, i32_w]
         rfl
       refine pure_ (i := 2) (N := some 18) (v := ?_) (a' := ?_) #[true, true, true, false, false, false, false, false, false, false, false, false, false] rfl rfl (any_of HT_.out (by kernel_rfl)) (fun _ _ _ h => h) (Or.inl ⟨by rfl, ?_⟩) ?_ ?_
       rotate_left
       · intro w'
         go_simp
         with_reducible rfl
       rotate_left
       · simp only [Act.put, List.setIfInBounds_toArray, List.set_cons_zero, List.set_cons_succ, i64_w, i32_w]
         rfl
       refine take_ (i := 3) (N := some 19) (v := ?_) (a' := ?_) #[true, true, true, true, false, false, false, false, false, false, false, false, false] rfl rfl (take_ofW HT_.out HW_.out (by kernel_rfl)) (fun _ _ _ h => h) (Or.inl ⟨by rfl, ?_⟩) hHeld ?_ ?_
       rotate_left
       · rintro w' ⟨s0, s1, s2, s3, s4, s5, s6⟩
         go_simp
         with_reducible rfl
       rotate_left
       · simp only [Act.put, List.setIfInBounds_toArray, List.set_cons_zero, List.set_cons_succ, i64_w, i32_w]
         rfl
       refine pure_ (i := 4) (N := some 20) (v := ?_) (a' := ?_) #[true, true, true, true, true, false, false, false, false, false, false, false, false] rfl rfl (any_of HT_.out (by kernel_rfl)) (fun _ _ _ h => h) (Or.inl ⟨by rfl, ?_⟩) ?_ ?_
       rotate_left
       · intro w'
         go_simp
         with_reducible rfl
       rotate_left
       · simp only [Act.put, List.setIfInBounds_toArray, List.set_cons_zero, List.set_cons_succ, i64_w, i32_w]
         rfl
       refine one_ (i := 5) (N := some 21) #[true, true, true, true, true, true, false, false, false, false, false, false, false] rfl rfl (one_of HT_.out (by kernel_rfl)) (by decide) (fun K hK => ?_)
       refine goes_ Tryd.func32 (by kernel_rfl) rfl #[.string (x1_1.extract 1 x1_1.size), .int .i64 (wrap64 (a0_0 + 1))] (by rfl) rfl rfl (by (try simp only [List.map_toArray, List.map_cons, List.map_nil]); first | done | rfl | (simp only [List.length_drop, List.length_take]; rfl)) ?_
       with_reducible refine (HCELL.out k1 (by have := HK1.out; omega) (x1_1.extract 1 x1_1.size) (wrap64 (a0_0 + 1)) t117 t118 t119 _ A9.out).mono ?_
       rintro e w12 ⟨v120, rfl, ho0, hb⟩
       refine ⟨_, rfl, ?_⟩
       have n0_ := Aside0.mk (Kd.R_elder' (by (with_reducible repeat (first | apply Kd.R_alloc | apply Kd.R_drewN | apply Kd.R_drew)); exact HO_9.out) (Kd.R_base ho0) hb)
       have n1_ := Aside0.mk (Kd.R_lower (Kd.R_newB (Kd.R_new' ho0 (Kd.R_lt (by (with_reducible repeat (first | apply Kd.R_alloc | apply Kd.R_drewN | apply Kd.R_drew)); exact HO_9.out))) (g := gb113) (o := .cells #[.int .i64 a0_0, .int .i64 a0_1, .int .i64 a0_2, .int .i64 a0_3, .int .i64 a0_4, .int .i64 a0_5, .int .i64 a0_6] 45 (0, 0)) (by (with_reducible repeat (first | refine blk_drewN ?_ _ | refine blk_drew ?_ | refine blk_alloc ?_ _)); exact BK113.out)) (below_size (by repeat (first | (with_reducible first | exact HB.out | apply below_alloc | apply pw_below_drewN | apply below_drew1 | refine below_set ?_ GE113.out) | exact HB.out))))
       have n2_ := Aside0.mk (blk_below (g := gb113) (o := .cells #[.int .i64 a0_0, .int .i64 a0_1, .int .i64 a0_2, .int .i64 a0_3, .int .i64 a0_4, .int .i64 a0_5, .int .i64 a0_6] 45 (0, 0)) (by (with_reducible repeat (first | refine blk_drewN ?_ _ | refine blk_drew ?_ | refine blk_alloc ?_ _)); exact BK113.out) hb)
       have n3_ := Aside0.mk (below_step (by repeat (first | (with_reducible first | exact HB.out | apply below_alloc | apply pw_below_drewN | apply below_drew1 | refine below_set ?_ GE113.out) | exact HB.out)) hb)
       clear HO_9
       clear BK113
       clear HB
       have HO_9 := n0_
       have HO121 := n1_
       have BK113 := n2_
       have HB := n3_
       clear n0_ n1_ n2_ n3_
       (try clear hb)
       (try clear hb2)
       (try clear hk)
       (try clear hi)
       (try clear ho0)
       refine hK.out _ _ ⟨(blk_cell BK113.out 0).trans rfl, (blk_cell BK113.out 1).trans rfl, (blk_cell BK113.out 2).trans rfl, (blk_cell BK113.out 3).trans rfl, (blk_cell BK113.out 4).trans rfl, (blk_cell BK113.out 5).trans rfl, (blk_cell BK113.out 6).trans rfl⟩ (fun hHeld => ?_)
       clear hK K
       refine norm_ (a' := ?_) ?_ ?_
       rotate_left
       · show Act.put _ (some 21) _ = _
         simp only [Act.put, List.setIfInBounds_toArray, List.set_cons_zero, List.set_cons_succ, i64_w, i32_w]
         rfl
       refine pure_ (i := 6) (N := some 15) (v := ?_) (a' := ?_) #[true, true, true, true, true, true, true, false, false, false, false, false, false] rfl rfl (any_of HT_.out (by kernel_rfl)) (fun _ _ _ h => h) (Or.inl ⟨by rfl, ?_⟩) ?_ ?_
       rotate_left
       · intro w'
         go_simp
         with_reducible rfl
       rotate_left
       · simp only [Act.put, List.setIfInBounds_toArray, List.set_cons_zero, List.set_cons_succ, i64_w, i32_w]
         rfl
       refine pure_ (i := 7) (N := some 22) (v := ?_) (a' := ?_) #[true, true, true, true, true, true, true, true, false, false, false, false, false] rfl rfl (any_of HT_.out (by kernel_rfl)) (fun _ _ _ h => h) (Or.inl ⟨by rfl, ?_⟩) ?_ ?_
       rotate_left
       · intro w'
         go_simp
         with_reducible rfl
       rotate_left
       · simp only [Act.put, List.setIfInBounds_toArray, List.set_cons_zero, List.set_cons_succ, i64_w, i32_w]
         rfl
       refine pure_ (i := 8) (N := some 23) (v := ?_) (a' := ?_) #[true, true, true, true, true, true, true, true, true, false, false, false, false] rfl rfl (any_of HT_.out (by kernel_rfl)) (fun _ _ _ h => h) (Or.inl ⟨by rfl, ?_⟩) ?_ ?_
       rotate_left
       · intro w'
         go_simp
         with_reducible rfl
       rotate_left
       · simp only [Act.put, List.setIfInBounds_toArray, List.set_cons_zero, List.set_cons_succ, i64_w, i32_w]
         rfl
       refine pure_ (i := 9) (N := some 24) (v := ?_) (a' := ?_) #[true, true, true, true, true, true, true, true, true, true, false, false, false] rfl rfl (any_of HT_.out (by kernel_rfl)) (fun _ _ _ h => h) (Or.inl ⟨by rfl, ?_⟩) ?_ ?_
       rotate_left
       · intro w'
         go_simp
         with_reducible rfl
       rotate_left
       · simp only [Act.put, List.setIfInBounds_toArray, List.set_cons_zero, List.set_cons_succ, i64_w, i32_w]
         rfl
       refine pure_ (i := 10) (N := some 10) (v := ?_) (a' := ?_) #[true, true, true, true, true, true, true, true, true, true, true, false, false] rfl rfl (any_of HT_.out (by kernel_rfl)) (fun _ _ _ h => h) (Or.inl ⟨by rfl, ?_⟩) ?_ ?_
       rotate_left
       · intro w'
         go_simp
         with_reducible rfl
       rotate_left
       · simp only [Act.put, List.setIfInBounds_toArray, List.set_cons_zero, List.set_cons_succ, i64_w, i32_w]
         rfl
       refine pure_ (i := 11) (N := some 11) (v := ?_) (a' := ?_) #[true, true, true, true, true, true, true, true, true, true, true, true, false] rfl rfl (any_of HT_.out (by kernel_rfl)) (fun _ _ _ h => h) (Or.inl ⟨by rfl, ?_⟩) ?_ ?_
       rotate_left
       · intro w'
         go_simp
         with_reducible rfl
       rotate_left
       · simp only [Act.put, List.setIfInBounds_toArray, List.set_cons_zero, List.set_cons_succ, i64_w, i32_w]
         rfl
       refine pure_ (i := 12) (N := some 12) (v := ?_) (a' := ?_) #[true, true, true, true, true, true, true, true, true, true, true, true, true] rfl rfl (any_of HT_.out (by kernel_rfl)) (fun _ _ _ h => h) (Or.inl ⟨by rfl, ?_⟩) ?_ ?_
       rotate_left
       · intro w'
         go_simp
         with_reducible rfl
       rotate_left
       · simp only [Act.put, List.setIfInBounds_toArray, List.set_cons_zero, List.set_cons_succ, i64_w, i32_w]
         rfl
       refine done_ (done_of HT_.out (by kernel_rfl)) ?_
       go_upto_region 3 with (fail)
       go_cut [30] (fun v30 wc => ∃ (kq : Nat) (x30_9 : Bool), v30 = .bool x30_9 ∧ Aside0 (mullionref05_parts.j1 kq a2 x9_1 t117 t118 x30_9 a0_0 a0_1 a0_2 a0_3 a0_4 a0_5 a0_6 = some (r1, r2, r3)) ∧ Aside0 (kq ≤ k1) ∧ Aside0 (Kd.R k45 45 wc w.heap.size (fun k_ => some k_ ≠ (v120 : Value).ownBlock ∧ k_ ≠ gb113) u9 x9_1) ∧ Aside0 (Kd.R k45 45 wc w.heap.size (fun k_ => some k_ ≠ (u9 : Value).ownBlock ∧ k_ ≠ gb113) v120 t117) ∧ Aside0 (wc.heap[gb113]? = some (.cells #[.int .i64 a0_0, .int .i64 a0_1, .int .i64 a0_2, .int .i64 a0_3, .int .i64 a0_4, .int .i64 a0_5, .int .i64 a0_6] 45 (0, 0))) ∧ Aside0 (Below w.heap.size w wc))
       case first =>
         have H := HC10.out
         clear HC10
         by_cases c13 : t119 = true
         · subst c13
           have H1 : (mullionref05_parts.j1 k1 a2 x9_1 t117 t118 (t118.toList == ([] : List UInt8)) a0_0 a0_1 a0_2 a0_3 a0_4 a0_5 a0_6) = some (r1, r2, r3) := by rw [if_pos rfl] at H; exact H
           clear H
           have H := H1
           clear H1
           have H' := Aside0.mk H
           clear H
           go_wp2
           go_meet
           case rel => exact ⟨_, ((t118.toList == ([] : List UInt8))), (by first | rfl | (simp; done) | (simp [*]; done)), H', ⟨by have := HK1.out; first | omega | exact Nat.le_refl _⟩, ⟨by (with_reducible repeat (first | apply Kd.R_alloc | apply Kd.R_drewN | apply Kd.R_drew)); exact Kd.R_mono HO_9.out (fun _ hk => ⟨hk.2, hk.1⟩)⟩, ⟨by (with_reducible repeat (first | apply Kd.R_alloc | apply Kd.R_drewN | apply Kd.R_drew)); exact Kd.R_mono HO121.out (fun _ hk => ⟨hk.1.2, hk.2⟩)⟩, ⟨by (with_reducible repeat (first | refine blk_drewN ?_ _ | refine blk_drew ?_ | refine blk_alloc ?_ _)); exact BK113.out⟩, ⟨by repeat (first | (with_reducible first | exact HB.out | apply below_alloc | apply pw_below_drewN | apply below_drew1 | refine below_set ?_ GE113.out) | exact HB.out)⟩⟩
         · replace c13 := Bool.eq_false_iff.mpr c13
           subst c13
           have H1 : (mullionref05_parts.j1 k1 a2 x9_1 t117 t118 true a0_0 a0_1 a0_2 a0_3 a0_4 a0_5 a0_6) = some (r1, r2, r3) := by rw [if_neg (show ¬ (false = true) by decide)] at H; exact H
           clear H
           have H := H1
           clear H1
           have H' := Aside0.mk H
           clear H
           go_wp2
           go_meet
           case rel => exact ⟨_, (true), (by first | rfl | (simp; done) | (simp [*]; done)), H', ⟨by have := HK1.out; first | omega | exact Nat.le_refl _⟩, ⟨by (with_reducible repeat (first | apply Kd.R_alloc | apply Kd.R_drewN | apply Kd.R_drew)); exact Kd.R_mono HO_9.out (fun _ hk => ⟨hk.2, hk.1⟩)⟩, ⟨by (with_reducible repeat (first | apply Kd.R_alloc | apply Kd.R_drewN | apply Kd.R_drew)); exact Kd.R_mono HO121.out (fun _ hk => ⟨hk.1.2, hk.2⟩)⟩, ⟨by (with_reducible repeat (first | refine blk_drewN ?_ _ | refine blk_drew ?_ | refine blk_alloc ?_ _)); exact BK113.out⟩, ⟨by repeat (first | (with_reducible first | exact HB.out | apply below_alloc | apply pw_below_drewN | apply below_drew1 | refine below_set ?_ GE113.out) | exact HB.out)⟩⟩
       case rest =>
         clear HC10
         try clear c1
         try clear p2
         try clear c3
         try clear c4
         try clear p6
         try clear c7
         try clear c8
         try clear c8b0
         try clear c8b1
         try clear c13
         try clear hcz5_0
         try clear hcz5_1
         try clear hcz5_2
         try clear hcz5_3
         try clear hcz5_4
         try clear hcz5_5
         try clear hcz5_6
         try clear hfz5_0
         try clear hfz5_1
         try clear hfz5_2
         try clear hfz5_3
         try clear hfz5_4
         try clear hfz5_5
         try clear hfz5_6
         try clear p2
         obtain ⟨kq, x30_9, rfl, HA, HJ9, HO_9, HO_10, BK113, HB⟩ := hcut
         cases kq with
         | zero => exact absurd HA.out (by simp [mullionref05_parts.j1])
         | succ kj9 =>
           have H := HA.out
           clear HA
           simp only [mullionref05_parts.j1] at H
           by_cases c14 : x30_9 = true
           · subst c14
             have H1 : (some (([] : List (S45)), (⟨#[]⟩ : ByteArray), false)) = some (r1, r2, r3) := by rw [if_pos rfl] at H; exact H
             clear H
             have H := H1
             clear H1
             simp only [Option.some.injEq, Prod.mk.injEq] at H
             obtain ⟨rfl, rfl, rfl⟩ := H
             go_wp2
             go_ret3
             exact ⟨_, by first | rfl | (simp [errW_none, errW_some] <;> rfl) | (simp [*, errW_none, errW_some] <;> rfl), by first | exact Kd.R_nil _ _ _ _ _ | exact Kd.N_nil _ _ _ _ _ | exact Kd.V_nil _ _ _ _ _ | exact Kd.Q_nil _ _ _ _ _ | exact Kd.S_nil _ _ _ _ _, by repeat (first | (with_reducible first | exact HB.out | apply below_alloc | apply pw_below_drewN | apply below_drew1 | refine below_set ?_ GE113.out) | exact HB.out)⟩
           · replace c14 := Bool.eq_false_iff.mpr c14
             subst c14
             have H1 : (if x9_1.length + t117.length < 2513169434916 then ((some (x9_1 ++ t117 : List (S45))).bind fun y122 => (if 0 < (t118.size : Int) then (if (bt t118 0) = a2 then (if 1 ≤ (t118.size : Int) then (some (y122, t118.extract 1 t118.size, true)) else (none)) else (if (bt t118 0) = 44 then (mullionref05_parts.l0 kj9 t118 a2 y122 a0_0 a0_1 a0_2 a0_3 a0_4 a0_5 a0_6) else (some (([] : List (S45)), (⟨#[]⟩ : ByteArray), false)))) else (none))) else (none)) = some (r1, r2, r3) := by rw [if_neg (show ¬ (false = true) by decide)] at H; exact H
             clear H
             have H := H1
             clear H1
             by_cases c15 : x9_1.length + t117.length < 2513169434916
             · rw [if_pos c15] at H
               have LMc15 := Aside0.mk c15
               clear c15
               obtain ⟨y122, hy122⟩ : ∃ y_ : List (S45), y_ = (x9_1 ++ t117) := ⟨_, rfl⟩
               replace H : (if 0 < (t118.size : Int) then (if (bt t118 0) = a2 then (if 1 ≤ (t118.size : Int) then (some (y122, t118.extract 1 t118.size, true)) else (none)) else (if (bt t118 0) = 44 then (mullionref05_parts.l0 kj9 t118 a2 y122 a0_0 a0_1 a0_2 a0_3 a0_4 a0_5 a0_6) else (some (([] : List (S45)), (⟨#[]⟩ : ByteArray), false)))) else (none)) = some (r1, r2, r3) := by first | (rw [hy122]; with_reducible exact H) | (have H2_ := (Option.bind_some _ _).symm.trans H; rw [hy122]; with_reducible exact H2_) | (have H2_ := (Option.bind_some _ _).symm.trans H; with_reducible exact H2_) | with_reducible exact H | (rw [hy122]; exact H) | exact H
               have Ny122 := Aside0.mk hy122
               clear hy122
               by_cases c16 : 0 < (t118.size : Int)
               · rw [if_pos c16] at H
                 have c16b0 : decide (0 < (t118.size : Int)) = true := decide_eq_true c16
                 have c16b1 : decide (0 < t118.size) = true := decide_eq_true (by omega)
                 clear c16
                 by_cases c18 : (bt t118 0) = a2
                 · rw [if_pos c18] at H
                   have c18b0 : ((bt t118 0) == a2) = true := beq_iff_eq.mpr c18
                   have c18b1 : ((bt t118 0) != a2) = false := bne_eq_false_iff_eq.mpr c18
                   clear c18
                   by_cases c19 : 1 ≤ (t118.size : Int)
                   · rw [if_pos c19] at H
                     have c19b0 := eq_true c19
                     have c19b1 : decide (1 ≤ (t118.size : Int)) = true := decide_eq_true c19
                     clear c19
                     simp only [Option.some.injEq, Prod.mk.injEq] at H
                     obtain ⟨rfl, rfl, rfl⟩ := H
                     obtain ⟨Ao21, co21, eo21⟩ := Kd.R_slice HO_10.out
                     subst eo21
                     try go_wp2_with (first | ((with_reducible refine gate_builtin (b := .append) (xs := #[.tmp 31, .tmp 32]) rfl ?_); at_builtin; refine Kd.R_append_rows k45 (w0 := w) w.heap.size rfl (.tmp 31) (.tmp 32) 22 45 (.agg #[(.int .i64 0), (.int .i64 0), (.int .i64 0), (.int .i64 0), (.int .i64 0), (.int .i64 0), (.int .i64 0)]) 56 rfl Tryd.underlying22 info45 rfl (by decide) (by omega) u9 x9_1 t117 _ _ _ (fun k_ => some k_ ≠ (.slice Ao21 t117.length co21 : Value).ownBlock ∧ k_ ≠ gb113) (fun _ => False) rfl rfl ?aO ?aR (fun _ _ h => h) (fun _ h => h.elim) ?aF ?aB ?aS ?aL ?_; (case aR => repeat (first | exact (Kd.R_reads' HO_10.out).2.2 | (with_reducible refine Kd.C_alloc ?_ _) | (with_reducible refine Kd.C_drewN ?_ _) | (with_reducible refine Kd.C_drew ?_))); (case aB => exact (by repeat (first | (with_reducible first | exact HB.out | apply below_alloc | apply pw_below_drewN | apply below_drew1 | refine below_set ?_ GE113.out) | exact HB.out))); (case aF => exact (fun k_ hk => ⟨Kd.fresh' (Kd.R_lt (by (with_reducible repeat (first | apply Kd.R_alloc | apply Kd.R_drewN | apply Kd.R_drew)); exact HO_10.out)) k_ hk, Kd.freshB (g := gb113) (o := .cells #[.int .i64 a0_0, .int .i64 a0_1, .int .i64 a0_2, .int .i64 a0_3, .int .i64 a0_4, .int .i64 a0_5, .int .i64 a0_6] 45 (0, 0)) (by (with_reducible repeat (first | refine blk_drewN ?_ _ | refine blk_drew ?_ | refine blk_alloc ?_ _)); exact BK113.out) k_ hk⟩)); (case aO => exact (by (with_reducible repeat (first | apply Kd.R_alloc | apply Kd.R_drewN | apply Kd.R_drew)); exact HO_9.out)); (case aS => exact (below_size (by repeat (first | (with_reducible first | exact HB.out | apply below_alloc | apply pw_below_drewN | apply below_drew1 | refine below_set ?_ GE113.out) | exact HB.out)))); (case aL => have := LMc15.out; omega); intro v123 w20 ho hb hg hat; rw [← Ny122.out] at ho; have n0_ := Aside0.mk (Kd.R_after (ok := (fun k_ => k_ ≠ gb113)) (by (with_reducible repeat (first | apply Kd.R_alloc | apply Kd.R_drewN | apply Kd.R_drew)); exact Kd.R_mono HO_10.out (fun _ hk => ⟨hk.2, hk.1⟩)) hg hat); have n1_ := Aside0.mk (blk_grown (g := gb113) (o := .cells #[.int .i64 a0_0, .int .i64 a0_1, .int .i64 a0_2, .int .i64 a0_3, .int .i64 a0_4, .int .i64 a0_5, .int .i64 a0_6] 45 (0, 0)) (by (with_reducible repeat (first | refine blk_drewN ?_ _ | refine blk_drew ?_ | refine blk_alloc ?_ _)); exact BK113.out) hg (Kd.R_away HO_9.out (fun _ hk => hk.2))); have n2_ := Aside0.mk (hb); have n3_ := Aside0.mk (ho); clear HO_10; clear BK113; clear HB; clear HO_9; have HO_10 := n0_; have BK113 := n1_; have HB := n2_; have HO124 := n3_; clear n0_ n1_ n2_ n3_; clear ho hb hg hat; have p17 : 0 ≤ (0 : Int) := (by omega); have q17 : 0 < t118.size := (by have : (0 : Int) < (t118.size : Int) := of_decide_eq_true (by first | (with_reducible assumption) | assumption); omega); have hx17 : ∀ h : 0 < t118.size, ((t118[0]'h).toNat : Int) = bt t118 0 := bt_at t118 0; clear p17; have qi17 : (0 < (t118.size : Int)) = True := eq_true (of_decide_eq_true (by first | (with_reducible assumption) | assumption)); replace q17 := eq_true q17))
                     have n0_ := Aside0.mk (Kd.R_drew HO_10.out)
                     have n1_ := Aside0.mk (Kd.R_drew HO124.out)
                     have n2_ := Aside0.mk (blk_drew BK113.out)
                     have n3_ := Aside0.mk (below_drew1 HB.out)
                     clear HO_10
                     clear HO124
                     clear BK113
                     clear HB
                     have HO_10 := n0_
                     have HO124 := n1_
                     have BK113 := n2_
                     have HB := n3_
                     clear n0_ n1_ n2_ n3_
                     refine start_ (n := 6) (S := fun w' => True) (ds := []) #[false, false, false, false, false, false] (by kernel_rfl) rfl rfl trivial (fun hHeld => ?_)
                     generalize w20.drew = w22 at HO_10 HO124 BK113 HB hHeld ⊢
                     refine pure_ (i := 0) (N := some 39) (v := ?_) (a' := ?_) #[true, false, false, false, false, false] rfl rfl (by kernel_rfl) (fun _ _ _ h => h) (Or.inl ⟨by rfl, ?_⟩) ?_ ?_
                     rotate_left
                     · intro w'
                       go_simp
                       with_reducible rfl
                     rotate_left
                     · simp only [Act.put, List.setIfInBounds_toArray, List.set_cons_zero, List.set_cons_succ, i64_w, i32_w]
                       rfl
                     refine pure_ (i := 1) (N := some 40) (v := ?_) (a' := ?_) #[true, true, false, false, false, false] rfl rfl (by kernel_rfl) (fun _ _ _ h => h) (Or.inl ⟨by rfl, ?_⟩) ?_ ?_
                     rotate_left
                     · intro w'
                       go_simp
                       with_reducible rfl
                     rotate_left
                     · simp only [Act.put, List.setIfInBounds_toArray, List.set_cons_zero, List.set_cons_succ, i64_w, i32_w]
                       rfl
                     refine pure_ (i := 2) (N := some 41) (v := ?_) (a' := ?_) #[true, true, true, false, false, false] rfl rfl (by kernel_rfl) (fun _ _ _ h => h) (Or.inl ⟨by rfl, ?_⟩) ?_ ?_
                     rotate_left
                     · intro w'
                       go_simp
                       with_reducible rfl
                     rotate_left
                     · simp only [Act.put, List.setIfInBounds_toArray, List.set_cons_zero, List.set_cons_succ, i64_w, i32_w]
                       rfl
                     refine pure_ (i := 3) (N := some 6) (v := ?_) (a' := ?_) #[true, true, true, true, false, false] rfl rfl (by kernel_rfl) (fun _ _ _ h => h) (Or.inl ⟨by rfl, ?_⟩) ?_ ?_
                     rotate_left
                     · intro w'
                       go_simp
                       with_reducible rfl
                     rotate_left
                     · simp only [Act.put, List.setIfInBounds_toArray, List.set_cons_zero, List.set_cons_succ, i64_w, i32_w]
                       rfl
                     refine pure_ (i := 4) (N := some 7) (v := ?_) (a' := ?_) #[true, true, true, true, true, false] rfl rfl (by kernel_rfl) (fun _ _ _ h => h) (Or.inl ⟨by rfl, ?_⟩) ?_ ?_
                     rotate_left
                     · intro w'
                       go_simp
                       with_reducible rfl
                     rotate_left
                     · simp only [Act.put, List.setIfInBounds_toArray, List.set_cons_zero, List.set_cons_succ, i64_w, i32_w]
                       rfl
                     refine pure_ (i := 5) (N := some 8) (v := ?_) (a' := ?_) #[true, true, true, true, true, true] rfl rfl (by kernel_rfl) (fun _ _ _ h => h) (Or.inl ⟨by rfl, ?_⟩) ?_ ?_
                     rotate_left
                     · intro w'
                       go_simp
                       with_reducible rfl
                     rotate_left
                     · simp only [Act.put, List.setIfInBounds_toArray, List.set_cons_zero, List.set_cons_succ, i64_w, i32_w]
                       rfl
                     refine done_ (by kernel_rfl) ?_
                     try go_wp2
                     go_ret3
                     exact ⟨_, by first | rfl | (simp [errW_none, errW_some] <;> rfl) | (simp [*, errW_none, errW_some] <;> rfl), by (with_reducible repeat (first | apply Kd.R_alloc | apply Kd.R_drewN | apply Kd.R_drew)); exact Kd.R_mono HO124.out (fun _ hk => trivial), by repeat (first | (with_reducible first | exact HB.out | apply below_alloc | apply pw_below_drewN | apply below_drew1 | refine below_set ?_ GE113.out) | exact HB.out)⟩
                   · rw [if_neg c19] at H
                     exact absurd H (by simp)
                 · rw [if_neg c18] at H
                   have c18b0 : ((bt t118 0) == a2) = false := beq_eq_false_iff_ne.mpr c18
                   have c18b1 : ((bt t118 0) != a2) = true := bne_iff_ne.mpr c18
                   by_cases c24 : (bt t118 0) = 44
                   · rw [if_pos c24] at H
                     have c24b0 : ((bt t118 0) == 44) = true := beq_iff_eq.mpr c24
                     have c24b1 : ((bt t118 0) != 44) = false := bne_eq_false_iff_eq.mpr c24
                     clear c24
                     have H' := Aside0.mk H
                     clear H
                     obtain ⟨Ao26, co26, eo26⟩ := Kd.R_slice HO_10.out
                     subst eo26
                     go_wp2_with (first | ((with_reducible refine gate_builtin (b := .append) (xs := #[.tmp 31, .tmp 32]) rfl ?_); at_builtin; refine Kd.R_append_rows k45 (w0 := w) w.heap.size rfl (.tmp 31) (.tmp 32) 22 45 (.agg #[(.int .i64 0), (.int .i64 0), (.int .i64 0), (.int .i64 0), (.int .i64 0), (.int .i64 0), (.int .i64 0)]) 56 rfl Tryd.underlying22 info45 rfl (by decide) (by omega) u9 x9_1 t117 _ _ _ (fun k_ => some k_ ≠ (.slice Ao26 t117.length co26 : Value).ownBlock ∧ k_ ≠ gb113) (fun _ => False) rfl rfl ?aO ?aR (fun _ _ h => h) (fun _ h => h.elim) ?aF ?aB ?aS ?aL ?_; (case aR => repeat (first | exact (Kd.R_reads' HO_10.out).2.2 | (with_reducible refine Kd.C_alloc ?_ _) | (with_reducible refine Kd.C_drewN ?_ _) | (with_reducible refine Kd.C_drew ?_))); (case aB => exact (by repeat (first | (with_reducible first | exact HB.out | apply below_alloc | apply pw_below_drewN | apply below_drew1 | refine below_set ?_ GE113.out) | exact HB.out))); (case aF => exact (fun k_ hk => ⟨Kd.fresh' (Kd.R_lt (by (with_reducible repeat (first | apply Kd.R_alloc | apply Kd.R_drewN | apply Kd.R_drew)); exact HO_10.out)) k_ hk, Kd.freshB (g := gb113) (o := .cells #[.int .i64 a0_0, .int .i64 a0_1, .int .i64 a0_2, .int .i64 a0_3, .int .i64 a0_4, .int .i64 a0_5, .int .i64 a0_6] 45 (0, 0)) (by (with_reducible repeat (first | refine blk_drewN ?_ _ | refine blk_drew ?_ | refine blk_alloc ?_ _)); exact BK113.out) k_ hk⟩)); (case aO => exact (by (with_reducible repeat (first | apply Kd.R_alloc | apply Kd.R_drewN | apply Kd.R_drew)); exact HO_9.out)); (case aS => exact (below_size (by repeat (first | (with_reducible first | exact HB.out | apply below_alloc | apply pw_below_drewN | apply below_drew1 | refine below_set ?_ GE113.out) | exact HB.out)))); (case aL => have := LMc15.out; omega); intro v123 w25 ho hb hg hat; rw [← Ny122.out] at ho; have n0_ := Aside0.mk (Kd.R_after (ok := (fun k_ => k_ ≠ gb113)) (by (with_reducible repeat (first | apply Kd.R_alloc | apply Kd.R_drewN | apply Kd.R_drew)); exact Kd.R_mono HO_10.out (fun _ hk => ⟨hk.2, hk.1⟩)) hg hat); have n1_ := Aside0.mk (blk_grown (g := gb113) (o := .cells #[.int .i64 a0_0, .int .i64 a0_1, .int .i64 a0_2, .int .i64 a0_3, .int .i64 a0_4, .int .i64 a0_5, .int .i64 a0_6] 45 (0, 0)) (by (with_reducible repeat (first | refine blk_drewN ?_ _ | refine blk_drew ?_ | refine blk_alloc ?_ _)); exact BK113.out) hg (Kd.R_away HO_9.out (fun _ hk => hk.2))); have n2_ := Aside0.mk (hb); have n3_ := Aside0.mk (ho); clear HO_10; clear BK113; clear HB; clear HO_9; have HO_10 := n0_; have BK113 := n1_; have HB := n2_; have HO124 := n3_; clear n0_ n1_ n2_ n3_; clear ho hb hg hat; have p17 : 0 ≤ (0 : Int) := (by omega); have q17 : 0 < t118.size := (by have : (0 : Int) < (t118.size : Int) := of_decide_eq_true (by first | (with_reducible assumption) | assumption); omega); have hx17 : ∀ h : 0 < t118.size, ((t118[0]'h).toNat : Int) = bt t118 0 := bt_at t118 0; clear p17; have qi17 : (0 < (t118.size : Int)) = True := eq_true (of_decide_eq_true (by first | (with_reducible assumption) | assumption)); replace q17 := eq_true q17; have p23 : 0 ≤ (0 : Int) := (by omega); have q23 : 0 < t118.size := (by have : (0 : Int) < (t118.size : Int) := of_decide_eq_true (by first | (with_reducible assumption) | assumption); omega); have hx23 : ∀ h : 0 < t118.size, ((t118[0]'h).toNat : Int) = bt t118 0 := bt_at t118 0; clear p23; have qi23 : (0 < (t118.size : Int)) = True := eq_true (of_decide_eq_true (by first | (with_reducible assumption) | assumption)); replace q23 := eq_true q23))
                     go_roundg kj9
                     case measure => have := HK1.out; have := HJ9.out; omega
                     case rel => exact ⟨(t118), (y122), (by first | rfl | (simp; done) | (simp [*]; done)), H', ⟨by have := HK1.out; have := HJ9.out; omega⟩, ⟨by (with_reducible repeat (first | apply Kd.R_alloc | apply Kd.R_drewN | apply Kd.R_drew)); exact Kd.R_mono HO124.out (fun _ hk => hk.2)⟩, ⟨by (with_reducible repeat (first | refine blk_drewN ?_ _ | refine blk_drew ?_ | refine blk_alloc ?_ _)); exact BK113.out⟩, ⟨by repeat (first | (with_reducible first | exact HB.out | apply below_alloc | apply pw_below_drewN | apply below_drew1 | refine below_set ?_ GE113.out) | exact HB.out)⟩⟩
                   · rw [if_neg c24] at H
                     have c24b0 : ((bt t118 0) == 44) = false := beq_eq_false_iff_ne.mpr c24
                     have c24b1 : ((bt t118 0) != 44) = true := bne_iff_ne.mpr c24
                     simp only [Option.some.injEq, Prod.mk.injEq] at H
                     obtain ⟨rfl, rfl, rfl⟩ := H
                     obtain ⟨Ao28, co28, eo28⟩ := Kd.R_slice HO_10.out
                     subst eo28
                     go_wp2_with (first | ((with_reducible refine gate_builtin (b := .append) (xs := #[.tmp 31, .tmp 32]) rfl ?_); at_builtin; refine Kd.R_append_rows k45 (w0 := w) w.heap.size rfl (.tmp 31) (.tmp 32) 22 45 (.agg #[(.int .i64 0), (.int .i64 0), (.int .i64 0), (.int .i64 0), (.int .i64 0), (.int .i64 0), (.int .i64 0)]) 56 rfl Tryd.underlying22 info45 rfl (by decide) (by omega) u9 x9_1 t117 _ _ _ (fun k_ => some k_ ≠ (.slice Ao28 t117.length co28 : Value).ownBlock ∧ k_ ≠ gb113) (fun _ => False) rfl rfl ?aO ?aR (fun _ _ h => h) (fun _ h => h.elim) ?aF ?aB ?aS ?aL ?_; (case aR => repeat (first | exact (Kd.R_reads' HO_10.out).2.2 | (with_reducible refine Kd.C_alloc ?_ _) | (with_reducible refine Kd.C_drewN ?_ _) | (with_reducible refine Kd.C_drew ?_))); (case aB => exact (by repeat (first | (with_reducible first | exact HB.out | apply below_alloc | apply pw_below_drewN | apply below_drew1 | refine below_set ?_ GE113.out) | exact HB.out))); (case aF => exact (fun k_ hk => ⟨Kd.fresh' (Kd.R_lt (by (with_reducible repeat (first | apply Kd.R_alloc | apply Kd.R_drewN | apply Kd.R_drew)); exact HO_10.out)) k_ hk, Kd.freshB (g := gb113) (o := .cells #[.int .i64 a0_0, .int .i64 a0_1, .int .i64 a0_2, .int .i64 a0_3, .int .i64 a0_4, .int .i64 a0_5, .int .i64 a0_6] 45 (0, 0)) (by (with_reducible repeat (first | refine blk_drewN ?_ _ | refine blk_drew ?_ | refine blk_alloc ?_ _)); exact BK113.out) k_ hk⟩)); (case aO => exact (by (with_reducible repeat (first | apply Kd.R_alloc | apply Kd.R_drewN | apply Kd.R_drew)); exact HO_9.out)); (case aS => exact (below_size (by repeat (first | (with_reducible first | exact HB.out | apply below_alloc | apply pw_below_drewN | apply below_drew1 | refine below_set ?_ GE113.out) | exact HB.out)))); (case aL => have := LMc15.out; omega); intro v123 w27 ho hb hg hat; rw [← Ny122.out] at ho; have n0_ := Aside0.mk (Kd.R_after (ok := (fun k_ => k_ ≠ gb113)) (by (with_reducible repeat (first | apply Kd.R_alloc | apply Kd.R_drewN | apply Kd.R_drew)); exact Kd.R_mono HO_10.out (fun _ hk => ⟨hk.2, hk.1⟩)) hg hat); have n1_ := Aside0.mk (blk_grown (g := gb113) (o := .cells #[.int .i64 a0_0, .int .i64 a0_1, .int .i64 a0_2, .int .i64 a0_3, .int .i64 a0_4, .int .i64 a0_5, .int .i64 a0_6] 45 (0, 0)) (by (with_reducible repeat (first | refine blk_drewN ?_ _ | refine blk_drew ?_ | refine blk_alloc ?_ _)); exact BK113.out) hg (Kd.R_away HO_9.out (fun _ hk => hk.2))); have n2_ := Aside0.mk (hb); have n3_ := Aside0.mk (ho); clear HO_10; clear BK113; clear HB; clear HO_9; have HO_10 := n0_; have BK113 := n1_; have HB := n2_; have HO124 := n3_; clear n0_ n1_ n2_ n3_; clear ho hb hg hat; have p17 : 0 ≤ (0 : Int) := (by omega); have q17 : 0 < t118.size := (by have : (0 : Int) < (t118.size : Int) := of_decide_eq_true (by first | (with_reducible assumption) | assumption); omega); have hx17 : ∀ h : 0 < t118.size, ((t118[0]'h).toNat : Int) = bt t118 0 := bt_at t118 0; clear p17; have qi17 : (0 < (t118.size : Int)) = True := eq_true (of_decide_eq_true (by first | (with_reducible assumption) | assumption)); replace q17 := eq_true q17; have p23 : 0 ≤ (0 : Int) := (by omega); have q23 : 0 < t118.size := (by have : (0 : Int) < (t118.size : Int) := of_decide_eq_true (by first | (with_reducible assumption) | assumption); omega); have hx23 : ∀ h : 0 < t118.size, ((t118[0]'h).toNat : Int) = bt t118 0 := bt_at t118 0; clear p23; have qi23 : (0 < (t118.size : Int)) = True := eq_true (of_decide_eq_true (by first | (with_reducible assumption) | assumption)); replace q23 := eq_true q23))
                     go_ret3
                     exact ⟨_, by first | rfl | (simp [errW_none, errW_some] <;> rfl) | (simp [*, errW_none, errW_some] <;> rfl), by first | exact Kd.R_nil _ _ _ _ _ | exact Kd.N_nil _ _ _ _ _ | exact Kd.V_nil _ _ _ _ _ | exact Kd.Q_nil _ _ _ _ _ | exact Kd.S_nil _ _ _ _ _, by repeat (first | (with_reducible first | exact HB.out | apply below_alloc | apply pw_below_drewN | apply below_drew1 | refine below_set ?_ GE113.out) | exact HB.out)⟩
               · rw [if_neg c16] at H
                 exact absurd H (by simp)
             · rw [if_neg c15] at H
               exact absurd H (by simp)
     · rw [if_neg c8] at H
       exact absurd H (by simp)
end Go.Proofs.YtmpnkckaohfflaaDoor.P
end
section
namespace Go.Proofs.YtmpnkckaohfflaaDoor.Y
open Go.Proofs.YtmpnkckaohfflaaDoor.K Go.Proofs.YtmpnkckaohfflaaDoor.L Go.Proofs.YtmpnkckaohfflaaDoor.P Go.RowKit Go.Proofs.YtmpnkckaohfflaaDoorW.PrintWords Go.Proofs.YtmpnkckaohfflaaDoorW.PrintLast Go.Proofs.YtmpnkckaohfflaaDoorW.PrintMore Go.Proofs.YtmpnkckaohfflaaDoor.PGiv
attribute [local go_sem] max2_int min2_int max_two min_two max_three min_three max_four min_four
set_option linter.unusedVariables false
set_option linter.unusedSimpArgs false
def mullionref05_cellY.j0 : Nat → ByteArray → Bool → Int → Int → Int → Int → Int → Int → Int → Option ((List (S45)) × ByteArray × Bool)
 | 0, _, _, _, _, _, _, _, _, _ => none
 | k + 1, x0, x68, x108000, x108001, x108002, x108003, x108004, x108005, x108006 => if x68 = true then (some (([] : List (S45)), (⟨#[]⟩ : ByteArray), false)) else (if 0 < (x0.size : Int) then (if (bt x0 0) = 44 then (if 1 ≤ (x0.size : Int) then ((mullionref05_number.f k (x0.extract 1 x0.size)).bind fun bt126 => (some ((([(⟨x108000, 1, x108002, x108003, x108004, x108005, bt126.1⟩ : S45)] : List (S45))), bt126.2.1, bt126.2.2))) else (none)) else (if (bt x0 0) = 123 then ((mullionref05_parts.f k x108000 2 x108002 x108003 x108004 x108005 x108006 x0 125).bind fun bt132 => (some (bt132.1, bt132.2.1, bt132.2.2))) else (if (bt x0 0) = 91 then ((mullionref05_parts.f k x108000 3 x108002 x108003 x108004 x108005 x108006 x0 93).bind fun bt137 => (some (bt137.1, bt137.2.1, bt137.2.2))) else (some (([] : List (S45)), (⟨#[]⟩ : ByteArray), false))))) else (none))
def mullionref05_cellY.f (k : Nat) (a0 : ByteArray) (a1 : Int) : Option ((List (S45)) × ByteArray × Bool) := (mullionref05_number.f k a0).bind fun bt108 => ((mullionref05_after.f bt108.2.1 120 bt108.2.2).bind fun bt111 => (if bt111.2 = true then ((mullionref05_number.f k bt111.1).bind fun bt113 => ((mullionref05_after.f bt113.2.1 44 bt113.2.2).bind fun bt116 => (if bt116.2 = true then ((mullionref05_number.f k bt116.1).bind fun bt118 => ((mullionref05_after.f bt118.2.1 44 bt118.2.2).bind fun bt121 => (if bt121.2 = true then ((mullionref05_number.f k bt121.1).bind fun bt123 => (if bt123.2.2 = true then (mullionref05_cellY.j0 k bt123.2.1 (bt123.2.1.toList == ([] : List UInt8)) a1 0 bt118.1 bt123.1 bt108.1 bt113.1 0) else (mullionref05_cellY.j0 k bt123.2.1 true a1 0 bt118.1 bt123.1 bt108.1 bt113.1 0))) else (some (([] : List (S45)), (⟨#[]⟩ : ByteArray), false))))) else (some (([] : List (S45)), (⟨#[]⟩ : ByteArray), false))))) else (some (([] : List (S45)), (⟨#[]⟩ : ByteArray), false))))
theorem mullionref05_cellY.mono_l : ∀ k, (∀ y0 y1 y2 y3 y4 y5 y6 y7 y8, LeO (mullionref05_cellY.j0 k y0 y1 y2 y3 y4 y5 y6 y7 y8) (mullionref05_cellY.j0 (k + 1) y0 y1 y2 y3 y4 y5 y6 y7 y8))
 | 0 => fun _ _ _ _ _ _ _ _ _ r h => by simp [mullionref05_cellY.j0] at h
 | k + 1 => by
   have ih0 := mullionref05_cellY.mono_l k
   · intro y0 y1 y2 y3 y4 y5 y6 y7 y8
     unfold mullionref05_cellY.j0
     repeat' first
     | (with_reducible exact ih0 _ _ _ _ _ _ _ _ _)
     | (with_reducible exact mullionref05_number.mono _ _)
     | (with_reducible exact mullionref05_parts.mono _ _ _ _ _ _ _ _ _ _)
     | (with_reducible exact LeO.refl _)
     | (with_reducible exact LeO.none _)
     | (with_reducible refine LeO.ite ?_ ?_)
     | (with_reducible refine LeO.bind ?_ (fun _ => ?_))
     | exact ih0 _ _ _ _ _ _ _ _ _
     | exact mullionref05_number.mono _ _
     | exact mullionref05_parts.mono _ _ _ _ _ _ _ _ _ _
     | exact LeO.none _
     | refine LeO.ite ?_ ?_
     | refine LeO.bind ?_ (fun _ => ?_)
theorem mullionref05_cellY.mono : ∀ a0 a1 k, LeO (mullionref05_cellY.f k a0 a1) (mullionref05_cellY.f (k + 1) a0 a1) := by
 intro a0 a1 k
 have ih0 := mullionref05_cellY.mono_l k
 unfold mullionref05_cellY.f
 repeat' first
     | (with_reducible exact ih0 _ _ _ _ _ _ _ _ _)
     | (with_reducible exact mullionref05_number.mono _ _)
     | (with_reducible exact mullionref05_parts.mono _ _ _ _ _ _ _ _ _ _)
     | (with_reducible exact LeO.refl _)
     | (with_reducible exact LeO.none _)
     | (with_reducible refine LeO.ite ?_ ?_)
     | (with_reducible refine LeO.bind ?_ (fun _ => ?_))
     | exact ih0 _ _ _ _ _ _ _ _ _
     | exact mullionref05_number.mono _ _
     | exact mullionref05_parts.mono _ _ _ _ _ _ _ _ _ _
     | exact LeO.none _
     | refine LeO.ite ?_ ?_
     | refine LeO.bind ?_ (fun _ => ?_)
set_option maxHeartbeats 8000000 in
set_option maxRecDepth 100000 in
theorem mullionref05_cellY.calls (k : Nat) (HCELL : Aside0 (CellOK k)) (a0 : ByteArray) (a1 : Int) (r1 : List (S45)) (r2 : ByteArray) (r3 : Bool) (w : World) (h : mullionref05_cellY.f k a0 a1 = some (r1, r2, r3)) :
   Calls Tryd.prog 32 #[.string a0, .int .i64 a1] w fun e w' => ∃ v0_ : Value, e = .returned (.tuple #[v0_, .string r2, .bool r3]) ∧ Kd.R k45 45 w' w.heap.size (fun _ => True) v0_ r1 ∧ Below w.heap.size w w' := by
 have hu45 := Tryd.underlying45
 have HB := Aside0.mk (Below.refl w.heap.size w)
 have H : ((mullionref05_number.f k a0).bind fun bt108 => ((mullionref05_after.f bt108.2.1 120 bt108.2.2).bind fun bt111 => (if bt111.2 = true then ((mullionref05_number.f k bt111.1).bind fun bt113 => ((mullionref05_after.f bt113.2.1 44 bt113.2.2).bind fun bt116 => (if bt116.2 = true then ((mullionref05_number.f k bt116.1).bind fun bt118 => ((mullionref05_after.f bt118.2.1 44 bt118.2.2).bind fun bt121 => (if bt121.2 = true then ((mullionref05_number.f k bt121.1).bind fun bt123 => (if bt123.2.2 = true then (mullionref05_cellY.j0 k bt123.2.1 (bt123.2.1.toList == ([] : List UInt8)) a1 0 bt118.1 bt123.1 bt108.1 bt113.1 0) else (mullionref05_cellY.j0 k bt123.2.1 true a1 0 bt118.1 bt123.1 bt108.1 bt113.1 0))) else (some (([] : List (S45)), (⟨#[]⟩ : ByteArray), false))))) else (some (([] : List (S45)), (⟨#[]⟩ : ByteArray), false))))) else (some (([] : List (S45)), (⟨#[]⟩ : ByteArray), false))))) = some (r1, r2, r3) := h
 clear h
 replace H := Option.bind_eq_some_iff.mp H
 obtain ⟨⟨t108, t109, t110⟩, A30, H⟩ := H
 replace H : ((mullionref05_after.f t109 120 t110).bind fun bt111 => (if bt111.2 = true then ((mullionref05_number.f k bt111.1).bind fun bt113 => ((mullionref05_after.f bt113.2.1 44 bt113.2.2).bind fun bt116 => (if bt116.2 = true then ((mullionref05_number.f k bt116.1).bind fun bt118 => ((mullionref05_after.f bt118.2.1 44 bt118.2.2).bind fun bt121 => (if bt121.2 = true then ((mullionref05_number.f k bt121.1).bind fun bt123 => (if bt123.2.2 = true then (mullionref05_cellY.j0 k bt123.2.1 (bt123.2.1.toList == ([] : List UInt8)) a1 0 bt118.1 bt123.1 t108 bt113.1 0) else (mullionref05_cellY.j0 k bt123.2.1 true a1 0 bt118.1 bt123.1 t108 bt113.1 0))) else (some (([] : List (S45)), (⟨#[]⟩ : ByteArray), false))))) else (some (([] : List (S45)), (⟨#[]⟩ : ByteArray), false))))) else (some (([] : List (S45)), (⟨#[]⟩ : ByteArray), false)))) = some (r1, r2, r3) := H
 have A3 := Aside0.mk A30
 clear A30
 replace H := Option.bind_eq_some_iff.mp H
 obtain ⟨⟨t111, t112⟩, A40, H⟩ := H
 replace H : (if t112 = true then ((mullionref05_number.f k t111).bind fun bt113 => ((mullionref05_after.f bt113.2.1 44 bt113.2.2).bind fun bt116 => (if bt116.2 = true then ((mullionref05_number.f k bt116.1).bind fun bt118 => ((mullionref05_after.f bt118.2.1 44 bt118.2.2).bind fun bt121 => (if bt121.2 = true then ((mullionref05_number.f k bt121.1).bind fun bt123 => (if bt123.2.2 = true then (mullionref05_cellY.j0 k bt123.2.1 (bt123.2.1.toList == ([] : List UInt8)) a1 0 bt118.1 bt123.1 t108 bt113.1 0) else (mullionref05_cellY.j0 k bt123.2.1 true a1 0 bt118.1 bt123.1 t108 bt113.1 0))) else (some (([] : List (S45)), (⟨#[]⟩ : ByteArray), false))))) else (some (([] : List (S45)), (⟨#[]⟩ : ByteArray), false))))) else (some (([] : List (S45)), (⟨#[]⟩ : ByteArray), false))) = some (r1, r2, r3) := H
 have A4 := Aside0.mk A40
 clear A40
 by_cases c5 : t112 = true
 · subst c5
   have H1 : ((mullionref05_number.f k t111).bind fun bt113 => ((mullionref05_after.f bt113.2.1 44 bt113.2.2).bind fun bt116 => (if bt116.2 = true then ((mullionref05_number.f k bt116.1).bind fun bt118 => ((mullionref05_after.f bt118.2.1 44 bt118.2.2).bind fun bt121 => (if bt121.2 = true then ((mullionref05_number.f k bt121.1).bind fun bt123 => (if bt123.2.2 = true then (mullionref05_cellY.j0 k bt123.2.1 (bt123.2.1.toList == ([] : List UInt8)) a1 0 bt118.1 bt123.1 t108 bt113.1 0) else (mullionref05_cellY.j0 k bt123.2.1 true a1 0 bt118.1 bt123.1 t108 bt113.1 0))) else (some (([] : List (S45)), (⟨#[]⟩ : ByteArray), false))))) else (some (([] : List (S45)), (⟨#[]⟩ : ByteArray), false))))) = some (r1, r2, r3) := by rw [if_pos rfl] at H; exact H
   clear H
   have H := H1
   clear H1
   replace H := Option.bind_eq_some_iff.mp H
   obtain ⟨⟨t113, t114, t115⟩, A60, H⟩ := H
   replace H : ((mullionref05_after.f t114 44 t115).bind fun bt116 => (if bt116.2 = true then ((mullionref05_number.f k bt116.1).bind fun bt118 => ((mullionref05_after.f bt118.2.1 44 bt118.2.2).bind fun bt121 => (if bt121.2 = true then ((mullionref05_number.f k bt121.1).bind fun bt123 => (if bt123.2.2 = true then (mullionref05_cellY.j0 k bt123.2.1 (bt123.2.1.toList == ([] : List UInt8)) a1 0 bt118.1 bt123.1 t108 t113 0) else (mullionref05_cellY.j0 k bt123.2.1 true a1 0 bt118.1 bt123.1 t108 t113 0))) else (some (([] : List (S45)), (⟨#[]⟩ : ByteArray), false))))) else (some (([] : List (S45)), (⟨#[]⟩ : ByteArray), false)))) = some (r1, r2, r3) := H
   have A6 := Aside0.mk A60
   clear A60
   replace H := Option.bind_eq_some_iff.mp H
   obtain ⟨⟨t116, t117⟩, A70, H⟩ := H
   replace H : (if t117 = true then ((mullionref05_number.f k t116).bind fun bt118 => ((mullionref05_after.f bt118.2.1 44 bt118.2.2).bind fun bt121 => (if bt121.2 = true then ((mullionref05_number.f k bt121.1).bind fun bt123 => (if bt123.2.2 = true then (mullionref05_cellY.j0 k bt123.2.1 (bt123.2.1.toList == ([] : List UInt8)) a1 0 bt118.1 bt123.1 t108 t113 0) else (mullionref05_cellY.j0 k bt123.2.1 true a1 0 bt118.1 bt123.1 t108 t113 0))) else (some (([] : List (S45)), (⟨#[]⟩ : ByteArray), false))))) else (some (([] : List (S45)), (⟨#[]⟩ : ByteArray), false))) = some (r1, r2, r3) := H
   have A7 := Aside0.mk A70
   clear A70
   by_cases c8 : t117 = true
   · subst c8
     have H1 : ((mullionref05_number.f k t116).bind fun bt118 => ((mullionref05_after.f bt118.2.1 44 bt118.2.2).bind fun bt121 => (if bt121.2 = true then ((mullionref05_number.f k bt121.1).bind fun bt123 => (if bt123.2.2 = true then (mullionref05_cellY.j0 k bt123.2.1 (bt123.2.1.toList == ([] : List UInt8)) a1 0 bt118.1 bt123.1 t108 t113 0) else (mullionref05_cellY.j0 k bt123.2.1 true a1 0 bt118.1 bt123.1 t108 t113 0))) else (some (([] : List (S45)), (⟨#[]⟩ : ByteArray), false))))) = some (r1, r2, r3) := by rw [if_pos rfl] at H; exact H
     clear H
     have H := H1
     clear H1
     replace H := Option.bind_eq_some_iff.mp H
     obtain ⟨⟨t118, t119, t120⟩, A90, H⟩ := H
     replace H : ((mullionref05_after.f t119 44 t120).bind fun bt121 => (if bt121.2 = true then ((mullionref05_number.f k bt121.1).bind fun bt123 => (if bt123.2.2 = true then (mullionref05_cellY.j0 k bt123.2.1 (bt123.2.1.toList == ([] : List UInt8)) a1 0 t118 bt123.1 t108 t113 0) else (mullionref05_cellY.j0 k bt123.2.1 true a1 0 t118 bt123.1 t108 t113 0))) else (some (([] : List (S45)), (⟨#[]⟩ : ByteArray), false)))) = some (r1, r2, r3) := H
     have A9 := Aside0.mk A90
     clear A90
     replace H := Option.bind_eq_some_iff.mp H
     obtain ⟨⟨t121, t122⟩, A100, H⟩ := H
     replace H : (if t122 = true then ((mullionref05_number.f k t121).bind fun bt123 => (if bt123.2.2 = true then (mullionref05_cellY.j0 k bt123.2.1 (bt123.2.1.toList == ([] : List UInt8)) a1 0 t118 bt123.1 t108 t113 0) else (mullionref05_cellY.j0 k bt123.2.1 true a1 0 t118 bt123.1 t108 t113 0))) else (some (([] : List (S45)), (⟨#[]⟩ : ByteArray), false))) = some (r1, r2, r3) := H
     have A10 := Aside0.mk A100
     clear A100
     by_cases c11 : t122 = true
     · subst c11
       have H1 : ((mullionref05_number.f k t121).bind fun bt123 => (if bt123.2.2 = true then (mullionref05_cellY.j0 k bt123.2.1 (bt123.2.1.toList == ([] : List UInt8)) a1 0 t118 bt123.1 t108 t113 0) else (mullionref05_cellY.j0 k bt123.2.1 true a1 0 t118 bt123.1 t108 t113 0))) = some (r1, r2, r3) := by rw [if_pos rfl] at H; exact H
       clear H
       have H := H1
       clear H1
       replace H := Option.bind_eq_some_iff.mp H
       obtain ⟨⟨t123, t124, t125⟩, A120, H⟩ := H
       replace H : (if t125 = true then (mullionref05_cellY.j0 k t124 (t124.toList == ([] : List UInt8)) a1 0 t118 t123 t108 t113 0) else (mullionref05_cellY.j0 k t124 true a1 0 t118 t123 t108 t113 0)) = some (r1, r2, r3) := H
       have A12 := Aside0.mk A120
       clear A120
       have HC13 := Aside0.mk H
       clear H
       go_enter Tryd.func32, Tryd.ntmps32
       go_upto_region 16 with (first | ((with_reducible refine gate_dst (N := 7) rfl ?_); refine box_event ?hg (N := 7) ?hd (cs := #[.int .i64 0, .int .i64 0, .int .i64 0, .int .i64 0, .int .i64 0, .int .i64 0, .int .i64 0]) (t := 45) ?hr ?_; (case hd => rfl); (case hg => rfl); (case hr => first | (go_simp; done) | (go_simp; rfl)); intro gb107 hg w14 hbox hb; have n0_ := Aside0.mk (below_step (by repeat (first | (with_reducible first | exact HB.out | apply below_alloc | apply pw_below_drewN | apply below_drew1) | exact HB.out)) hb); have n1_ := Aside0.mk (hbox); have n2_ := Aside0.mk ((by rw [hg]; exact (below_size (by repeat (first | (with_reducible first | exact HB.out | apply below_alloc | apply pw_below_drewN | apply below_drew1) | exact HB.out))) : w.heap.size ≤ gb107)); have n3_ := Aside0.mk ((by rw [hg]; exact (below_size (by repeat (first | (with_reducible first | exact HB.out | apply below_alloc | apply pw_below_drewN | apply below_drew1) | exact HB.out))) : w.heap.size ≤ gb107)); clear HB; have HB := n0_; have BK107 := n1_; have GW107 := n2_; have GE107 := n3_; clear n0_ n1_ n2_ n3_; clear hb hbox hg; have hcz15_0 : w14.cell? ⟨gb107, 0, none⟩ = some (.int .i64 0) := (blk_cell BK107.out 0).trans rfl; have hcz15_1 : w14.cell? ⟨gb107, 1, none⟩ = some (.int .i64 0) := (blk_cell BK107.out 1).trans rfl; have hcz15_2 : w14.cell? ⟨gb107, 2, none⟩ = some (.int .i64 0) := (blk_cell BK107.out 2).trans rfl; have hcz15_3 : w14.cell? ⟨gb107, 3, none⟩ = some (.int .i64 0) := (blk_cell BK107.out 3).trans rfl; have hcz15_4 : w14.cell? ⟨gb107, 4, none⟩ = some (.int .i64 0) := (blk_cell BK107.out 4).trans rfl; have hcz15_5 : w14.cell? ⟨gb107, 5, none⟩ = some (.int .i64 0) := (blk_cell BK107.out 5).trans rfl; have hcz15_6 : w14.cell? ⟨gb107, 6, none⟩ = some (.int .i64 0) := (blk_cell BK107.out 6).trans rfl; have hfz15_0 := blk_frozen BK107.out 0; have hfz15_1 := blk_frozen BK107.out 1; have hfz15_2 := blk_frozen BK107.out 2; have hfz15_3 := blk_frozen BK107.out 3; have hfz15_4 := blk_frozen BK107.out 4; have hfz15_5 := blk_frozen BK107.out 5; have hfz15_6 := blk_frozen BK107.out 6) | ((with_reducible refine gate_callee (f := 46) rfl ?_); refine goesL_ (some 13) rfl rfl Tryd.func46 (by kernel_rfl) rfl #[.string a0] rfl (by (try simp only [List.map_toArray, List.map_cons, List.map_nil]); first | done | rfl | (simp only [List.length_drop, List.length_take]; rfl)) ?_; (with_reducible refine (mullionref05_number.calls k a0 t108 t109 t110 _ A3.out).mono ?_); rintro e w16 ⟨rfl, hb⟩; refine ⟨_, rfl, ?_⟩; have n0_ := Aside0.mk (blk_below (g := gb107) (o := .cells #[.int .i64 a1, .int .i64 0, .int .i64 0, .int .i64 0, .int .i64 0, .int .i64 0, .int .i64 0] 45 (0, 0)) (by (with_reducible repeat (first | refine blk_drewN ?_ _ | refine blk_drew ?_ | refine blk_alloc ?_ _)); refine blk_put (cs := #[.int .i64 a1, .int .i64 0, .int .i64 0, .int .i64 0, .int .i64 0, .int .i64 0, .int .i64 0]) ?_ 6 _ rfl; (with_reducible repeat (first | refine blk_drewN ?_ _ | refine blk_drew ?_ | refine blk_alloc ?_ _)); refine blk_put (cs := #[.int .i64 a1, .int .i64 0, .int .i64 0, .int .i64 0, .int .i64 0, .int .i64 0, .int .i64 0]) ?_ 5 _ rfl; (with_reducible repeat (first | refine blk_drewN ?_ _ | refine blk_drew ?_ | refine blk_alloc ?_ _)); refine blk_put (cs := #[.int .i64 a1, .int .i64 0, .int .i64 0, .int .i64 0, .int .i64 0, .int .i64 0, .int .i64 0]) ?_ 4 _ rfl; (with_reducible repeat (first | refine blk_drewN ?_ _ | refine blk_drew ?_ | refine blk_alloc ?_ _)); refine blk_put (cs := #[.int .i64 a1, .int .i64 0, .int .i64 0, .int .i64 0, .int .i64 0, .int .i64 0, .int .i64 0]) ?_ 3 _ rfl; (with_reducible repeat (first | refine blk_drewN ?_ _ | refine blk_drew ?_ | refine blk_alloc ?_ _)); refine blk_put (cs := #[.int .i64 a1, .int .i64 0, .int .i64 0, .int .i64 0, .int .i64 0, .int .i64 0, .int .i64 0]) ?_ 2 _ rfl; (with_reducible repeat (first | refine blk_drewN ?_ _ | refine blk_drew ?_ | refine blk_alloc ?_ _)); refine blk_put (cs := #[.int .i64 a1, .int .i64 0, .int .i64 0, .int .i64 0, .int .i64 0, .int .i64 0, .int .i64 0]) ?_ 1 _ rfl; (with_reducible repeat (first | refine blk_drewN ?_ _ | refine blk_drew ?_ | refine blk_alloc ?_ _)); refine blk_put (cs := #[.int .i64 0, .int .i64 0, .int .i64 0, .int .i64 0, .int .i64 0, .int .i64 0, .int .i64 0]) ?_ 0 _ rfl; (with_reducible repeat (first | refine blk_drewN ?_ _ | refine blk_drew ?_ | refine blk_alloc ?_ _)); exact BK107.out) hb); have n1_ := Aside0.mk (below_step (by repeat (first | (with_reducible first | exact HB.out | apply below_alloc | apply pw_below_drewN | apply below_drew1 | refine below_set ?_ GE107.out) | exact HB.out)) hb); clear BK107; clear HB; have BK107 := n0_; have HB := n1_; clear n0_ n1_; (try clear hb); (try clear hb2); (try clear hk); (try clear hi); have hcz17_0 : w16.cell? ⟨gb107, 0, none⟩ = some (.int .i64 a1) := (blk_cell BK107.out 0).trans rfl; have hcz17_1 : w16.cell? ⟨gb107, 1, none⟩ = some (.int .i64 0) := (blk_cell BK107.out 1).trans rfl; have hcz17_2 : w16.cell? ⟨gb107, 2, none⟩ = some (.int .i64 0) := (blk_cell BK107.out 2).trans rfl; have hcz17_3 : w16.cell? ⟨gb107, 3, none⟩ = some (.int .i64 0) := (blk_cell BK107.out 3).trans rfl; have hcz17_4 : w16.cell? ⟨gb107, 4, none⟩ = some (.int .i64 0) := (blk_cell BK107.out 4).trans rfl; have hcz17_5 : w16.cell? ⟨gb107, 5, none⟩ = some (.int .i64 0) := (blk_cell BK107.out 5).trans rfl; have hcz17_6 : w16.cell? ⟨gb107, 6, none⟩ = some (.int .i64 0) := (blk_cell BK107.out 6).trans rfl; have hfz17_0 := blk_frozen BK107.out 0; have hfz17_1 := blk_frozen BK107.out 1; have hfz17_2 := blk_frozen BK107.out 2; have hfz17_3 := blk_frozen BK107.out 3; have hfz17_4 := blk_frozen BK107.out 4; have hfz17_5 := blk_frozen BK107.out 5; have hfz17_6 := blk_frozen BK107.out 6) | ((with_reducible refine gate_callee (f := 47) rfl ?_); refine goesL_ (some 21) rfl rfl Tryd.func47 (by kernel_rfl) rfl #[.string t109, .int .u8 120, .bool t110] rfl (by (try simp only [List.map_toArray, List.map_cons, List.map_nil]); first | done | rfl | (simp only [List.length_drop, List.length_take]; rfl)) ?_; (with_reducible refine (mullionref05_after.calls t109 120 t110 t111 true _ A4.out).mono ?_); rintro e w' ⟨rfl, ⟨nd, rfl⟩⟩; refine ⟨_, rfl, ?_⟩) | ((with_reducible refine gate_callee (f := 46) rfl ?_); refine goesL_ (some 28) rfl rfl Tryd.func46 (by kernel_rfl) rfl #[.string t111] rfl (by (try simp only [List.map_toArray, List.map_cons, List.map_nil]); first | done | rfl | (simp only [List.length_drop, List.length_take]; rfl)) ?_; (with_reducible refine (mullionref05_number.calls k t111 t113 t114 t115 _ A6.out).mono ?_); rintro e w18 ⟨rfl, hb⟩; refine ⟨_, rfl, ?_⟩; have n0_ := Aside0.mk (blk_below (g := gb107) (o := .cells #[.int .i64 a1, .int .i64 0, .int .i64 0, .int .i64 0, .int .i64 t108, .int .i64 0, .int .i64 0] 45 (0, 0)) (by (with_reducible repeat (first | refine blk_drewN ?_ _ | refine blk_drew ?_ | refine blk_alloc ?_ _)); refine blk_put (cs := #[.int .i64 a1, .int .i64 0, .int .i64 0, .int .i64 0, .int .i64 0, .int .i64 0, .int .i64 0]) ?_ 4 _ rfl; (with_reducible repeat (first | refine blk_drewN ?_ _ | refine blk_drew ?_ | refine blk_alloc ?_ _)); exact BK107.out) hb); have n1_ := Aside0.mk (below_step (by repeat (first | (with_reducible first | exact HB.out | apply below_alloc | apply pw_below_drewN | apply below_drew1 | refine below_set ?_ GE107.out) | exact HB.out)) hb); clear BK107; clear HB; have BK107 := n0_; have HB := n1_; clear n0_ n1_; (try clear hb); (try clear hb2); (try clear hk); (try clear hi); have hcz19_0 : w18.cell? ⟨gb107, 0, none⟩ = some (.int .i64 a1) := (blk_cell BK107.out 0).trans rfl; have hcz19_1 : w18.cell? ⟨gb107, 1, none⟩ = some (.int .i64 0) := (blk_cell BK107.out 1).trans rfl; have hcz19_2 : w18.cell? ⟨gb107, 2, none⟩ = some (.int .i64 0) := (blk_cell BK107.out 2).trans rfl; have hcz19_3 : w18.cell? ⟨gb107, 3, none⟩ = some (.int .i64 0) := (blk_cell BK107.out 3).trans rfl; have hcz19_4 : w18.cell? ⟨gb107, 4, none⟩ = some (.int .i64 t108) := (blk_cell BK107.out 4).trans rfl; have hcz19_5 : w18.cell? ⟨gb107, 5, none⟩ = some (.int .i64 0) := (blk_cell BK107.out 5).trans rfl; have hcz19_6 : w18.cell? ⟨gb107, 6, none⟩ = some (.int .i64 0) := (blk_cell BK107.out 6).trans rfl; have hfz19_0 := blk_frozen BK107.out 0; have hfz19_1 := blk_frozen BK107.out 1; have hfz19_2 := blk_frozen BK107.out 2; have hfz19_3 := blk_frozen BK107.out 3; have hfz19_4 := blk_frozen BK107.out 4; have hfz19_5 := blk_frozen BK107.out 5; have hfz19_6 := blk_frozen BK107.out 6) | ((with_reducible refine gate_callee (f := 47) rfl ?_); refine goesL_ (some 36) rfl rfl Tryd.func47 (by kernel_rfl) rfl #[.string t114, .int .u8 44, .bool t115] rfl (by (try simp only [List.map_toArray, List.map_cons, List.map_nil]); first | done | rfl | (simp only [List.length_drop, List.length_take]; rfl)) ?_; (with_reducible refine (mullionref05_after.calls t114 44 t115 t116 true _ A7.out).mono ?_); rintro e w' ⟨rfl, ⟨nd, rfl⟩⟩; refine ⟨_, rfl, ?_⟩) | ((with_reducible refine gate_callee (f := 46) rfl ?_); refine goesL_ (some 43) rfl rfl Tryd.func46 (by kernel_rfl) rfl #[.string t116] rfl (by (try simp only [List.map_toArray, List.map_cons, List.map_nil]); first | done | rfl | (simp only [List.length_drop, List.length_take]; rfl)) ?_; (with_reducible refine (mullionref05_number.calls k t116 t118 t119 t120 _ A9.out).mono ?_); rintro e w20 ⟨rfl, hb⟩; refine ⟨_, rfl, ?_⟩; have n0_ := Aside0.mk (blk_below (g := gb107) (o := .cells #[.int .i64 a1, .int .i64 0, .int .i64 0, .int .i64 0, .int .i64 t108, .int .i64 t113, .int .i64 0] 45 (0, 0)) (by (with_reducible repeat (first | refine blk_drewN ?_ _ | refine blk_drew ?_ | refine blk_alloc ?_ _)); refine blk_put (cs := #[.int .i64 a1, .int .i64 0, .int .i64 0, .int .i64 0, .int .i64 t108, .int .i64 0, .int .i64 0]) ?_ 5 _ rfl; (with_reducible repeat (first | refine blk_drewN ?_ _ | refine blk_drew ?_ | refine blk_alloc ?_ _)); exact BK107.out) hb); have n1_ := Aside0.mk (below_step (by repeat (first | (with_reducible first | exact HB.out | apply below_alloc | apply pw_below_drewN | apply below_drew1 | refine below_set ?_ GE107.out) | exact HB.out)) hb); clear BK107; clear HB; have BK107 := n0_; have HB := n1_; clear n0_ n1_; (try clear hb); (try clear hb2); (try clear hk); (try clear hi); have hcz21_0 : w20.cell? ⟨gb107, 0, none⟩ = some (.int .i64 a1) := (blk_cell BK107.out 0).trans rfl; have hcz21_1 : w20.cell? ⟨gb107, 1, none⟩ = some (.int .i64 0) := (blk_cell BK107.out 1).trans rfl; have hcz21_2 : w20.cell? ⟨gb107, 2, none⟩ = some (.int .i64 0) := (blk_cell BK107.out 2).trans rfl; have hcz21_3 : w20.cell? ⟨gb107, 3, none⟩ = some (.int .i64 0) := (blk_cell BK107.out 3).trans rfl; have hcz21_4 : w20.cell? ⟨gb107, 4, none⟩ = some (.int .i64 t108) := (blk_cell BK107.out 4).trans rfl; have hcz21_5 : w20.cell? ⟨gb107, 5, none⟩ = some (.int .i64 t113) := (blk_cell BK107.out 5).trans rfl; have hcz21_6 : w20.cell? ⟨gb107, 6, none⟩ = some (.int .i64 0) := (blk_cell BK107.out 6).trans rfl; have hfz21_0 := blk_frozen BK107.out 0; have hfz21_1 := blk_frozen BK107.out 1; have hfz21_2 := blk_frozen BK107.out 2; have hfz21_3 := blk_frozen BK107.out 3; have hfz21_4 := blk_frozen BK107.out 4; have hfz21_5 := blk_frozen BK107.out 5; have hfz21_6 := blk_frozen BK107.out 6) | ((with_reducible refine gate_callee (f := 47) rfl ?_); refine goesL_ (some 51) rfl rfl Tryd.func47 (by kernel_rfl) rfl #[.string t119, .int .u8 44, .bool t120] rfl (by (try simp only [List.map_toArray, List.map_cons, List.map_nil]); first | done | rfl | (simp only [List.length_drop, List.length_take]; rfl)) ?_; (with_reducible refine (mullionref05_after.calls t119 44 t120 t121 true _ A10.out).mono ?_); rintro e w' ⟨rfl, ⟨nd, rfl⟩⟩; refine ⟨_, rfl, ?_⟩) | ((with_reducible refine gate_callee (f := 46) rfl ?_); refine goesL_ (some 58) rfl rfl Tryd.func46 (by kernel_rfl) rfl #[.string t121] rfl (by (try simp only [List.map_toArray, List.map_cons, List.map_nil]); first | done | rfl | (simp only [List.length_drop, List.length_take]; rfl)) ?_; (with_reducible refine (mullionref05_number.calls k t121 t123 t124 t125 _ A12.out).mono ?_); rintro e w22 ⟨rfl, hb⟩; refine ⟨_, rfl, ?_⟩; have n0_ := Aside0.mk (blk_below (g := gb107) (o := .cells #[.int .i64 a1, .int .i64 0, .int .i64 t118, .int .i64 0, .int .i64 t108, .int .i64 t113, .int .i64 0] 45 (0, 0)) (by (with_reducible repeat (first | refine blk_drewN ?_ _ | refine blk_drew ?_ | refine blk_alloc ?_ _)); refine blk_put (cs := #[.int .i64 a1, .int .i64 0, .int .i64 0, .int .i64 0, .int .i64 t108, .int .i64 t113, .int .i64 0]) ?_ 2 _ rfl; (with_reducible repeat (first | refine blk_drewN ?_ _ | refine blk_drew ?_ | refine blk_alloc ?_ _)); exact BK107.out) hb); have n1_ := Aside0.mk (below_step (by repeat (first | (with_reducible first | exact HB.out | apply below_alloc | apply pw_below_drewN | apply below_drew1 | refine below_set ?_ GE107.out) | exact HB.out)) hb); clear BK107; clear HB; have BK107 := n0_; have HB := n1_; clear n0_ n1_; (try clear hb); (try clear hb2); (try clear hk); (try clear hi); have hcz23_0 : w22.cell? ⟨gb107, 0, none⟩ = some (.int .i64 a1) := (blk_cell BK107.out 0).trans rfl; have hcz23_1 : w22.cell? ⟨gb107, 1, none⟩ = some (.int .i64 0) := (blk_cell BK107.out 1).trans rfl; have hcz23_2 : w22.cell? ⟨gb107, 2, none⟩ = some (.int .i64 t118) := (blk_cell BK107.out 2).trans rfl; have hcz23_3 : w22.cell? ⟨gb107, 3, none⟩ = some (.int .i64 0) := (blk_cell BK107.out 3).trans rfl; have hcz23_4 : w22.cell? ⟨gb107, 4, none⟩ = some (.int .i64 t108) := (blk_cell BK107.out 4).trans rfl; have hcz23_5 : w22.cell? ⟨gb107, 5, none⟩ = some (.int .i64 t113) := (blk_cell BK107.out 5).trans rfl; have hcz23_6 : w22.cell? ⟨gb107, 6, none⟩ = some (.int .i64 0) := (blk_cell BK107.out 6).trans rfl; have hfz23_0 := blk_frozen BK107.out 0; have hfz23_1 := blk_frozen BK107.out 1; have hfz23_2 := blk_frozen BK107.out 2; have hfz23_3 := blk_frozen BK107.out 3; have hfz23_4 := blk_frozen BK107.out 4; have hfz23_5 := blk_frozen BK107.out 5; have hfz23_6 := blk_frozen BK107.out 6))
       (try simp only [Act.put, List.setIfInBounds_toArray, List.set_cons_zero, List.set_cons_succ])
       go_cut [68] (fun v68 wc => ∃ (kq : Nat) (x68_12 : Bool), v68 = .bool x68_12 ∧ Aside0 (mullionref05_cellY.j0 kq t124 x68_12 a1 0 t118 t123 t108 t113 0 = some (r1, r2, r3)) ∧ Aside0 (kq ≤ k) ∧ Aside0 (wc.heap[gb107]? = some (.cells #[.int .i64 a1, .int .i64 0, .int .i64 t118, .int .i64 t123, .int .i64 t108, .int .i64 t113, .int .i64 0] 45 (0, 0))) ∧ Aside0 (Below w.heap.size w wc))
       case first =>
         have H := HC13.out
         clear HC13
         by_cases c24 : t125 = true
         · subst c24
           have H1 : (mullionref05_cellY.j0 k t124 (t124.toList == ([] : List UInt8)) a1 0 t118 t123 t108 t113 0) = some (r1, r2, r3) := by rw [if_pos rfl] at H; exact H
           clear H
           have H := H1
           clear H1
           have H' := Aside0.mk H
           clear H
           go_wp2
           go_meet
           case rel => exact ⟨_, ((t124.toList == ([] : List UInt8))), (by first | rfl | (simp; done) | (simp [*]; done)), H', ⟨by first | omega | exact Nat.le_refl _⟩, ⟨by (with_reducible repeat (first | refine blk_drewN ?_ _ | refine blk_drew ?_ | refine blk_alloc ?_ _)); refine blk_put (cs := #[.int .i64 a1, .int .i64 0, .int .i64 t118, .int .i64 0, .int .i64 t108, .int .i64 t113, .int .i64 0]) ?_ 3 _ rfl; (with_reducible repeat (first | refine blk_drewN ?_ _ | refine blk_drew ?_ | refine blk_alloc ?_ _)); exact BK107.out⟩, ⟨by repeat (first | (with_reducible first | exact HB.out | apply below_alloc | apply pw_below_drewN | apply below_drew1 | refine below_set ?_ GE107.out) | exact HB.out)⟩⟩
         · replace c24 := Bool.eq_false_iff.mpr c24
           subst c24
           have H1 : (mullionref05_cellY.j0 k t124 true a1 0 t118 t123 t108 t113 0) = some (r1, r2, r3) := by rw [if_neg (show ¬ (false = true) by decide)] at H; exact H
           clear H
           have H := H1
           clear H1
           have H' := Aside0.mk H
           clear H
           go_wp2
           go_meet
           case rel => exact ⟨_, (true), (by first | rfl | (simp; done) | (simp [*]; done)), H', ⟨by first | omega | exact Nat.le_refl _⟩, ⟨by (with_reducible repeat (first | refine blk_drewN ?_ _ | refine blk_drew ?_ | refine blk_alloc ?_ _)); refine blk_put (cs := #[.int .i64 a1, .int .i64 0, .int .i64 t118, .int .i64 0, .int .i64 t108, .int .i64 t113, .int .i64 0]) ?_ 3 _ rfl; (with_reducible repeat (first | refine blk_drewN ?_ _ | refine blk_drew ?_ | refine blk_alloc ?_ _)); exact BK107.out⟩, ⟨by repeat (first | (with_reducible first | exact HB.out | apply below_alloc | apply pw_below_drewN | apply below_drew1 | refine below_set ?_ GE107.out) | exact HB.out)⟩⟩
       case rest =>
         clear HC13
         try clear c1
         try clear c2
         try clear p2
         try clear c3
         try clear c4
         try clear c5
         try clear c8
         try clear c11
         try clear c24
         try clear hcz15_0
         try clear hcz15_1
         try clear hcz15_2
         try clear hcz15_3
         try clear hcz15_4
         try clear hcz15_5
         try clear hcz15_6
         try clear hcz17_0
         try clear hcz17_1
         try clear hcz17_2
         try clear hcz17_3
         try clear hcz17_4
         try clear hcz17_5
         try clear hcz17_6
         try clear hcz19_0
         try clear hcz19_1
         try clear hcz19_2
         try clear hcz19_3
         try clear hcz19_4
         try clear hcz19_5
         try clear hcz19_6
         try clear hcz21_0
         try clear hcz21_1
         try clear hcz21_2
         try clear hcz21_3
         try clear hcz21_4
         try clear hcz21_5
         try clear hcz21_6
         try clear hcz23_0
         try clear hcz23_1
         try clear hcz23_2
         try clear hcz23_3
         try clear hcz23_4
         try clear hcz23_5
         try clear hcz23_6
         try clear hfz15_0
         try clear hfz15_1
         try clear hfz15_2
         try clear hfz15_3
         try clear hfz15_4
         try clear hfz15_5
         try clear hfz15_6
         try clear hfz17_0
         try clear hfz17_1
         try clear hfz17_2
         try clear hfz17_3
         try clear hfz17_4
         try clear hfz17_5
         try clear hfz17_6
         try clear hfz19_0
         try clear hfz19_1
         try clear hfz19_2
         try clear hfz19_3
         try clear hfz19_4
         try clear hfz19_5
         try clear hfz19_6
         try clear hfz21_0
         try clear hfz21_1
         try clear hfz21_2
         try clear hfz21_3
         try clear hfz21_4
         try clear hfz21_5
         try clear hfz21_6
         try clear hfz23_0
         try clear hfz23_1
         try clear hfz23_2
         try clear hfz23_3
         try clear hfz23_4
         try clear hfz23_5
         try clear hfz23_6
         obtain ⟨kq, x68_12, rfl, HA, HJ12, BK107, HB⟩ := hcut
         cases kq with
         | zero => exact absurd HA.out (by simp [mullionref05_cellY.j0])
         | succ kj12 =>
           have H := HA.out
           clear HA
           simp only [mullionref05_cellY.j0] at H
           by_cases c25 : x68_12 = true
           · subst c25
             have H1 : (some (([] : List (S45)), (⟨#[]⟩ : ByteArray), false)) = some (r1, r2, r3) := by rw [if_pos rfl] at H; exact H
             clear H
             have H := H1
             clear H1
             simp only [Option.some.injEq, Prod.mk.injEq] at H
             obtain ⟨rfl, rfl, rfl⟩ := H
             go_wp2
             go_ret3
             exact ⟨_, by first | rfl | (simp [errW_none, errW_some] <;> rfl) | (simp [*, errW_none, errW_some] <;> rfl), by first | exact Kd.R_nil _ _ _ _ _ | exact Kd.N_nil _ _ _ _ _ | exact Kd.V_nil _ _ _ _ _ | exact Kd.Q_nil _ _ _ _ _ | exact Kd.S_nil _ _ _ _ _, by repeat (first | (with_reducible first | exact HB.out | apply below_alloc | apply pw_below_drewN | apply below_drew1 | refine below_set ?_ GE107.out) | exact HB.out)⟩
           · replace c25 := Bool.eq_false_iff.mpr c25
             subst c25
             have H1 : (if 0 < (t124.size : Int) then (if (bt t124 0) = 44 then (if 1 ≤ (t124.size : Int) then ((mullionref05_number.f kj12 (t124.extract 1 t124.size)).bind fun bt126 => (some ((([(⟨a1, 1, t118, t123, t108, t113, bt126.1⟩ : S45)] : List (S45))), bt126.2.1, bt126.2.2))) else (none)) else (if (bt t124 0) = 123 then ((mullionref05_parts.f kj12 a1 2 t118 t123 t108 t113 0 t124 125).bind fun bt132 => (some (bt132.1, bt132.2.1, bt132.2.2))) else (if (bt t124 0) = 91 then ((mullionref05_parts.f kj12 a1 3 t118 t123 t108 t113 0 t124 93).bind fun bt137 => (some (bt137.1, bt137.2.1, bt137.2.2))) else (some (([] : List (S45)), (⟨#[]⟩ : ByteArray), false))))) else (none)) = some (r1, r2, r3) := by rw [if_neg (show ¬ (false = true) by decide)] at H; exact H
             clear H
             have H := H1
             clear H1
             by_cases c26 : 0 < (t124.size : Int)
             · rw [if_pos c26] at H
               have c26b0 : decide (0 < (t124.size : Int)) = true := decide_eq_true c26
               have c26b1 : decide (0 < t124.size) = true := decide_eq_true (by omega)
               clear c26
               by_cases c28 : (bt t124 0) = 44
               · rw [if_pos c28] at H
                 have c28b0 : ((bt t124 0) == 44) = true := beq_iff_eq.mpr c28
                 have c28b1 : ((bt t124 0) != 44) = false := bne_eq_false_iff_eq.mpr c28
                 clear c28
                 by_cases c29 : 1 ≤ (t124.size : Int)
                 · rw [if_pos c29] at H
                   have c29b0 := eq_true c29
                   have c29b1 : decide (1 ≤ (t124.size : Int)) = true := decide_eq_true c29
                   clear c29
                   replace H := Option.bind_eq_some_iff.mp H
                   obtain ⟨⟨t126, t127, t128⟩, A300, H⟩ := H
                   replace H : (some ((([(⟨a1, 1, t118, t123, t108, t113, t126⟩ : S45)] : List (S45))), t127, t128)) = some (r1, r2, r3) := H
                   have A30 := Aside0.mk A300
                   clear A300
                   obtain ⟨y129, hy129⟩ : ∃ y_ : List (S45), y_ = (([(⟨a1, 1, t118, t123, t108, t113, t126⟩ : S45)] : List (S45))) := ⟨_, rfl⟩
                   replace H : (some (y129, t127, t128)) = some (r1, r2, r3) := by first | (rw [hy129]; with_reducible exact H) | (have H2_ := (Option.bind_some _ _).symm.trans H; rw [hy129]; with_reducible exact H2_) | (have H2_ := (Option.bind_some _ _).symm.trans H; with_reducible exact H2_) | with_reducible exact H | (rw [hy129]; exact H) | exact H
                   have Ny129 := Aside0.mk hy129
                   clear hy129
                   simp only [Option.some.injEq, Prod.mk.injEq] at H
                   obtain ⟨rfl, rfl, rfl⟩ := H
                   have p27 : 0 ≤ (0 : Int) := (by omega)
                   have q27 : 0 < t124.size := (by have : (0 : Int) < (t124.size : Int) := of_decide_eq_true (by first | (with_reducible assumption) | assumption); omega)
                   have hx27 : ∀ h : 0 < t124.size, ((t124[0]'h).toNat : Int) = bt t124 0 := bt_at t124 0
                   clear p27
                   have qi27 : (0 < (t124.size : Int)) = True := eq_true (of_decide_eq_true (by first | (with_reducible assumption) | assumption))
                   replace q27 := eq_true q27
                   have hcz31_0 : wc.cell? ⟨gb107, 0, none⟩ = some (.int .i64 a1) := (blk_cell BK107.out 0).trans rfl
                   have hcz31_1 : wc.cell? ⟨gb107, 1, none⟩ = some (.int .i64 0) := (blk_cell BK107.out 1).trans rfl
                   have hcz31_2 : wc.cell? ⟨gb107, 2, none⟩ = some (.int .i64 t118) := (blk_cell BK107.out 2).trans rfl
                   have hcz31_3 : wc.cell? ⟨gb107, 3, none⟩ = some (.int .i64 t123) := (blk_cell BK107.out 3).trans rfl
                   have hcz31_4 : wc.cell? ⟨gb107, 4, none⟩ = some (.int .i64 t108) := (blk_cell BK107.out 4).trans rfl
                   have hcz31_5 : wc.cell? ⟨gb107, 5, none⟩ = some (.int .i64 t113) := (blk_cell BK107.out 5).trans rfl
                   have hcz31_6 : wc.cell? ⟨gb107, 6, none⟩ = some (.int .i64 0) := (blk_cell BK107.out 6).trans rfl
                   have hfz31_0 := blk_frozen BK107.out 0
                   have hfz31_1 := blk_frozen BK107.out 1
                   have hfz31_2 := blk_frozen BK107.out 2
                   have hfz31_3 := blk_frozen BK107.out 3
                   have hfz31_4 := blk_frozen BK107.out 4
                   have hfz31_5 := blk_frozen BK107.out 5
                   have hfz31_6 := blk_frozen BK107.out 6
                   go_wp2_with (first | ((with_reducible refine gate_callee (f := 46) rfl ?_); refine goesL_ (some 77) rfl rfl Tryd.func46 (by kernel_rfl) rfl #[.string (t124.extract 1 t124.size)] rfl (by (try simp only [List.map_toArray, List.map_cons, List.map_nil]); first | done | rfl | (simp only [List.length_drop, List.length_take]; rfl)) ?_; (with_reducible refine (mullionref05_number.calls kj12 (t124.extract 1 t124.size) t126 t127 t128 _ A30.out).mono ?_); rintro e w32 ⟨rfl, hb⟩; refine ⟨_, rfl, ?_⟩; have n0_ := Aside0.mk (blk_below (g := gb107) (o := .cells #[.int .i64 a1, .int .i64 1, .int .i64 t118, .int .i64 t123, .int .i64 t108, .int .i64 t113, .int .i64 0] 45 (0, 0)) (by (with_reducible repeat (first | refine blk_drewN ?_ _ | refine blk_drew ?_ | refine blk_alloc ?_ _)); refine blk_put (cs := #[.int .i64 a1, .int .i64 0, .int .i64 t118, .int .i64 t123, .int .i64 t108, .int .i64 t113, .int .i64 0]) ?_ 1 _ rfl; (with_reducible repeat (first | refine blk_drewN ?_ _ | refine blk_drew ?_ | refine blk_alloc ?_ _)); exact BK107.out) hb); have n1_ := Aside0.mk (below_step (by repeat (first | (with_reducible first | exact HB.out | apply below_alloc | apply pw_below_drewN | apply below_drew1 | refine below_set ?_ GE107.out) | exact HB.out)) hb); clear BK107; clear HB; have BK107 := n0_; have HB := n1_; clear n0_ n1_; (try clear hb); (try clear hb2); (try clear hk); (try clear hi); have hcz33_0 : w32.cell? ⟨gb107, 0, none⟩ = some (.int .i64 a1) := (blk_cell BK107.out 0).trans rfl; have hcz33_1 : w32.cell? ⟨gb107, 1, none⟩ = some (.int .i64 1) := (blk_cell BK107.out 1).trans rfl; have hcz33_2 : w32.cell? ⟨gb107, 2, none⟩ = some (.int .i64 t118) := (blk_cell BK107.out 2).trans rfl; have hcz33_3 : w32.cell? ⟨gb107, 3, none⟩ = some (.int .i64 t123) := (blk_cell BK107.out 3).trans rfl; have hcz33_4 : w32.cell? ⟨gb107, 4, none⟩ = some (.int .i64 t108) := (blk_cell BK107.out 4).trans rfl; have hcz33_5 : w32.cell? ⟨gb107, 5, none⟩ = some (.int .i64 t113) := (blk_cell BK107.out 5).trans rfl; have hcz33_6 : w32.cell? ⟨gb107, 6, none⟩ = some (.int .i64 0) := (blk_cell BK107.out 6).trans rfl; have hfz33_0 := blk_frozen BK107.out 0; have hfz33_1 := blk_frozen BK107.out 1; have hfz33_2 := blk_frozen BK107.out 2; have hfz33_3 := blk_frozen BK107.out 3; have hfz33_4 := blk_frozen BK107.out 4; have hfz33_5 := blk_frozen BK107.out 5; have hfz33_6 := blk_frozen BK107.out 6) | ((with_reducible refine gate_dst (N := 83) rfl ?_); refine Kd.R_lit k45 _ 45 ?hg (N := 83) ?hd (xs := ([(⟨a1, 1, t118, t123, t108, t113, t126⟩ : S45)] : List (S45))) (inner := [.int .i64 a1, .int .i64 1, .int .i64 t118, .int .i64 t123, .int .i64 t108, .int .i64 t113, .int .i64 t126]) (ok := fun _ => True) (okp := fun _ => True) ?hr ?hp (fun _ hk => hk) trivial (Below.refl _ _) (Nat.le_refl _) (by simp) ?_; (case hd => rfl); (case hg => rfl); (case hr => first | (go_simp; done) | (go_simp; rfl)); (case hp => exact (Reps.c7 (show Kd.M k45 _ _ _ (⟨a1, 1, t118, t123, t108, t113, t126⟩ : S45) [.int .i64 a1, .int .i64 1, .int .i64 t118, .int .i64 t123, .int .i64 t108, .int .i64 t113, .int .i64 t126] from (k45_mkM _ _ _ (⟨a1, 1, t118, t123, t108, t113, t126⟩ : S45) )) (Reps.none _ _))); intro v130 w34 ho35 hb hg_ hnew_; clear hg_ hnew_; (first | rw [← Ny129.out] at ho35 | (simp only [Int.reduceToNat] at ho35; rw [← Ny129.out] at ho35)); have n0_ := Aside0.mk (Kd.R_lower (Kd.R_newB ho35 (g := gb107) (o := .cells #[.int .i64 a1, .int .i64 1, .int .i64 t118, .int .i64 t123, .int .i64 t108, .int .i64 t113, .int .i64 t126] 45 (0, 0)) (by (with_reducible repeat (first | refine blk_drewN ?_ _ | refine blk_drew ?_ | refine blk_alloc ?_ _)); refine blk_put (cs := #[.int .i64 a1, .int .i64 1, .int .i64 t118, .int .i64 t123, .int .i64 t108, .int .i64 t113, .int .i64 0]) ?_ 6 _ rfl; (with_reducible repeat (first | refine blk_drewN ?_ _ | refine blk_drew ?_ | refine blk_alloc ?_ _)); exact BK107.out)) (below_size (by repeat (first | (with_reducible first | exact HB.out | apply below_alloc | apply pw_below_drewN | apply below_drew1 | refine below_set ?_ GE107.out) | exact HB.out)))); have n1_ := Aside0.mk (blk_below (g := gb107) (o := .cells #[.int .i64 a1, .int .i64 1, .int .i64 t118, .int .i64 t123, .int .i64 t108, .int .i64 t113, .int .i64 t126] 45 (0, 0)) (by (with_reducible repeat (first | refine blk_drewN ?_ _ | refine blk_drew ?_ | refine blk_alloc ?_ _)); refine blk_put (cs := #[.int .i64 a1, .int .i64 1, .int .i64 t118, .int .i64 t123, .int .i64 t108, .int .i64 t113, .int .i64 0]) ?_ 6 _ rfl; (with_reducible repeat (first | refine blk_drewN ?_ _ | refine blk_drew ?_ | refine blk_alloc ?_ _)); exact BK107.out) hb); have n2_ := Aside0.mk (below_step (by repeat (first | (with_reducible first | exact HB.out | apply below_alloc | apply pw_below_drewN | apply below_drew1 | refine below_set ?_ GE107.out) | exact HB.out)) hb); clear BK107; clear HB; have HO131 := n0_; have BK107 := n1_; have HB := n2_; clear n0_ n1_ n2_; clear hb ho35))
                   go_ret3
                   exact ⟨_, by first | rfl | (simp [errW_none, errW_some] <;> rfl) | (simp [*, errW_none, errW_some] <;> rfl), by (with_reducible repeat (first | apply Kd.R_alloc | apply Kd.R_drewN | apply Kd.R_drew)); exact Kd.R_mono HO131.out (fun _ hk => trivial), by repeat (first | (with_reducible first | exact HB.out | apply below_alloc | apply pw_below_drewN | apply below_drew1 | refine below_set ?_ GE107.out) | exact HB.out)⟩
                 · rw [if_neg c29] at H
                   exact absurd H (by simp)
               · rw [if_neg c28] at H
                 have c28b0 : ((bt t124 0) == 44) = false := beq_eq_false_iff_ne.mpr c28
                 have c28b1 : ((bt t124 0) != 44) = true := bne_iff_ne.mpr c28
                 by_cases c36 : (bt t124 0) = 123
                 · rw [if_pos c36] at H
                   have c36b0 : ((bt t124 0) == 123) = true := beq_iff_eq.mpr c36
                   have c36b1 : ((bt t124 0) != 123) = false := bne_eq_false_iff_eq.mpr c36
                   clear c36
                   replace H := Option.bind_eq_some_iff.mp H
                   obtain ⟨⟨t132, t135, t136⟩, A370, H⟩ := H
                   replace H : (some (t132, t135, t136)) = some (r1, r2, r3) := H
                   have A37 := Aside0.mk A370
                   clear A370
                   simp only [Option.some.injEq, Prod.mk.injEq] at H
                   obtain ⟨rfl, rfl, rfl⟩ := H
                   have p27 : 0 ≤ (0 : Int) := (by omega)
                   have q27 : 0 < t124.size := (by have : (0 : Int) < (t124.size : Int) := of_decide_eq_true (by first | (with_reducible assumption) | assumption); omega)
                   have hx27 : ∀ h : 0 < t124.size, ((t124[0]'h).toNat : Int) = bt t124 0 := bt_at t124 0
                   clear p27
                   have qi27 : (0 < (t124.size : Int)) = True := eq_true (of_decide_eq_true (by first | (with_reducible assumption) | assumption))
                   replace q27 := eq_true q27
                   have hcz38_0 : wc.cell? ⟨gb107, 0, none⟩ = some (.int .i64 a1) := (blk_cell BK107.out 0).trans rfl
                   have hcz38_1 : wc.cell? ⟨gb107, 1, none⟩ = some (.int .i64 0) := (blk_cell BK107.out 1).trans rfl
                   have hcz38_2 : wc.cell? ⟨gb107, 2, none⟩ = some (.int .i64 t118) := (blk_cell BK107.out 2).trans rfl
                   have hcz38_3 : wc.cell? ⟨gb107, 3, none⟩ = some (.int .i64 t123) := (blk_cell BK107.out 3).trans rfl
                   have hcz38_4 : wc.cell? ⟨gb107, 4, none⟩ = some (.int .i64 t108) := (blk_cell BK107.out 4).trans rfl
                   have hcz38_5 : wc.cell? ⟨gb107, 5, none⟩ = some (.int .i64 t113) := (blk_cell BK107.out 5).trans rfl
                   have hcz38_6 : wc.cell? ⟨gb107, 6, none⟩ = some (.int .i64 0) := (blk_cell BK107.out 6).trans rfl
                   have hfz38_0 := blk_frozen BK107.out 0
                   have hfz38_1 := blk_frozen BK107.out 1
                   have hfz38_2 := blk_frozen BK107.out 2
                   have hfz38_3 := blk_frozen BK107.out 3
                   have hfz38_4 := blk_frozen BK107.out 4
                   have hfz38_5 := blk_frozen BK107.out 5
                   have hfz38_6 := blk_frozen BK107.out 6
                   go_wp2_with (first | ((with_reducible refine gate_callee (f := 48) rfl ?_); refine goesL_ (some 91) rfl rfl Tryd.func48 (by kernel_rfl) rfl #[.agg #[.int .i64 a1, .int .i64 2, .int .i64 t118, .int .i64 t123, .int .i64 t108, .int .i64 t113, .int .i64 0], .string t124, .int .u8 125] rfl (by (try simp only [List.map_toArray, List.map_cons, List.map_nil]); first | done | rfl | (simp only [List.length_drop, List.length_take]; rfl)) ?_; (with_reducible refine (mullionref05_parts.calls kj12 ⟨fun k_ h_ => HCELL.out k_ (by have := HJ12.out; omega)⟩ a1 2 t118 t123 t108 t113 0 t124 125 t132 t135 t136 _ A37.out).mono ?_); rintro e w39 ⟨v133, rfl, ho0, hb⟩; refine ⟨_, rfl, ?_⟩; have n0_ := Aside0.mk (Kd.R_lower (Kd.R_newB ho0 (g := gb107) (o := .cells #[.int .i64 a1, .int .i64 2, .int .i64 t118, .int .i64 t123, .int .i64 t108, .int .i64 t113, .int .i64 0] 45 (0, 0)) (by (with_reducible repeat (first | refine blk_drewN ?_ _ | refine blk_drew ?_ | refine blk_alloc ?_ _)); refine blk_put (cs := #[.int .i64 a1, .int .i64 0, .int .i64 t118, .int .i64 t123, .int .i64 t108, .int .i64 t113, .int .i64 0]) ?_ 1 _ rfl; (with_reducible repeat (first | refine blk_drewN ?_ _ | refine blk_drew ?_ | refine blk_alloc ?_ _)); exact BK107.out)) (below_size (by repeat (first | (with_reducible first | exact HB.out | apply below_alloc | apply pw_below_drewN | apply below_drew1 | refine below_set ?_ GE107.out) | exact HB.out)))); have n1_ := Aside0.mk (blk_below (g := gb107) (o := .cells #[.int .i64 a1, .int .i64 2, .int .i64 t118, .int .i64 t123, .int .i64 t108, .int .i64 t113, .int .i64 0] 45 (0, 0)) (by (with_reducible repeat (first | refine blk_drewN ?_ _ | refine blk_drew ?_ | refine blk_alloc ?_ _)); refine blk_put (cs := #[.int .i64 a1, .int .i64 0, .int .i64 t118, .int .i64 t123, .int .i64 t108, .int .i64 t113, .int .i64 0]) ?_ 1 _ rfl; (with_reducible repeat (first | refine blk_drewN ?_ _ | refine blk_drew ?_ | refine blk_alloc ?_ _)); exact BK107.out) hb); have n2_ := Aside0.mk (below_step (by repeat (first | (with_reducible first | exact HB.out | apply below_alloc | apply pw_below_drewN | apply below_drew1 | refine below_set ?_ GE107.out) | exact HB.out)) hb); clear BK107; clear HB; have HO134 := n0_; have BK107 := n1_; have HB := n2_; clear n0_ n1_ n2_; (try clear hb); (try clear hb2); (try clear hk); (try clear hi); (try clear ho0)))
                   go_ret3
                   exact ⟨_, by first | rfl | (simp [errW_none, errW_some] <;> rfl) | (simp [*, errW_none, errW_some] <;> rfl), by (with_reducible repeat (first | apply Kd.R_alloc | apply Kd.R_drewN | apply Kd.R_drew)); exact Kd.R_mono HO134.out (fun _ hk => trivial), by repeat (first | (with_reducible first | exact HB.out | apply below_alloc | apply pw_below_drewN | apply below_drew1 | refine below_set ?_ GE107.out) | exact HB.out)⟩
                 · rw [if_neg c36] at H
                   have c36b0 : ((bt t124 0) == 123) = false := beq_eq_false_iff_ne.mpr c36
                   have c36b1 : ((bt t124 0) != 123) = true := bne_iff_ne.mpr c36
                   by_cases c40 : (bt t124 0) = 91
                   · rw [if_pos c40] at H
                     have c40b0 : ((bt t124 0) == 91) = true := beq_iff_eq.mpr c40
                     have c40b1 : ((bt t124 0) != 91) = false := bne_eq_false_iff_eq.mpr c40
                     clear c40
                     replace H := Option.bind_eq_some_iff.mp H
                     obtain ⟨⟨t137, t140, t141⟩, A410, H⟩ := H
                     replace H : (some (t137, t140, t141)) = some (r1, r2, r3) := H
                     have A41 := Aside0.mk A410
                     clear A410
                     simp only [Option.some.injEq, Prod.mk.injEq] at H
                     obtain ⟨rfl, rfl, rfl⟩ := H
                     have p27 : 0 ≤ (0 : Int) := (by omega)
                     have q27 : 0 < t124.size := (by have : (0 : Int) < (t124.size : Int) := of_decide_eq_true (by first | (with_reducible assumption) | assumption); omega)
                     have hx27 : ∀ h : 0 < t124.size, ((t124[0]'h).toNat : Int) = bt t124 0 := bt_at t124 0
                     clear p27
                     have qi27 : (0 < (t124.size : Int)) = True := eq_true (of_decide_eq_true (by first | (with_reducible assumption) | assumption))
                     replace q27 := eq_true q27
                     have hcz42_0 : wc.cell? ⟨gb107, 0, none⟩ = some (.int .i64 a1) := (blk_cell BK107.out 0).trans rfl
                     have hcz42_1 : wc.cell? ⟨gb107, 1, none⟩ = some (.int .i64 0) := (blk_cell BK107.out 1).trans rfl
                     have hcz42_2 : wc.cell? ⟨gb107, 2, none⟩ = some (.int .i64 t118) := (blk_cell BK107.out 2).trans rfl
                     have hcz42_3 : wc.cell? ⟨gb107, 3, none⟩ = some (.int .i64 t123) := (blk_cell BK107.out 3).trans rfl
                     have hcz42_4 : wc.cell? ⟨gb107, 4, none⟩ = some (.int .i64 t108) := (blk_cell BK107.out 4).trans rfl
                     have hcz42_5 : wc.cell? ⟨gb107, 5, none⟩ = some (.int .i64 t113) := (blk_cell BK107.out 5).trans rfl
                     have hcz42_6 : wc.cell? ⟨gb107, 6, none⟩ = some (.int .i64 0) := (blk_cell BK107.out 6).trans rfl
                     have hfz42_0 := blk_frozen BK107.out 0
                     have hfz42_1 := blk_frozen BK107.out 1
                     have hfz42_2 := blk_frozen BK107.out 2
                     have hfz42_3 := blk_frozen BK107.out 3
                     have hfz42_4 := blk_frozen BK107.out 4
                     have hfz42_5 := blk_frozen BK107.out 5
                     have hfz42_6 := blk_frozen BK107.out 6
                     go_wp2_with (first | ((with_reducible refine gate_callee (f := 48) rfl ?_); refine goesL_ (some 100) rfl rfl Tryd.func48 (by kernel_rfl) rfl #[.agg #[.int .i64 a1, .int .i64 3, .int .i64 t118, .int .i64 t123, .int .i64 t108, .int .i64 t113, .int .i64 0], .string t124, .int .u8 93] rfl (by (try simp only [List.map_toArray, List.map_cons, List.map_nil]); first | done | rfl | (simp only [List.length_drop, List.length_take]; rfl)) ?_; (with_reducible refine (mullionref05_parts.calls kj12 ⟨fun k_ h_ => HCELL.out k_ (by have := HJ12.out; omega)⟩ a1 3 t118 t123 t108 t113 0 t124 93 t137 t140 t141 _ A41.out).mono ?_); rintro e w43 ⟨v138, rfl, ho0, hb⟩; refine ⟨_, rfl, ?_⟩; have n0_ := Aside0.mk (Kd.R_lower (Kd.R_newB ho0 (g := gb107) (o := .cells #[.int .i64 a1, .int .i64 3, .int .i64 t118, .int .i64 t123, .int .i64 t108, .int .i64 t113, .int .i64 0] 45 (0, 0)) (by (with_reducible repeat (first | refine blk_drewN ?_ _ | refine blk_drew ?_ | refine blk_alloc ?_ _)); refine blk_put (cs := #[.int .i64 a1, .int .i64 0, .int .i64 t118, .int .i64 t123, .int .i64 t108, .int .i64 t113, .int .i64 0]) ?_ 1 _ rfl; (with_reducible repeat (first | refine blk_drewN ?_ _ | refine blk_drew ?_ | refine blk_alloc ?_ _)); exact BK107.out)) (below_size (by repeat (first | (with_reducible first | exact HB.out | apply below_alloc | apply pw_below_drewN | apply below_drew1 | refine below_set ?_ GE107.out) | exact HB.out)))); have n1_ := Aside0.mk (blk_below (g := gb107) (o := .cells #[.int .i64 a1, .int .i64 3, .int .i64 t118, .int .i64 t123, .int .i64 t108, .int .i64 t113, .int .i64 0] 45 (0, 0)) (by (with_reducible repeat (first | refine blk_drewN ?_ _ | refine blk_drew ?_ | refine blk_alloc ?_ _)); refine blk_put (cs := #[.int .i64 a1, .int .i64 0, .int .i64 t118, .int .i64 t123, .int .i64 t108, .int .i64 t113, .int .i64 0]) ?_ 1 _ rfl; (with_reducible repeat (first | refine blk_drewN ?_ _ | refine blk_drew ?_ | refine blk_alloc ?_ _)); exact BK107.out) hb); have n2_ := Aside0.mk (below_step (by repeat (first | (with_reducible first | exact HB.out | apply below_alloc | apply pw_below_drewN | apply below_drew1 | refine below_set ?_ GE107.out) | exact HB.out)) hb); clear BK107; clear HB; have HO139 := n0_; have BK107 := n1_; have HB := n2_; clear n0_ n1_ n2_; (try clear hb); (try clear hb2); (try clear hk); (try clear hi); (try clear ho0)))
                     go_ret3
                     exact ⟨_, by first | rfl | (simp [errW_none, errW_some] <;> rfl) | (simp [*, errW_none, errW_some] <;> rfl), by (with_reducible repeat (first | apply Kd.R_alloc | apply Kd.R_drewN | apply Kd.R_drew)); exact Kd.R_mono HO139.out (fun _ hk => trivial), by repeat (first | (with_reducible first | exact HB.out | apply below_alloc | apply pw_below_drewN | apply below_drew1 | refine below_set ?_ GE107.out) | exact HB.out)⟩
                   · rw [if_neg c40] at H
                     have c40b0 : ((bt t124 0) == 91) = false := beq_eq_false_iff_ne.mpr c40
                     have c40b1 : ((bt t124 0) != 91) = true := bne_iff_ne.mpr c40
                     simp only [Option.some.injEq, Prod.mk.injEq] at H
                     obtain ⟨rfl, rfl, rfl⟩ := H
                     have p27 : 0 ≤ (0 : Int) := (by omega)
                     have q27 : 0 < t124.size := (by have : (0 : Int) < (t124.size : Int) := of_decide_eq_true (by first | (with_reducible assumption) | assumption); omega)
                     have hx27 : ∀ h : 0 < t124.size, ((t124[0]'h).toNat : Int) = bt t124 0 := bt_at t124 0
                     clear p27
                     have qi27 : (0 < (t124.size : Int)) = True := eq_true (of_decide_eq_true (by first | (with_reducible assumption) | assumption))
                     replace q27 := eq_true q27
                     go_wp2
                     go_ret3
                     exact ⟨_, by first | rfl | (simp [errW_none, errW_some] <;> rfl) | (simp [*, errW_none, errW_some] <;> rfl), by first | exact Kd.R_nil _ _ _ _ _ | exact Kd.N_nil _ _ _ _ _ | exact Kd.V_nil _ _ _ _ _ | exact Kd.Q_nil _ _ _ _ _ | exact Kd.S_nil _ _ _ _ _, by repeat (first | (with_reducible first | exact HB.out | apply below_alloc | apply pw_below_drewN | apply below_drew1 | refine below_set ?_ GE107.out) | exact HB.out)⟩
             · rw [if_neg c26] at H
               exact absurd H (by simp)
     · replace c11 := Bool.eq_false_iff.mpr c11
       subst c11
       have H1 : (some (([] : List (S45)), (⟨#[]⟩ : ByteArray), false)) = some (r1, r2, r3) := by rw [if_neg (show ¬ (false = true) by decide)] at H; exact H
       clear H
       have H := H1
       clear H1
       simp only [Option.some.injEq, Prod.mk.injEq] at H
       obtain ⟨rfl, rfl, rfl⟩ := H
       go_enter Tryd.func32, Tryd.ntmps32
       go_wp2_with (first | ((with_reducible refine gate_dst (N := 7) rfl ?_); refine box_event ?hg (N := 7) ?hd (cs := #[.int .i64 0, .int .i64 0, .int .i64 0, .int .i64 0, .int .i64 0, .int .i64 0, .int .i64 0]) (t := 45) ?hr ?_; (case hd => rfl); (case hg => rfl); (case hr => first | (go_simp; done) | (go_simp; rfl)); intro gb107 hg w44 hbox hb; have n0_ := Aside0.mk (below_step (by repeat (first | (with_reducible first | exact HB.out | apply below_alloc | apply pw_below_drewN | apply below_drew1) | exact HB.out)) hb); have n1_ := Aside0.mk (hbox); have n2_ := Aside0.mk ((by rw [hg]; exact (below_size (by repeat (first | (with_reducible first | exact HB.out | apply below_alloc | apply pw_below_drewN | apply below_drew1) | exact HB.out))) : w.heap.size ≤ gb107)); have n3_ := Aside0.mk ((by rw [hg]; exact (below_size (by repeat (first | (with_reducible first | exact HB.out | apply below_alloc | apply pw_below_drewN | apply below_drew1) | exact HB.out))) : w.heap.size ≤ gb107)); clear HB; have HB := n0_; have BK107 := n1_; have GW107 := n2_; have GE107 := n3_; clear n0_ n1_ n2_ n3_; clear hb hbox hg; have hcz45_0 : w44.cell? ⟨gb107, 0, none⟩ = some (.int .i64 0) := (blk_cell BK107.out 0).trans rfl; have hcz45_1 : w44.cell? ⟨gb107, 1, none⟩ = some (.int .i64 0) := (blk_cell BK107.out 1).trans rfl; have hcz45_2 : w44.cell? ⟨gb107, 2, none⟩ = some (.int .i64 0) := (blk_cell BK107.out 2).trans rfl; have hcz45_3 : w44.cell? ⟨gb107, 3, none⟩ = some (.int .i64 0) := (blk_cell BK107.out 3).trans rfl; have hcz45_4 : w44.cell? ⟨gb107, 4, none⟩ = some (.int .i64 0) := (blk_cell BK107.out 4).trans rfl; have hcz45_5 : w44.cell? ⟨gb107, 5, none⟩ = some (.int .i64 0) := (blk_cell BK107.out 5).trans rfl; have hcz45_6 : w44.cell? ⟨gb107, 6, none⟩ = some (.int .i64 0) := (blk_cell BK107.out 6).trans rfl; have hfz45_0 := blk_frozen BK107.out 0; have hfz45_1 := blk_frozen BK107.out 1; have hfz45_2 := blk_frozen BK107.out 2; have hfz45_3 := blk_frozen BK107.out 3; have hfz45_4 := blk_frozen BK107.out 4; have hfz45_5 := blk_frozen BK107.out 5; have hfz45_6 := blk_frozen BK107.out 6) | ((with_reducible refine gate_callee (f := 46) rfl ?_); refine goesL_ (some 13) rfl rfl Tryd.func46 (by kernel_rfl) rfl #[.string a0] rfl (by (try simp only [List.map_toArray, List.map_cons, List.map_nil]); first | done | rfl | (simp only [List.length_drop, List.length_take]; rfl)) ?_; (with_reducible refine (mullionref05_number.calls k a0 t108 t109 t110 _ A3.out).mono ?_); rintro e w46 ⟨rfl, hb⟩; refine ⟨_, rfl, ?_⟩; have n0_ := Aside0.mk (blk_below (g := gb107) (o := .cells #[.int .i64 a1, .int .i64 0, .int .i64 0, .int .i64 0, .int .i64 0, .int .i64 0, .int .i64 0] 45 (0, 0)) (by (with_reducible repeat (first | refine blk_drewN ?_ _ | refine blk_drew ?_ | refine blk_alloc ?_ _)); refine blk_put (cs := #[.int .i64 a1, .int .i64 0, .int .i64 0, .int .i64 0, .int .i64 0, .int .i64 0, .int .i64 0]) ?_ 6 _ rfl; (with_reducible repeat (first | refine blk_drewN ?_ _ | refine blk_drew ?_ | refine blk_alloc ?_ _)); refine blk_put (cs := #[.int .i64 a1, .int .i64 0, .int .i64 0, .int .i64 0, .int .i64 0, .int .i64 0, .int .i64 0]) ?_ 5 _ rfl; (with_reducible repeat (first | refine blk_drewN ?_ _ | refine blk_drew ?_ | refine blk_alloc ?_ _)); refine blk_put (cs := #[.int .i64 a1, .int .i64 0, .int .i64 0, .int .i64 0, .int .i64 0, .int .i64 0, .int .i64 0]) ?_ 4 _ rfl; (with_reducible repeat (first | refine blk_drewN ?_ _ | refine blk_drew ?_ | refine blk_alloc ?_ _)); refine blk_put (cs := #[.int .i64 a1, .int .i64 0, .int .i64 0, .int .i64 0, .int .i64 0, .int .i64 0, .int .i64 0]) ?_ 3 _ rfl; (with_reducible repeat (first | refine blk_drewN ?_ _ | refine blk_drew ?_ | refine blk_alloc ?_ _)); refine blk_put (cs := #[.int .i64 a1, .int .i64 0, .int .i64 0, .int .i64 0, .int .i64 0, .int .i64 0, .int .i64 0]) ?_ 2 _ rfl; (with_reducible repeat (first | refine blk_drewN ?_ _ | refine blk_drew ?_ | refine blk_alloc ?_ _)); refine blk_put (cs := #[.int .i64 a1, .int .i64 0, .int .i64 0, .int .i64 0, .int .i64 0, .int .i64 0, .int .i64 0]) ?_ 1 _ rfl; (with_reducible repeat (first | refine blk_drewN ?_ _ | refine blk_drew ?_ | refine blk_alloc ?_ _)); refine blk_put (cs := #[.int .i64 0, .int .i64 0, .int .i64 0, .int .i64 0, .int .i64 0, .int .i64 0, .int .i64 0]) ?_ 0 _ rfl; (with_reducible repeat (first | refine blk_drewN ?_ _ | refine blk_drew ?_ | refine blk_alloc ?_ _)); exact BK107.out) hb); have n1_ := Aside0.mk (below_step (by repeat (first | (with_reducible first | exact HB.out | apply below_alloc | apply pw_below_drewN | apply below_drew1 | refine below_set ?_ GE107.out) | exact HB.out)) hb); clear BK107; clear HB; have BK107 := n0_; have HB := n1_; clear n0_ n1_; (try clear hb); (try clear hb2); (try clear hk); (try clear hi); have hcz47_0 : w46.cell? ⟨gb107, 0, none⟩ = some (.int .i64 a1) := (blk_cell BK107.out 0).trans rfl; have hcz47_1 : w46.cell? ⟨gb107, 1, none⟩ = some (.int .i64 0) := (blk_cell BK107.out 1).trans rfl; have hcz47_2 : w46.cell? ⟨gb107, 2, none⟩ = some (.int .i64 0) := (blk_cell BK107.out 2).trans rfl; have hcz47_3 : w46.cell? ⟨gb107, 3, none⟩ = some (.int .i64 0) := (blk_cell BK107.out 3).trans rfl; have hcz47_4 : w46.cell? ⟨gb107, 4, none⟩ = some (.int .i64 0) := (blk_cell BK107.out 4).trans rfl; have hcz47_5 : w46.cell? ⟨gb107, 5, none⟩ = some (.int .i64 0) := (blk_cell BK107.out 5).trans rfl; have hcz47_6 : w46.cell? ⟨gb107, 6, none⟩ = some (.int .i64 0) := (blk_cell BK107.out 6).trans rfl; have hfz47_0 := blk_frozen BK107.out 0; have hfz47_1 := blk_frozen BK107.out 1; have hfz47_2 := blk_frozen BK107.out 2; have hfz47_3 := blk_frozen BK107.out 3; have hfz47_4 := blk_frozen BK107.out 4; have hfz47_5 := blk_frozen BK107.out 5; have hfz47_6 := blk_frozen BK107.out 6) | ((with_reducible refine gate_callee (f := 47) rfl ?_); refine goesL_ (some 21) rfl rfl Tryd.func47 (by kernel_rfl) rfl #[.string t109, .int .u8 120, .bool t110] rfl (by (try simp only [List.map_toArray, List.map_cons, List.map_nil]); first | done | rfl | (simp only [List.length_drop, List.length_take]; rfl)) ?_; (with_reducible refine (mullionref05_after.calls t109 120 t110 t111 true _ A4.out).mono ?_); rintro e w' ⟨rfl, ⟨nd, rfl⟩⟩; refine ⟨_, rfl, ?_⟩) | ((with_reducible refine gate_callee (f := 46) rfl ?_); refine goesL_ (some 28) rfl rfl Tryd.func46 (by kernel_rfl) rfl #[.string t111] rfl (by (try simp only [List.map_toArray, List.map_cons, List.map_nil]); first | done | rfl | (simp only [List.length_drop, List.length_take]; rfl)) ?_; (with_reducible refine (mullionref05_number.calls k t111 t113 t114 t115 _ A6.out).mono ?_); rintro e w48 ⟨rfl, hb⟩; refine ⟨_, rfl, ?_⟩; have n0_ := Aside0.mk (blk_below (g := gb107) (o := .cells #[.int .i64 a1, .int .i64 0, .int .i64 0, .int .i64 0, .int .i64 t108, .int .i64 0, .int .i64 0] 45 (0, 0)) (by (with_reducible repeat (first | refine blk_drewN ?_ _ | refine blk_drew ?_ | refine blk_alloc ?_ _)); refine blk_put (cs := #[.int .i64 a1, .int .i64 0, .int .i64 0, .int .i64 0, .int .i64 0, .int .i64 0, .int .i64 0]) ?_ 4 _ rfl; (with_reducible repeat (first | refine blk_drewN ?_ _ | refine blk_drew ?_ | refine blk_alloc ?_ _)); exact BK107.out) hb); have n1_ := Aside0.mk (below_step (by repeat (first | (with_reducible first | exact HB.out | apply below_alloc | apply pw_below_drewN | apply below_drew1 | refine below_set ?_ GE107.out) | exact HB.out)) hb); clear BK107; clear HB; have BK107 := n0_; have HB := n1_; clear n0_ n1_; (try clear hb); (try clear hb2); (try clear hk); (try clear hi); have hcz49_0 : w48.cell? ⟨gb107, 0, none⟩ = some (.int .i64 a1) := (blk_cell BK107.out 0).trans rfl; have hcz49_1 : w48.cell? ⟨gb107, 1, none⟩ = some (.int .i64 0) := (blk_cell BK107.out 1).trans rfl; have hcz49_2 : w48.cell? ⟨gb107, 2, none⟩ = some (.int .i64 0) := (blk_cell BK107.out 2).trans rfl; have hcz49_3 : w48.cell? ⟨gb107, 3, none⟩ = some (.int .i64 0) := (blk_cell BK107.out 3).trans rfl; have hcz49_4 : w48.cell? ⟨gb107, 4, none⟩ = some (.int .i64 t108) := (blk_cell BK107.out 4).trans rfl; have hcz49_5 : w48.cell? ⟨gb107, 5, none⟩ = some (.int .i64 0) := (blk_cell BK107.out 5).trans rfl; have hcz49_6 : w48.cell? ⟨gb107, 6, none⟩ = some (.int .i64 0) := (blk_cell BK107.out 6).trans rfl; have hfz49_0 := blk_frozen BK107.out 0; have hfz49_1 := blk_frozen BK107.out 1; have hfz49_2 := blk_frozen BK107.out 2; have hfz49_3 := blk_frozen BK107.out 3; have hfz49_4 := blk_frozen BK107.out 4; have hfz49_5 := blk_frozen BK107.out 5; have hfz49_6 := blk_frozen BK107.out 6) | ((with_reducible refine gate_callee (f := 47) rfl ?_); refine goesL_ (some 36) rfl rfl Tryd.func47 (by kernel_rfl) rfl #[.string t114, .int .u8 44, .bool t115] rfl (by (try simp only [List.map_toArray, List.map_cons, List.map_nil]); first | done | rfl | (simp only [List.length_drop, List.length_take]; rfl)) ?_; (with_reducible refine (mullionref05_after.calls t114 44 t115 t116 true _ A7.out).mono ?_); rintro e w' ⟨rfl, ⟨nd, rfl⟩⟩; refine ⟨_, rfl, ?_⟩) | ((with_reducible refine gate_callee (f := 46) rfl ?_); refine goesL_ (some 43) rfl rfl Tryd.func46 (by kernel_rfl) rfl #[.string t116] rfl (by (try simp only [List.map_toArray, List.map_cons, List.map_nil]); first | done | rfl | (simp only [List.length_drop, List.length_take]; rfl)) ?_; (with_reducible refine (mullionref05_number.calls k t116 t118 t119 t120 _ A9.out).mono ?_); rintro e w50 ⟨rfl, hb⟩; refine ⟨_, rfl, ?_⟩; have n0_ := Aside0.mk (blk_below (g := gb107) (o := .cells #[.int .i64 a1, .int .i64 0, .int .i64 0, .int .i64 0, .int .i64 t108, .int .i64 t113, .int .i64 0] 45 (0, 0)) (by (with_reducible repeat (first | refine blk_drewN ?_ _ | refine blk_drew ?_ | refine blk_alloc ?_ _)); refine blk_put (cs := #[.int .i64 a1, .int .i64 0, .int .i64 0, .int .i64 0, .int .i64 t108, .int .i64 0, .int .i64 0]) ?_ 5 _ rfl; (with_reducible repeat (first | refine blk_drewN ?_ _ | refine blk_drew ?_ | refine blk_alloc ?_ _)); exact BK107.out) hb); have n1_ := Aside0.mk (below_step (by repeat (first | (with_reducible first | exact HB.out | apply below_alloc | apply pw_below_drewN | apply below_drew1 | refine below_set ?_ GE107.out) | exact HB.out)) hb); clear BK107; clear HB; have BK107 := n0_; have HB := n1_; clear n0_ n1_; (try clear hb); (try clear hb2); (try clear hk); (try clear hi); have hcz51_0 : w50.cell? ⟨gb107, 0, none⟩ = some (.int .i64 a1) := (blk_cell BK107.out 0).trans rfl; have hcz51_1 : w50.cell? ⟨gb107, 1, none⟩ = some (.int .i64 0) := (blk_cell BK107.out 1).trans rfl; have hcz51_2 : w50.cell? ⟨gb107, 2, none⟩ = some (.int .i64 0) := (blk_cell BK107.out 2).trans rfl; have hcz51_3 : w50.cell? ⟨gb107, 3, none⟩ = some (.int .i64 0) := (blk_cell BK107.out 3).trans rfl; have hcz51_4 : w50.cell? ⟨gb107, 4, none⟩ = some (.int .i64 t108) := (blk_cell BK107.out 4).trans rfl; have hcz51_5 : w50.cell? ⟨gb107, 5, none⟩ = some (.int .i64 t113) := (blk_cell BK107.out 5).trans rfl; have hcz51_6 : w50.cell? ⟨gb107, 6, none⟩ = some (.int .i64 0) := (blk_cell BK107.out 6).trans rfl; have hfz51_0 := blk_frozen BK107.out 0; have hfz51_1 := blk_frozen BK107.out 1; have hfz51_2 := blk_frozen BK107.out 2; have hfz51_3 := blk_frozen BK107.out 3; have hfz51_4 := blk_frozen BK107.out 4; have hfz51_5 := blk_frozen BK107.out 5; have hfz51_6 := blk_frozen BK107.out 6) | ((with_reducible refine gate_callee (f := 47) rfl ?_); refine goesL_ (some 51) rfl rfl Tryd.func47 (by kernel_rfl) rfl #[.string t119, .int .u8 44, .bool t120] rfl (by (try simp only [List.map_toArray, List.map_cons, List.map_nil]); first | done | rfl | (simp only [List.length_drop, List.length_take]; rfl)) ?_; (with_reducible refine (mullionref05_after.calls t119 44 t120 t121 false _ A10.out).mono ?_); rintro e w' ⟨rfl, ⟨nd, rfl⟩⟩; refine ⟨_, rfl, ?_⟩))
       go_ret3
       exact ⟨_, by first | rfl | (simp [errW_none, errW_some] <;> rfl) | (simp [*, errW_none, errW_some] <;> rfl), by first | exact Kd.R_nil _ _ _ _ _ | exact Kd.N_nil _ _ _ _ _ | exact Kd.V_nil _ _ _ _ _ | exact Kd.Q_nil _ _ _ _ _ | exact Kd.S_nil _ _ _ _ _, by repeat (first | (with_reducible first | exact HB.out | apply below_alloc | apply pw_below_drewN | apply below_drew1 | refine below_set ?_ GE107.out) | exact HB.out)⟩
   · replace c8 := Bool.eq_false_iff.mpr c8
     subst c8
     have H1 : (some (([] : List (S45)), (⟨#[]⟩ : ByteArray), false)) = some (r1, r2, r3) := by rw [if_neg (show ¬ (false = true) by decide)] at H; exact H
     clear H
     have H := H1
     clear H1
     simp only [Option.some.injEq, Prod.mk.injEq] at H
     obtain ⟨rfl, rfl, rfl⟩ := H
     go_enter Tryd.func32, Tryd.ntmps32
     go_wp2_with (first | ((with_reducible refine gate_dst (N := 7) rfl ?_); refine box_event ?hg (N := 7) ?hd (cs := #[.int .i64 0, .int .i64 0, .int .i64 0, .int .i64 0, .int .i64 0, .int .i64 0, .int .i64 0]) (t := 45) ?hr ?_; (case hd => rfl); (case hg => rfl); (case hr => first | (go_simp; done) | (go_simp; rfl)); intro gb107 hg w52 hbox hb; have n0_ := Aside0.mk (below_step (by repeat (first | (with_reducible first | exact HB.out | apply below_alloc | apply pw_below_drewN | apply below_drew1) | exact HB.out)) hb); have n1_ := Aside0.mk (hbox); have n2_ := Aside0.mk ((by rw [hg]; exact (below_size (by repeat (first | (with_reducible first | exact HB.out | apply below_alloc | apply pw_below_drewN | apply below_drew1) | exact HB.out))) : w.heap.size ≤ gb107)); have n3_ := Aside0.mk ((by rw [hg]; exact (below_size (by repeat (first | (with_reducible first | exact HB.out | apply below_alloc | apply pw_below_drewN | apply below_drew1) | exact HB.out))) : w.heap.size ≤ gb107)); clear HB; have HB := n0_; have BK107 := n1_; have GW107 := n2_; have GE107 := n3_; clear n0_ n1_ n2_ n3_; clear hb hbox hg; have hcz53_0 : w52.cell? ⟨gb107, 0, none⟩ = some (.int .i64 0) := (blk_cell BK107.out 0).trans rfl; have hcz53_1 : w52.cell? ⟨gb107, 1, none⟩ = some (.int .i64 0) := (blk_cell BK107.out 1).trans rfl; have hcz53_2 : w52.cell? ⟨gb107, 2, none⟩ = some (.int .i64 0) := (blk_cell BK107.out 2).trans rfl; have hcz53_3 : w52.cell? ⟨gb107, 3, none⟩ = some (.int .i64 0) := (blk_cell BK107.out 3).trans rfl; have hcz53_4 : w52.cell? ⟨gb107, 4, none⟩ = some (.int .i64 0) := (blk_cell BK107.out 4).trans rfl; have hcz53_5 : w52.cell? ⟨gb107, 5, none⟩ = some (.int .i64 0) := (blk_cell BK107.out 5).trans rfl; have hcz53_6 : w52.cell? ⟨gb107, 6, none⟩ = some (.int .i64 0) := (blk_cell BK107.out 6).trans rfl; have hfz53_0 := blk_frozen BK107.out 0; have hfz53_1 := blk_frozen BK107.out 1; have hfz53_2 := blk_frozen BK107.out 2; have hfz53_3 := blk_frozen BK107.out 3; have hfz53_4 := blk_frozen BK107.out 4; have hfz53_5 := blk_frozen BK107.out 5; have hfz53_6 := blk_frozen BK107.out 6) | ((with_reducible refine gate_callee (f := 46) rfl ?_); refine goesL_ (some 13) rfl rfl Tryd.func46 (by kernel_rfl) rfl #[.string a0] rfl (by (try simp only [List.map_toArray, List.map_cons, List.map_nil]); first | done | rfl | (simp only [List.length_drop, List.length_take]; rfl)) ?_; (with_reducible refine (mullionref05_number.calls k a0 t108 t109 t110 _ A3.out).mono ?_); rintro e w54 ⟨rfl, hb⟩; refine ⟨_, rfl, ?_⟩; have n0_ := Aside0.mk (blk_below (g := gb107) (o := .cells #[.int .i64 a1, .int .i64 0, .int .i64 0, .int .i64 0, .int .i64 0, .int .i64 0, .int .i64 0] 45 (0, 0)) (by (with_reducible repeat (first | refine blk_drewN ?_ _ | refine blk_drew ?_ | refine blk_alloc ?_ _)); refine blk_put (cs := #[.int .i64 a1, .int .i64 0, .int .i64 0, .int .i64 0, .int .i64 0, .int .i64 0, .int .i64 0]) ?_ 6 _ rfl; (with_reducible repeat (first | refine blk_drewN ?_ _ | refine blk_drew ?_ | refine blk_alloc ?_ _)); refine blk_put (cs := #[.int .i64 a1, .int .i64 0, .int .i64 0, .int .i64 0, .int .i64 0, .int .i64 0, .int .i64 0]) ?_ 5 _ rfl; (with_reducible repeat (first | refine blk_drewN ?_ _ | refine blk_drew ?_ | refine blk_alloc ?_ _)); refine blk_put (cs := #[.int .i64 a1, .int .i64 0, .int .i64 0, .int .i64 0, .int .i64 0, .int .i64 0, .int .i64 0]) ?_ 4 _ rfl; (with_reducible repeat (first | refine blk_drewN ?_ _ | refine blk_drew ?_ | refine blk_alloc ?_ _)); refine blk_put (cs := #[.int .i64 a1, .int .i64 0, .int .i64 0, .int .i64 0, .int .i64 0, .int .i64 0, .int .i64 0]) ?_ 3 _ rfl; (with_reducible repeat (first | refine blk_drewN ?_ _ | refine blk_drew ?_ | refine blk_alloc ?_ _)); refine blk_put (cs := #[.int .i64 a1, .int .i64 0, .int .i64 0, .int .i64 0, .int .i64 0, .int .i64 0, .int .i64 0]) ?_ 2 _ rfl; (with_reducible repeat (first | refine blk_drewN ?_ _ | refine blk_drew ?_ | refine blk_alloc ?_ _)); refine blk_put (cs := #[.int .i64 a1, .int .i64 0, .int .i64 0, .int .i64 0, .int .i64 0, .int .i64 0, .int .i64 0]) ?_ 1 _ rfl; (with_reducible repeat (first | refine blk_drewN ?_ _ | refine blk_drew ?_ | refine blk_alloc ?_ _)); refine blk_put (cs := #[.int .i64 0, .int .i64 0, .int .i64 0, .int .i64 0, .int .i64 0, .int .i64 0, .int .i64 0]) ?_ 0 _ rfl; (with_reducible repeat (first | refine blk_drewN ?_ _ | refine blk_drew ?_ | refine blk_alloc ?_ _)); exact BK107.out) hb); have n1_ := Aside0.mk (below_step (by repeat (first | (with_reducible first | exact HB.out | apply below_alloc | apply pw_below_drewN | apply below_drew1 | refine below_set ?_ GE107.out) | exact HB.out)) hb); clear BK107; clear HB; have BK107 := n0_; have HB := n1_; clear n0_ n1_; (try clear hb); (try clear hb2); (try clear hk); (try clear hi); have hcz55_0 : w54.cell? ⟨gb107, 0, none⟩ = some (.int .i64 a1) := (blk_cell BK107.out 0).trans rfl; have hcz55_1 : w54.cell? ⟨gb107, 1, none⟩ = some (.int .i64 0) := (blk_cell BK107.out 1).trans rfl; have hcz55_2 : w54.cell? ⟨gb107, 2, none⟩ = some (.int .i64 0) := (blk_cell BK107.out 2).trans rfl; have hcz55_3 : w54.cell? ⟨gb107, 3, none⟩ = some (.int .i64 0) := (blk_cell BK107.out 3).trans rfl; have hcz55_4 : w54.cell? ⟨gb107, 4, none⟩ = some (.int .i64 0) := (blk_cell BK107.out 4).trans rfl; have hcz55_5 : w54.cell? ⟨gb107, 5, none⟩ = some (.int .i64 0) := (blk_cell BK107.out 5).trans rfl; have hcz55_6 : w54.cell? ⟨gb107, 6, none⟩ = some (.int .i64 0) := (blk_cell BK107.out 6).trans rfl; have hfz55_0 := blk_frozen BK107.out 0; have hfz55_1 := blk_frozen BK107.out 1; have hfz55_2 := blk_frozen BK107.out 2; have hfz55_3 := blk_frozen BK107.out 3; have hfz55_4 := blk_frozen BK107.out 4; have hfz55_5 := blk_frozen BK107.out 5; have hfz55_6 := blk_frozen BK107.out 6) | ((with_reducible refine gate_callee (f := 47) rfl ?_); refine goesL_ (some 21) rfl rfl Tryd.func47 (by kernel_rfl) rfl #[.string t109, .int .u8 120, .bool t110] rfl (by (try simp only [List.map_toArray, List.map_cons, List.map_nil]); first | done | rfl | (simp only [List.length_drop, List.length_take]; rfl)) ?_; (with_reducible refine (mullionref05_after.calls t109 120 t110 t111 true _ A4.out).mono ?_); rintro e w' ⟨rfl, ⟨nd, rfl⟩⟩; refine ⟨_, rfl, ?_⟩) | ((with_reducible refine gate_callee (f := 46) rfl ?_); refine goesL_ (some 28) rfl rfl Tryd.func46 (by kernel_rfl) rfl #[.string t111] rfl (by (try simp only [List.map_toArray, List.map_cons, List.map_nil]); first | done | rfl | (simp only [List.length_drop, List.length_take]; rfl)) ?_; (with_reducible refine (mullionref05_number.calls k t111 t113 t114 t115 _ A6.out).mono ?_); rintro e w56 ⟨rfl, hb⟩; refine ⟨_, rfl, ?_⟩; have n0_ := Aside0.mk (blk_below (g := gb107) (o := .cells #[.int .i64 a1, .int .i64 0, .int .i64 0, .int .i64 0, .int .i64 t108, .int .i64 0, .int .i64 0] 45 (0, 0)) (by (with_reducible repeat (first | refine blk_drewN ?_ _ | refine blk_drew ?_ | refine blk_alloc ?_ _)); refine blk_put (cs := #[.int .i64 a1, .int .i64 0, .int .i64 0, .int .i64 0, .int .i64 0, .int .i64 0, .int .i64 0]) ?_ 4 _ rfl; (with_reducible repeat (first | refine blk_drewN ?_ _ | refine blk_drew ?_ | refine blk_alloc ?_ _)); exact BK107.out) hb); have n1_ := Aside0.mk (below_step (by repeat (first | (with_reducible first | exact HB.out | apply below_alloc | apply pw_below_drewN | apply below_drew1 | refine below_set ?_ GE107.out) | exact HB.out)) hb); clear BK107; clear HB; have BK107 := n0_; have HB := n1_; clear n0_ n1_; (try clear hb); (try clear hb2); (try clear hk); (try clear hi); have hcz57_0 : w56.cell? ⟨gb107, 0, none⟩ = some (.int .i64 a1) := (blk_cell BK107.out 0).trans rfl; have hcz57_1 : w56.cell? ⟨gb107, 1, none⟩ = some (.int .i64 0) := (blk_cell BK107.out 1).trans rfl; have hcz57_2 : w56.cell? ⟨gb107, 2, none⟩ = some (.int .i64 0) := (blk_cell BK107.out 2).trans rfl; have hcz57_3 : w56.cell? ⟨gb107, 3, none⟩ = some (.int .i64 0) := (blk_cell BK107.out 3).trans rfl; have hcz57_4 : w56.cell? ⟨gb107, 4, none⟩ = some (.int .i64 t108) := (blk_cell BK107.out 4).trans rfl; have hcz57_5 : w56.cell? ⟨gb107, 5, none⟩ = some (.int .i64 0) := (blk_cell BK107.out 5).trans rfl; have hcz57_6 : w56.cell? ⟨gb107, 6, none⟩ = some (.int .i64 0) := (blk_cell BK107.out 6).trans rfl; have hfz57_0 := blk_frozen BK107.out 0; have hfz57_1 := blk_frozen BK107.out 1; have hfz57_2 := blk_frozen BK107.out 2; have hfz57_3 := blk_frozen BK107.out 3; have hfz57_4 := blk_frozen BK107.out 4; have hfz57_5 := blk_frozen BK107.out 5; have hfz57_6 := blk_frozen BK107.out 6) | ((with_reducible refine gate_callee (f := 47) rfl ?_); refine goesL_ (some 36) rfl rfl Tryd.func47 (by kernel_rfl) rfl #[.string t114, .int .u8 44, .bool t115] rfl (by (try simp only [List.map_toArray, List.map_cons, List.map_nil]); first | done | rfl | (simp only [List.length_drop, List.length_take]; rfl)) ?_; (with_reducible refine (mullionref05_after.calls t114 44 t115 t116 false _ A7.out).mono ?_); rintro e w' ⟨rfl, ⟨nd, rfl⟩⟩; refine ⟨_, rfl, ?_⟩))
     go_ret3
     exact ⟨_, by first | rfl | (simp [errW_none, errW_some] <;> rfl) | (simp [*, errW_none, errW_some] <;> rfl), by first | exact Kd.R_nil _ _ _ _ _ | exact Kd.N_nil _ _ _ _ _ | exact Kd.V_nil _ _ _ _ _ | exact Kd.Q_nil _ _ _ _ _ | exact Kd.S_nil _ _ _ _ _, by repeat (first | (with_reducible first | exact HB.out | apply below_alloc | apply pw_below_drewN | apply below_drew1 | refine below_set ?_ GE107.out) | exact HB.out)⟩
 · replace c5 := Bool.eq_false_iff.mpr c5
   subst c5
   have H1 : (some (([] : List (S45)), (⟨#[]⟩ : ByteArray), false)) = some (r1, r2, r3) := by rw [if_neg (show ¬ (false = true) by decide)] at H; exact H
   clear H
   have H := H1
   clear H1
   simp only [Option.some.injEq, Prod.mk.injEq] at H
   obtain ⟨rfl, rfl, rfl⟩ := H
   go_enter Tryd.func32, Tryd.ntmps32
   go_wp2_with (first | ((with_reducible refine gate_dst (N := 7) rfl ?_); refine box_event ?hg (N := 7) ?hd (cs := #[.int .i64 0, .int .i64 0, .int .i64 0, .int .i64 0, .int .i64 0, .int .i64 0, .int .i64 0]) (t := 45) ?hr ?_; (case hd => rfl); (case hg => rfl); (case hr => first | (go_simp; done) | (go_simp; rfl)); intro gb107 hg w58 hbox hb; have n0_ := Aside0.mk (below_step (by repeat (first | (with_reducible first | exact HB.out | apply below_alloc | apply pw_below_drewN | apply below_drew1) | exact HB.out)) hb); have n1_ := Aside0.mk (hbox); have n2_ := Aside0.mk ((by rw [hg]; exact (below_size (by repeat (first | (with_reducible first | exact HB.out | apply below_alloc | apply pw_below_drewN | apply below_drew1) | exact HB.out))) : w.heap.size ≤ gb107)); have n3_ := Aside0.mk ((by rw [hg]; exact (below_size (by repeat (first | (with_reducible first | exact HB.out | apply below_alloc | apply pw_below_drewN | apply below_drew1) | exact HB.out))) : w.heap.size ≤ gb107)); clear HB; have HB := n0_; have BK107 := n1_; have GW107 := n2_; have GE107 := n3_; clear n0_ n1_ n2_ n3_; clear hb hbox hg; have hcz59_0 : w58.cell? ⟨gb107, 0, none⟩ = some (.int .i64 0) := (blk_cell BK107.out 0).trans rfl; have hcz59_1 : w58.cell? ⟨gb107, 1, none⟩ = some (.int .i64 0) := (blk_cell BK107.out 1).trans rfl; have hcz59_2 : w58.cell? ⟨gb107, 2, none⟩ = some (.int .i64 0) := (blk_cell BK107.out 2).trans rfl; have hcz59_3 : w58.cell? ⟨gb107, 3, none⟩ = some (.int .i64 0) := (blk_cell BK107.out 3).trans rfl; have hcz59_4 : w58.cell? ⟨gb107, 4, none⟩ = some (.int .i64 0) := (blk_cell BK107.out 4).trans rfl; have hcz59_5 : w58.cell? ⟨gb107, 5, none⟩ = some (.int .i64 0) := (blk_cell BK107.out 5).trans rfl; have hcz59_6 : w58.cell? ⟨gb107, 6, none⟩ = some (.int .i64 0) := (blk_cell BK107.out 6).trans rfl; have hfz59_0 := blk_frozen BK107.out 0; have hfz59_1 := blk_frozen BK107.out 1; have hfz59_2 := blk_frozen BK107.out 2; have hfz59_3 := blk_frozen BK107.out 3; have hfz59_4 := blk_frozen BK107.out 4; have hfz59_5 := blk_frozen BK107.out 5; have hfz59_6 := blk_frozen BK107.out 6) | ((with_reducible refine gate_callee (f := 46) rfl ?_); refine goesL_ (some 13) rfl rfl Tryd.func46 (by kernel_rfl) rfl #[.string a0] rfl (by (try simp only [List.map_toArray, List.map_cons, List.map_nil]); first | done | rfl | (simp only [List.length_drop, List.length_take]; rfl)) ?_; (with_reducible refine (mullionref05_number.calls k a0 t108 t109 t110 _ A3.out).mono ?_); rintro e w60 ⟨rfl, hb⟩; refine ⟨_, rfl, ?_⟩; have n0_ := Aside0.mk (blk_below (g := gb107) (o := .cells #[.int .i64 a1, .int .i64 0, .int .i64 0, .int .i64 0, .int .i64 0, .int .i64 0, .int .i64 0] 45 (0, 0)) (by (with_reducible repeat (first | refine blk_drewN ?_ _ | refine blk_drew ?_ | refine blk_alloc ?_ _)); refine blk_put (cs := #[.int .i64 a1, .int .i64 0, .int .i64 0, .int .i64 0, .int .i64 0, .int .i64 0, .int .i64 0]) ?_ 6 _ rfl; (with_reducible repeat (first | refine blk_drewN ?_ _ | refine blk_drew ?_ | refine blk_alloc ?_ _)); refine blk_put (cs := #[.int .i64 a1, .int .i64 0, .int .i64 0, .int .i64 0, .int .i64 0, .int .i64 0, .int .i64 0]) ?_ 5 _ rfl; (with_reducible repeat (first | refine blk_drewN ?_ _ | refine blk_drew ?_ | refine blk_alloc ?_ _)); refine blk_put (cs := #[.int .i64 a1, .int .i64 0, .int .i64 0, .int .i64 0, .int .i64 0, .int .i64 0, .int .i64 0]) ?_ 4 _ rfl; (with_reducible repeat (first | refine blk_drewN ?_ _ | refine blk_drew ?_ | refine blk_alloc ?_ _)); refine blk_put (cs := #[.int .i64 a1, .int .i64 0, .int .i64 0, .int .i64 0, .int .i64 0, .int .i64 0, .int .i64 0]) ?_ 3 _ rfl; (with_reducible repeat (first | refine blk_drewN ?_ _ | refine blk_drew ?_ | refine blk_alloc ?_ _)); refine blk_put (cs := #[.int .i64 a1, .int .i64 0, .int .i64 0, .int .i64 0, .int .i64 0, .int .i64 0, .int .i64 0]) ?_ 2 _ rfl; (with_reducible repeat (first | refine blk_drewN ?_ _ | refine blk_drew ?_ | refine blk_alloc ?_ _)); refine blk_put (cs := #[.int .i64 a1, .int .i64 0, .int .i64 0, .int .i64 0, .int .i64 0, .int .i64 0, .int .i64 0]) ?_ 1 _ rfl; (with_reducible repeat (first | refine blk_drewN ?_ _ | refine blk_drew ?_ | refine blk_alloc ?_ _)); refine blk_put (cs := #[.int .i64 0, .int .i64 0, .int .i64 0, .int .i64 0, .int .i64 0, .int .i64 0, .int .i64 0]) ?_ 0 _ rfl; (with_reducible repeat (first | refine blk_drewN ?_ _ | refine blk_drew ?_ | refine blk_alloc ?_ _)); exact BK107.out) hb); have n1_ := Aside0.mk (below_step (by repeat (first | (with_reducible first | exact HB.out | apply below_alloc | apply pw_below_drewN | apply below_drew1 | refine below_set ?_ GE107.out) | exact HB.out)) hb); clear BK107; clear HB; have BK107 := n0_; have HB := n1_; clear n0_ n1_; (try clear hb); (try clear hb2); (try clear hk); (try clear hi); have hcz61_0 : w60.cell? ⟨gb107, 0, none⟩ = some (.int .i64 a1) := (blk_cell BK107.out 0).trans rfl; have hcz61_1 : w60.cell? ⟨gb107, 1, none⟩ = some (.int .i64 0) := (blk_cell BK107.out 1).trans rfl; have hcz61_2 : w60.cell? ⟨gb107, 2, none⟩ = some (.int .i64 0) := (blk_cell BK107.out 2).trans rfl; have hcz61_3 : w60.cell? ⟨gb107, 3, none⟩ = some (.int .i64 0) := (blk_cell BK107.out 3).trans rfl; have hcz61_4 : w60.cell? ⟨gb107, 4, none⟩ = some (.int .i64 0) := (blk_cell BK107.out 4).trans rfl; have hcz61_5 : w60.cell? ⟨gb107, 5, none⟩ = some (.int .i64 0) := (blk_cell BK107.out 5).trans rfl; have hcz61_6 : w60.cell? ⟨gb107, 6, none⟩ = some (.int .i64 0) := (blk_cell BK107.out 6).trans rfl; have hfz61_0 := blk_frozen BK107.out 0; have hfz61_1 := blk_frozen BK107.out 1; have hfz61_2 := blk_frozen BK107.out 2; have hfz61_3 := blk_frozen BK107.out 3; have hfz61_4 := blk_frozen BK107.out 4; have hfz61_5 := blk_frozen BK107.out 5; have hfz61_6 := blk_frozen BK107.out 6) | ((with_reducible refine gate_callee (f := 47) rfl ?_); refine goesL_ (some 21) rfl rfl Tryd.func47 (by kernel_rfl) rfl #[.string t109, .int .u8 120, .bool t110] rfl (by (try simp only [List.map_toArray, List.map_cons, List.map_nil]); first | done | rfl | (simp only [List.length_drop, List.length_take]; rfl)) ?_; (with_reducible refine (mullionref05_after.calls t109 120 t110 t111 false _ A4.out).mono ?_); rintro e w' ⟨rfl, ⟨nd, rfl⟩⟩; refine ⟨_, rfl, ?_⟩))
   go_ret3
   exact ⟨_, by first | rfl | (simp [errW_none, errW_some] <;> rfl) | (simp [*, errW_none, errW_some] <;> rfl), by first | exact Kd.R_nil _ _ _ _ _ | exact Kd.N_nil _ _ _ _ _ | exact Kd.V_nil _ _ _ _ _ | exact Kd.Q_nil _ _ _ _ _ | exact Kd.S_nil _ _ _ _ _, by repeat (first | (with_reducible first | exact HB.out | apply below_alloc | apply pw_below_drewN | apply below_drew1 | refine below_set ?_ GE107.out) | exact HB.out)⟩
end Go.Proofs.YtmpnkckaohfflaaDoor.Y
end
section
namespace Go.Proofs.YtmpnkckaohfflaaDoor.PGiv
open Go.RowKit Go.Proofs.YtmpnkckaohfflaaDoorW.PrintWords Go.Proofs.YtmpnkckaohfflaaDoorW.PrintLast Go.Proofs.YtmpnkckaohfflaaDoor.K Go.Proofs.YtmpnkckaohfflaaDoor.Num Go.Proofs.YtmpnkckaohfflaaDoor.Txt Go.Proofs.YtmpnkckaohfflaaDoor.L
open Go.Lib (decDigits decDigits_one)
set_option linter.unusedVariables false
set_option linter.unusedSimpArgs false
theorem ref_nloop (suf : List UInt8) : ∀ (pre : List UInt8) (k : Nat) (n i : Int), n = (val 0 pre : Nat) → i = pre.length → val 0 pre ≤ 4611686018427387909 → pre.length ≤ 19 → (∀ c ∈ pre, 48 ≤ c.toNat ∧ c.toNat ≤ 57) → 61 ≤ k + pre.length →
   mullionref01_Number.l0 k (S (pre ++ suf)) n i = some (numOf (pre ++ suf)) := by
 induction suf with
 | nil =>
   intro pre k n i hn hi hv hl hd hk
   obtain ⟨k, rfl⟩ : ∃ m, k = m + 1 := ⟨k - 1, by omega⟩
   rw [List.append_nil]
   unfold mullionref01_Number.l0
   rw [if_neg (by rw [S_size, hi]; omega), S_toList]
   by_cases hp : pre = []
   · rw [if_pos hp, hp, numOf_nil]
   · rw [if_neg hp, ref_put n k (by omega)]
     simp only [Option.bind_some, S_toList]
     by_cases e : putNum n = pre
     · rw [if_pos e]
       rcases putNum_cases n with ⟨h, p⟩ | ⟨u, h, hu, p⟩
       · exact absurd (e.symm.trans p) hp
       · rw [← e, p, numOf_dec u hu, h]
     · rw [if_neg e, numOf_not]
       intro u hu he
       apply e
       rw [hn, he, val_dec, putNum_nat u hu]
 | cons c r ih =>
   intro pre k n i hn hi hv hl hd hk
   obtain ⟨k, rfl⟩ : ∃ m, k = m + 1 := ⟨k - 1, by omega⟩
   have no : (∀ u : Nat, u ≤ 4611686018427387904 → pre ++ c :: r ≠ decDigits u) → some ((0 : Int), false) = some (numOf (pre ++ c :: r)) := fun h => by rw [numOf_not _ h]
   unfold mullionref01_Number.l0
   rw [if_pos (by rw [S_size, hi, List.length_append, List.length_cons]; omega), if_pos (by omega), bt_mid pre r c i hi]
   by_cases c1 : ((c.toNat : Int)) < 48
   · rw [if_pos c1]
     refine no fun u hu e => ?_
     have := dec_digit u c (by rw [← e]; simp)
     omega
   rw [if_neg c1]
   by_cases c2 : ((c.toNat : Int)) > 57
   · rw [if_pos c2]
     refine no fun u hu e => ?_
     have := dec_digit u c (by rw [← e]; simp)
     omega
   rw [if_neg c2]
   by_cases c3 : i > 18
   · rw [if_pos c3]
     refine no fun u hu e => ?_
     have h1 := dec_len 18 u (by omega)
     rw [← e, List.length_append, List.length_cons] at h1
     omega
   rw [if_neg c3]
   by_cases c4 : n > 461168601842738790
   · rw [if_pos c4]
     refine no fun u hu e => ?_
     have h1 := val_dec u
     rw [← e, val_append] at h1
     have h2 := val_ge r (10 * val 0 pre + (c.toNat - 48))
     have h3 : val (val 0 pre) (c :: r) = val (10 * val 0 pre + (c.toNat - 48)) r := rfl
     omega
   rw [if_neg c4]
   have hc : c.toNat < 256 := c.toNat_lt
   have e1 : wrap64 (wrap64 (10 * n) + ((c.toNat : Int) - 48) % 256) = ((val 0 (pre ++ [c]) : Nat) : Int) := by
     rw [val_append]
     show _ = ((10 * val 0 pre + (c.toNat - 48) : Nat) : Int)
     unfold wrap64
     omega
   have hv2 : val 0 (pre ++ [c]) ≤ 4611686018427387909 := by
     rw [val_append]
     show 10 * val 0 pre + (c.toNat - 48) ≤ _
     omega
   have e2 : wrap64 (i + 1) = ((pre ++ [c]).length : Int) := by
     rw [List.length_append, List.length_singleton]
     unfold wrap64
     omega
   have := ih (pre ++ [c]) k _ _ e1 e2 hv2 (by rw [List.length_append, List.length_singleton]; omega)
     (by
       intro d hm
       rw [List.mem_append, List.mem_singleton] at hm
       rcases hm with hm | rfl
       · exact hd d hm
       · omega)
     (by rw [List.length_append, List.length_singleton]; omega)
   rw [List.append_assoc, List.singleton_append] at this
   exact this
theorem ref_num (l : List UInt8) (k : Nat) (hk : 61 ≤ k) : mullionref01_Number.f k (S l) = some (numOf l) := by
 unfold mullionref01_Number.f
 exact ref_nloop l [] k 0 0 rfl rfl (by decide) (by decide) (by simp) (by simpa using hk)
theorem isDig_iff (c : UInt8) : isDig c = true ↔ 48 ≤ (c.toNat : Int) ∧ (c.toNat : Int) ≤ 57 := by
 simp [isDig]
 omega
theorem number_scan : ∀ (suf pre : List UInt8) (k : Nat), (∀ c ∈ pre, isDig c = true) → (pre ++ suf).length ≤ 2100 → suf.length + 100 ≤ k →
   mullionref05_number.l0 k (S (pre ++ suf)) (pre.length : Int) = some ((numOf (pre ++ suf.takeWhile isDig)).1, (S (pre ++ suf)).extract (pre ++ suf.takeWhile isDig).length (S (pre ++ suf)).size, (numOf (pre ++ suf.takeWhile isDig)).2)
 | [], pre, k, hp, hl, hk => by
   obtain ⟨k, rfl⟩ : ∃ m, k = m + 1 := ⟨k - 1, by omega⟩
   have e1 : (S pre).extract 0 pre.length = S pre := by rw [S_extract]; simp
   rw [List.takeWhile_nil, List.append_nil]
   rw [mullionref05_number.l0, if_neg (by rw [S_size]; omega), if_pos (by omega), if_pos (by rw [S_size]; omega), Int.toNat_natCast, e1, ref_num pre k (by simp at hk; omega)]
   rfl
 | c :: suf, pre, k, hp, hl, hk => by
   obtain ⟨k, rfl⟩ : ∃ m, k = m + 1 := ⟨k - 1, by omega⟩
   rw [List.length_append, List.length_cons] at hl
   have q1 : (pre.length : Int) < ((S (pre ++ c :: suf)).size : Int) := by rw [S_size, List.length_append, List.length_cons]; omega
   have q2 : (pre.length : Int) ≤ ((S (pre ++ c :: suf)).size : Int) := by omega
   have q3 : (0 : Int) ≤ (pre.length : Int) := by omega
   have e1 : (S (pre ++ c :: suf)).extract 0 pre.length = S pre := by rw [S_extract]; simp
   have e2 : pre ++ c :: suf = (pre ++ [c]) ++ suf := by simp
   have hw : wrap64 ((pre.length : Int) + 1) = ((pre ++ [c]).length : Int) := (IntWalk.wrap64_in _ (by omega)).trans (by simp)
   have stop : isDig c = false → (mullionref01_Number.f k ((S (pre ++ c :: suf)).extract 0 ((pre.length : Int)).toNat)).bind (fun bt240 => some (bt240.1, (S (pre ++ c :: suf)).extract ((pre.length : Int)).toNat (S (pre ++ c :: suf)).size, bt240.2)) = some ((numOf (pre ++ (c :: suf).takeWhile isDig)).1, (S (pre ++ c :: suf)).extract (pre ++ (c :: suf).takeWhile isDig).length (S (pre ++ c :: suf)).size, (numOf (pre ++ (c :: suf).takeWhile isDig)).2) := fun h => by
     rw [Int.toNat_natCast, e1, ref_num pre k (by simp at hk; omega), List.takeWhile_cons, h]
     simp
   rw [mullionref05_number.l0, if_pos q1, if_pos q3, bt_mid pre suf c _ rfl]
   by_cases c1 : ((c.toNat : Int)) ≥ 48
   · rw [if_pos c1]
     by_cases c2 : ((c.toNat : Int)) ≤ 57
     · rw [if_pos c2, hw, e2]
       have hd : isDig c = true := (isDig_iff c).2 ⟨c1, c2⟩
       have := number_scan suf (pre ++ [c]) k (fun d hm => (List.mem_append.1 hm).elim (hp d) (fun h => by rw [List.mem_singleton.1 h]; exact hd)) (by simp; omega) (by simp at hk; omega)
       rw [this, List.takeWhile_cons, hd]
       simp
     · rw [if_neg c2, if_pos q2]
       exact stop (Bool.eq_false_iff.2 fun h => c2 ((isDig_iff c).1 h).2)
   · rw [if_neg c1, if_pos q2]
     exact stop (Bool.eq_false_iff.2 fun h => c1 ((isDig_iff c).1 h).1)
theorem number_V (s : ByteArray) (k : Nat) (hk : 5000 ≤ k) : LeO (numV s) (mullionref05_number.f k s) := by
 intro r h
 unfold numV at h
 split at h
 · simp at h
 · rename_i hs
   obtain ⟨l, rfl⟩ : ∃ l, s = S l := ⟨s.data.toList, S_of s⟩
   rw [S_size] at hs
   have := number_scan l [] k (by simp) (by simp; omega) (by omega)
   rw [mullionref05_number.f]
   rw [← h]
   exact this
theorem parts_V : ∀ m c out s sh, LeO (loopG m c out s sh) (P.mullionref05_parts.l0 (m + 5000) s sh out c.f0 c.f1 c.f2 c.f3 c.f4 c.f5 c.f6) := by
 intro m
 induction m using Nat.strongRecOn with
 | _ m ih =>
 intro c out s sh
 match m, ih with
 | 0, _ => exact fun r h => by simp [loopG] at h
 | 1, _ => exact fun r h => by simp [loopG] at h
 | m + 2, ih =>
   rw [loopG, show m + 2 + 5000 = (m + 5001) + 1 from rfl, P.mullionref05_parts.l0]
   by_cases hs : s.size = 0
   · rw [if_pos hs]
     exact LeO.none _
   rw [if_neg hs, if_pos (by omega), mullionref05_cell.f, if_neg (by omega), show m + 5001 - 5001 = m by omega]
   refine LeO.bind (LeO.refl _) fun r => ?_
   obtain ⟨l, rest, ok⟩ := r
   simp only [stepW]
   have j1t : P.mullionref05_parts.j1 (m + 5001) sh out l rest true c.f0 c.f1 c.f2 c.f3 c.f4 c.f5 c.f6 = failR := by rw [show m + 5001 = (m + 5000) + 1 from rfl, P.mullionref05_parts.j1, if_pos rfl]; rfl
   cases ok with
   | false =>
     rw [if_pos (.inl rfl), if_neg (by simp), j1t]
     exact LeO.refl _
   | true =>
     rw [if_pos rfl]
     by_cases hr : rest.size = 0
     · have e : rest.toList = [] := by rw [Lib.toList_data]; exact List.eq_nil_of_length_eq_zero (by rw [data_len]; exact hr)
       rw [if_pos (.inr hr), e, show (([] : List UInt8) == []) = true from rfl, j1t]
       exact LeO.refl _
     · have e : (rest.toList == ([] : List UInt8)) = false := by
         cases h : (rest.toList == ([] : List UInt8))
         · rfl
         · have := eq_of_beq h
           rw [Lib.toList_data] at this
           exact absurd (by rw [← data_len, this]; rfl) hr
       rw [if_neg (by simp [hr]), e, show m + 5001 = (m + 5000) + 1 from rfl, P.mullionref05_parts.j1, if_neg (show ¬ (false = true) by simp)]
       by_cases hl : 2513169434916 ≤ out.length + l.length
       · rw [if_pos hl]
         exact LeO.none _
       · rw [if_neg hl, if_pos (show out.length + l.length < 2513169434916 by omega)]
         simp only [Option.bind_some]
         rw [if_pos (show 0 < (rest.size : Int) by omega)]
         refine LeO.ite ?_ (LeO.ite (ih m (by omega) c (out ++ l) rest sh) (LeO.refl _))
         rw [if_pos (show 1 ≤ (rest.size : Int) by omega)]
         exact LeO.refl _
theorem cell_V (K : Nat) (s : ByteArray) (d : Int) : LeO (mullionref05_cell.f K s d) (Y.mullionref05_cellY.f K s d) := by
 unfold mullionref05_cell.f Y.mullionref05_cellY.f
 by_cases hK : K < 5001
 · rw [if_pos hK]
   exact LeO.none _
 rw [if_neg hK]
 obtain ⟨K, rfl⟩ : ∃ m, K = m + 5001 := ⟨K - 5001, by omega⟩
 rw [show K + 5001 - 5001 = K by omega]
 unfold cellW
 refine LeO.bind (number_V _ _ (by omega)) fun t1 => LeO.bind (LeO.refl _) fun u1 => LeO.ite ?_ (LeO.refl _)
 refine LeO.bind (number_V _ _ (by omega)) fun t2 => LeO.bind (LeO.refl _) fun u2 => LeO.ite ?_ (LeO.refl _)
 refine LeO.bind (number_V _ _ (by omega)) fun t3 => LeO.bind (LeO.refl _) fun u3 => LeO.ite ?_ (LeO.refl _)
 refine LeO.bind (number_V _ _ (by omega)) fun t4 => LeO.ite ?_ ?_
 · obtain ⟨n4, s4, o4⟩ := t4
   simp only
   unfold tailW
   rw [show K + 5001 = (K + 5000) + 1 from rfl, Y.mullionref05_cellY.j0]
   by_cases hr : s4.size = 0
   · have e : s4.toList = [] := by rw [Lib.toList_data]; exact List.eq_nil_of_length_eq_zero (by rw [data_len]; exact hr)
     rw [if_pos hr, e, if_pos (show (([] : List UInt8) == []) = true from rfl)]
     exact LeO.refl _
   · have e : (s4.toList == ([] : List UInt8)) = false := by
       cases h : (s4.toList == ([] : List UInt8))
       · rfl
       · have := eq_of_beq h
         rw [Lib.toList_data] at this
         exact absurd (by rw [← data_len, this]; rfl) hr
     rw [if_neg hr, e, if_neg (show ¬ (false = true) by simp), if_pos (show 0 < (s4.size : Int) by omega)]
     refine LeO.ite ?_ (LeO.ite ?_ (LeO.ite ?_ (LeO.refl _)))
     · rw [if_pos (show 1 ≤ (s4.size : Int) by omega)]
       exact LeO.bind (number_V _ _ (by omega)) fun t => LeO.refl _
     · intro r h
       have := parts_V K _ _ _ _ r h
       rw [P.mullionref05_parts.f, this]
       rfl
     · intro r h
       have := parts_V K _ _ _ _ r h
       rw [P.mullionref05_parts.f, this]
       rfl
 · rw [show K + 5001 = (K + 5000) + 1 from rfl, Y.mullionref05_cellY.j0, if_pos rfl]
   exact LeO.refl _
theorem cell_all : ∀ K, CellOK K := by
 intro K
 induction K with
 | zero => exact fun k hk => by omega
 | succ K ih =>
   intro k hk a0 a1 r1 r2 r3 w h
   rcases Nat.lt_or_ge k K with h' | h'
   · exact ih k h' a0 a1 r1 r2 r3 w h
   · obtain rfl : k = K := by omega
     exact Y.mullionref05_cellY.calls k ⟨ih⟩ a0 a1 r1 r2 r3 w (cell_V k a0 a1 _ h)
theorem mullionref05_cell.calls (k : Nat) (a0 : ByteArray) (a1 : Int) (r1 : List S45) (r2 : ByteArray) (r3 : Bool) (w : World) (h : mullionref05_cell.f k a0 a1 = some (r1, r2, r3)) :
   Calls Tryd.prog 32 #[.string a0, .int .i64 a1] w fun e w' => ∃ v0_ : Value, e = .returned (.tuple #[v0_, .string r2, .bool r3]) ∧ Kd.R k45 45 w' w.heap.size (fun _ => True) v0_ r1 ∧ Below w.heap.size w w' :=
 cell_all (k + 1) k (by omega) a0 a1 r1 r2 r3 w h
end Go.Proofs.YtmpnkckaohfflaaDoor.PGiv
end
