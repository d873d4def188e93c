/- The program's lay, walked: the list of cells that a tree is laid down as. No condition but the list's length. -/
import Derived.Test.YtmpnkckaohfflaaDoorGrow
import Derived.Deep.RegionLaw
import Derived.BigRegion
import Derived.Deep.DeepCutAuto
namespace Go.Proofs.YtmpnkckaohfflaaDoor.PGiv
open Go.RowKit Go.Proofs.YtmpnkckaohfflaaDoorW.PrintWords Go.Proofs.YtmpnkckaohfflaaDoorW.PrintLast Go.Proofs.YtmpnkckaohfflaaDoorW.PrintMore Go.Proofs.YtmpnkckaohfflaaDoor.K
set_option linter.unusedVariables false
set_option linter.unusedSimpArgs false

theorem Tr.ind {P : Tr → Prop} (h : ∀ kind W H id kids, (∀ t ∈ kids, P t) → P ⟨kind, W, H, id, kids⟩) : ∀ t, P t :=
  Tr.rec (motive_1 := P) (motive_2 := fun ts => ∀ t ∈ ts, P t) h (fun t ht => by cases ht) (fun t ts ht hts u hu => by
    rcases List.mem_cons.1 hu with rfl | hu
    · exact ht
    · exact hts u hu)
mutual
/-- the cells of a tree that begins there -/
def layT : Tr → Int → Int → Int → List S45
  | ⟨kind, W, H, id, kids⟩, d, x, y => if kind = 1 then [⟨d, 1, x, y, W, H, id⟩] else ⟨d, kind, x, y, W, H, 0⟩ :: layL kind kids (wrap64 (d + 1)) x y
def layL : Int → List Tr → Int → Int → Int → List S45
  | _, [], _, _, _ => []
  | kind, k :: r, d, x, y => layT k d x y ++ layL kind r d (if kind = 2 then wrap64 (x + wrap64 (k.w + 1)) else x) (if kind = 2 then y else wrap64 (y + wrap64 (k.h + 1)))
end
mutual
/-- how many cells -/
def cntT : Tr → Nat
  | ⟨_, _, _, _, kids⟩ => 1 + cntL kids
def cntL : List Tr → Nat
  | [] => 0
  | k :: r => cntT k + cntL r
end
theorem cntT_pos : ∀ t, 1 ≤ cntT t := fun ⟨_, _, _, _, _⟩ => by rw [cntT]; omega
theorem len_cntL : ∀ ks : List Tr, ks.length ≤ cntL ks
  | [] => by simp
  | k :: r => by
    have := len_cntL r
    have := cntT_pos k
    rw [cntL, List.length_cons]
    omega
theorem layL_len : ∀ (ks : List Tr), (∀ t ∈ ks, ∀ d x y, (layT t d x y).length ≤ cntT t) → ∀ kind d x y, (layL kind ks d x y).length ≤ cntL ks
  | [], _, _, _, _, _ => by simp [layL]
  | k :: r, h, kind, d, x, y => by
    have h1 := h k List.mem_cons_self d x y
    have h2 := layL_len r (fun t ht => h t (List.mem_cons_of_mem _ ht)) kind d (if kind = 2 then wrap64 (x + wrap64 (k.w + 1)) else x) (if kind = 2 then y else wrap64 (y + wrap64 (k.h + 1)))
    rw [layL, cntL, List.length_append]
    omega
theorem layT_len : ∀ (t : Tr) (d x y : Int), (layT t d x y).length ≤ cntT t := Tr.ind fun kind W H id kids ih d x y => by
  rw [layT, cntT]
  split
  · simp
  · have := layL_len kids ih kind (wrap64 (d + 1)) x y
    simp
    omega
theorem tree_cells {w : World} {base : Nat} {ok : Nat → Prop} {t : Tr} {tp : TypeId} {b : Nat} (h : kT.M w base ok t [.iface tp (.pointer (some ⟨b, 0, none⟩))]) :
    base ≤ b ∧ ok b ∧ w.cell? ⟨b, 2, none⟩ = some (.int .i64 t.w) ∧ w.cell? ⟨b, 3, none⟩ = some (.int .i64 t.h) ∧
      (∀ W : World, (method 276 tp (.pointer (some ⟨b, 0, none⟩)) "mullion/layout.where").run Tryd.prog W = .ok (118, .pointer (some ⟨b, 0, none⟩)) W) := by
  obtain ⟨tp', b', e, h1, h2, h3, h4, h5⟩ := tree_value h
  injection e with e1 e2
  injection e2 with e2
  injection e2 with e2
  injection e2 with e2
  subst e1 e2
  exact ⟨h1, h2, h3, h4, h5⟩
/-- where a pane's box lies is written -/
theorem pane_moved {w : World} {b base : Nat} {r1 r2 r3 x0 y0 : Value} (x y : Int) (hb : base ≤ b) (h : w.heap[b]? = some (.cells #[x0, y0, r1, r2, r3] 107 (0, 0))) (hx : ∃ i, x0 = .int .i64 i) (hy : ∃ i, y0 = .int .i64 i) :
    ((w.setCell ⟨b, 0, none⟩ (.int .i64 x)).setCell ⟨b, 1, none⟩ (.int .i64 y)).heap[b]? = some (.cells #[.int .i64 x, .int .i64 y, r1, r2, r3] 107 (0, 0)) ∧
    (∀ k : Nat, Alike w.heap[k]? ((w.setCell ⟨b, 0, none⟩ (.int .i64 x)).setCell ⟨b, 1, none⟩ (.int .i64 y)).heap[k]?) ∧ Below base w ((w.setCell ⟨b, 0, none⟩ (.int .i64 x)).setCell ⟨b, 1, none⟩ (.int .i64 y)) := by
  obtain ⟨i, rfl⟩ := hx
  obtain ⟨j, rfl⟩ := hy
  have h1 := blk_put h 0 (.int .i64 x) rfl
  have h2 := blk_put h1 1 (.int .i64 y) rfl
  refine ⟨h2, fun k => ?_, ((Below.refl _ _).setCell hb _).setCell hb _⟩
  by_cases e : k = b
  · subst e
    rw [h, h2]
    exact .inr (.inl ⟨_, _, _, _, _, _, _, rfl, rfl⟩)
  · rw [Below.heap_setCell _ _ _ k e, Below.heap_setCell _ _ _ k e]
    exact .refl _
theorem split_moved {w : World} {b base : Nat} {r1 r2 r3 r4 x0 y0 : Value} (x y : Int) (hb : base ≤ b) (h : w.heap[b]? = some (.cells #[x0, y0, r1, r2, r3, r4] 120 (0, 0))) (hx : ∃ i, x0 = .int .i64 i) (hy : ∃ i, y0 = .int .i64 i) :
    ((w.setCell ⟨b, 0, none⟩ (.int .i64 x)).setCell ⟨b, 1, none⟩ (.int .i64 y)).heap[b]? = some (.cells #[.int .i64 x, .int .i64 y, r1, r2, r3, r4] 120 (0, 0)) ∧
    (∀ k : Nat, Alike w.heap[k]? ((w.setCell ⟨b, 0, none⟩ (.int .i64 x)).setCell ⟨b, 1, none⟩ (.int .i64 y)).heap[k]?) ∧ Below base w ((w.setCell ⟨b, 0, none⟩ (.int .i64 x)).setCell ⟨b, 1, none⟩ (.int .i64 y)) := by
  obtain ⟨i, rfl⟩ := hx
  obtain ⟨j, rfl⟩ := hy
  have h1 := blk_put h 0 (.int .i64 x) rfl
  have h2 := blk_put h1 1 (.int .i64 y) rfl
  refine ⟨h2, fun k => ?_, ((Below.refl _ _).setCell hb _).setCell hb _⟩
  by_cases e : k = b
  · subst e
    rw [h, h2]
    exact .inr (.inr ⟨_, _, _, _, _, _, _, _, rfl, rfl⟩)
  · rw [Below.heap_setCell _ _ _ k e, Below.heap_setCell _ _ _ k e]
    exact .refl _

theorem cell_new (w1 : World) (o : Obj) : (w1.alloc o).drew.heap[w1.heap.size]? = some o ∧ (∀ k : Nat, k < w1.heap.size → (w1.alloc o).drew.heap[k]? = w1.heap[k]?) ∧ (w1.alloc o).drew.heap.size = w1.heap.size + 1 ∧ (∀ B, B ≤ w1.heap.size → Below B w1 (w1.alloc o).drew) := by
  have e : (w1.alloc o).drew.heap = w1.heap.push o := rfl
  refine ⟨by rw [e]; simp, fun k hk => by rw [e, Array.getElem?_push_lt hk, Array.getElem?_eq_getElem hk], by rw [e]; simp, fun B hB => ?_⟩
  exact (Below.refl _ _).trans (((Below.refl B w1).alloc hB o).drew)
/-- what lay leaves: the list is longer, the trees are alike -/
def LayPost (base h0 : Nat) (l' : List S45) (w : World) (e : Ending) (w' : World) : Prop :=
  e = .returned (.tuple #[]) ∧ Below base w w' ∧ (∀ k, k < h0 → Alike w.heap[k]? w'.heap[k]?) ∧ ∃ vs, w'.heap[h0]? = some (.cells #[vs] 22 (0, 0)) ∧ Kd.R k45 45 w' (h0 + 1) (fun _ => True) vs l'

theorem noSplit (b : Nat) (w : World) : (Instr.typeAssert (paneV b) 65 117 true).run Tryd.prog w = .ok (.tuple #[.pointer none, .bool false]) w := by kernel_rfl
theorem isLeaf (b : Nat) (w : World) : (Instr.typeAssert (paneV b) 65 103 false).run Tryd.prog w = .ok (.pointer (some ⟨b, 0, none⟩)) w := by kernel_rfl
theorem isSplit (b : Nat) (w : World) : (Instr.typeAssert (splitV b) 65 117 true).run Tryd.prog w = .ok (.tuple #[.pointer (some ⟨b, 0, none⟩), .bool true]) w := by kernel_rfl
set_option maxHeartbeats 8000000 in
set_option maxRecDepth 100000 in
theorem lay_pane (base h0 b : Nat) (W H id d x y : Int) (l : List S45) (vs : Value) (w : World) (hbase : base ≤ h0) (hbb : base ≤ b) (hbh : b < h0)
    (hp : paneAt w b ⟨1, W, H, id, []⟩) (ho : w.heap[h0]? = some (.cells #[vs] 22 (0, 0))) (hR : Kd.R k45 45 w (h0 + 1) (fun _ => True) vs l) (hl : l.length < 1000000) :
    Calls Tryd.prog 69 #[paneV b, .int .i64 d, .int .i64 x, .int .i64 y, .pointer (some ⟨h0, 0, none⟩)] w fun e w' => LayPost base h0 (l ++ [⟨d, 1, x, y, W, H, id⟩]) w e w' := by
  obtain ⟨x0, y0, hp⟩ := hp
  obtain ⟨M1, M2, M3⟩ := pane_moved x y hbb hp ⟨_, rfl⟩ ⟨_, rfl⟩
  have hx0 : w.cell? ⟨b, 0, none⟩ = some (.int .i64 x0) := (blk_cell hp 0).trans rfl
  have hy0 : w.cell? ⟨b, 1, none⟩ = some (.int .i64 y0) := (blk_cell hp 1).trans rfl
  have hfx : w.frozen? ⟨b, 0, none⟩ = false := blk_frozen hp 0
  have hfy : w.frozen? ⟨b, 1, none⟩ = false := blk_frozen hp 1
  have hme := whereP b
  have hns := noSplit b
  have hil := isLeaf b
  have HP := Lib.hid M1
  have HA := Lib.hid M2
  have HB := Lib.hid M3
  have HO := Lib.hid (((Below.heap_setCell _ ⟨b, 1, none⟩ (.int .i64 y) h0 (by show h0 ≠ b; omega)).trans (Below.heap_setCell w ⟨b, 0, none⟩ (.int .i64 x) h0 (by show h0 ≠ b; omega))).trans ho)
  have HR := Lib.hid (Kd.R_far (p := ⟨b, 1, none⟩) (Kd.R_far (p := ⟨b, 0, none⟩) (Kd.R_mono (Kd.R_bound hR) (fun k hk => (show True ∧ k ≠ b from ⟨trivial, by have := hk.2.1; omega⟩))) (fun k hk => hk.2) (.int .i64 x)) (fun k hk => hk.2) (.int .i64 y))
  clear M1 M2 M3 ho hR hp
  go_enter Tryd.func69, Tryd.ntmps69
  go_wp2
  generalize (w.setCell ⟨b, 0, none⟩ (.int .i64 x)).setCell ⟨b, 1, none⟩ (.int .i64 y) = w1 at HP HA HB HO HR ⊢
  have hb2 : w1.cell? ⟨b, 2, none⟩ = some (.int .i64 W) := (blk_cell HP.out 2).trans rfl
  have hb3 : w1.cell? ⟨b, 3, none⟩ = some (.int .i64 H) := (blk_cell HP.out 3).trans rfl
  clear hx0 hy0 hfx hfy
  have ha2 : ∀ o : Obj, (w1.alloc o).cell? ⟨b, 2, none⟩ = some (.int .i64 W) := fun o => (World.cell?_alloc_lt _ _ _ (blk_lt HP.out)).trans hb2
  have ha3 : ∀ o : Obj, (w1.alloc o).cell? ⟨b, 3, none⟩ = some (.int .i64 H) := fun o => (World.cell?_alloc_lt _ _ _ (blk_lt HP.out)).trans hb3
  go_region
  obtain ⟨N1, N2, N3, N4⟩ := cell_new w1 (.cells #[.int .i64 d, .int .i64 1, .int .i64 x, .int .i64 y, .int .i64 W, .int .i64 H, .int .i64 0] 45 (0, 0))
  generalize (w1.alloc (.cells #[.int .i64 d, .int .i64 1, .int .i64 x, .int .i64 y, .int .i64 W, .int .i64 H, .int .i64 0] 45 (0, 0))).drew = w2 at N1 N2 N3 N4 ⊢
  have hb0 := blk_lt HO.out
  have hbw : b < w1.heap.size := blk_lt HP.out
  have HP2 := Lib.hid ((N2 b hbw).trans HP.out)
  have HO2 := Lib.hid ((N2 h0 hb0).trans HO.out)
  have HR2 := Lib.hid (Kd.R_move (Kd.R_bound HR.out) (fun k hk => N2 k hk.2.2.1))
  have hcb : h0 + 1 ≤ w1.heap.size := hb0
  have hfb : w2.frozen? ⟨w1.heap.size, 6, none⟩ = false := blk_frozen N1 6
  have hcb6 : w2.cell? ⟨w1.heap.size, 6, none⟩ = some (.int .i64 0) := (blk_cell N1 6).trans rfl
  have hb4 : w2.cell? ⟨b, 4, none⟩ = some (.int .i64 id) := (blk_cell HP2.out 4).trans rfl
  have C3 := Lib.hid (blk_put N1 6 (.int .i64 id) rfl)
  have O3 := Lib.hid ((Below.heap_setCell w2 ⟨w1.heap.size, 6, none⟩ (.int .i64 id) h0 (by show h0 ≠ w1.heap.size; omega)).trans HO2.out)
  have R3 := Lib.hid (Kd.R_far (p := ⟨w1.heap.size, 6, none⟩) (Kd.R_mono HR2.out (fun k hk => (show True ∧ k ≠ w1.heap.size from ⟨trivial, by have := hk.2.2.1; omega⟩))) (fun k hk => hk.2) (.int .i64 id))
  have B3 := Lib.hid (((HB.out).trans (N4 base (by omega))).setCell (p := ⟨w1.heap.size, 6, none⟩) (by show base ≤ w1.heap.size; omega) (.int .i64 id))
  have A3 := Lib.hid (fun (k : Nat) (hk : k < h0) => (HA.out k).trans (show Alike w1.heap[k]? (w2.setCell ⟨w1.heap.size, 6, none⟩ (.int .i64 id)).heap[k]? by rw [Below.heap_setCell _ _ _ k (by show k ≠ w1.heap.size; omega), N2 k (by omega)]; exact .refl _))
  clear N1 N2 N3 N4 hb2 hb3 ha2 ha3 HP HA HB HO HR
  go_wp2
  generalize w2.setCell ⟨w1.heap.size, 6, none⟩ (.int .i64 id) = w3 at C3 O3 R3 B3 A3 ⊢
  have hO0 : w3.cell? ⟨h0, 0, none⟩ = some vs := (blk_cell O3.out 0).trans rfl
  have hc0 : w3.cell? ⟨w1.heap.size, 0, none⟩ = some (.int .i64 d) := (blk_cell C3.out 0).trans rfl
  have hc1 : w3.cell? ⟨w1.heap.size, 1, none⟩ = some (.int .i64 1) := (blk_cell C3.out 1).trans rfl
  have hc2 : w3.cell? ⟨w1.heap.size, 2, none⟩ = some (.int .i64 x) := (blk_cell C3.out 2).trans rfl
  have hc3 : w3.cell? ⟨w1.heap.size, 3, none⟩ = some (.int .i64 y) := (blk_cell C3.out 3).trans rfl
  have hc4 : w3.cell? ⟨w1.heap.size, 4, none⟩ = some (.int .i64 W) := (blk_cell C3.out 4).trans rfl
  have hc5 : w3.cell? ⟨w1.heap.size, 5, none⟩ = some (.int .i64 H) := (blk_cell C3.out 5).trans rfl
  have hc6 : w3.cell? ⟨w1.heap.size, 6, none⟩ = some (.int .i64 id) := (blk_cell C3.out 6).trans rfl
  clear hfb hcb6 hb4
  have L3 := Lib.hid (blk_lt C3.out)
  have hOa : ∀ o : Obj, (w3.alloc o).cell? ⟨h0, 0, none⟩ = some vs := fun o => (World.cell?_alloc_lt _ _ _ (blk_lt O3.out)).trans hO0
  go_region_law (refine Kd.R_append_step k45 (w0 := w3.drew) (W := w3.drew) (h0 + 1) (by kernel_rfl) (.tmp 54) (.tmp 56) 22 45 _ 56 rfl Tryd.underlying22 info45 rfl (by decide) (by decide) vs l ⟨d, 1, x, y, W, H, id⟩ _ (fun _ => True) (fun _ => False) rfl rfl (k45_mkM _ _ _ _) (fun _ h => h.elim) (fun _ _ => trivial) (Kd.R_mono (Kd.R_move (w1 := w3.drew) R3.out (fun _ _ => rfl)) (fun _ _ => trivial)) (Below.refl _ _) (by have := L3.out; show h0 + 1 ≤ w3.heap.size; omega) (by omega) ?_; intro v1 w5 r5 hb5 hg5 hat5; obtain ⟨Av, cv, rfl⟩ := Kd.R_slice r5; have O5 := Lib.hid ((hg5.block h0 (blk_lt O3.out) (fun e => by obtain ⟨inner, hown⟩ := Kd.R_own R3.out; exact absurd (own_base hown h0 e.symm) (by omega))).trans O3.out); have hO5 : w5.cell? ⟨h0, 0, none⟩ = some vs := (blk_cell O5.out 0).trans rfl; have hf5 : w5.frozen? ⟨h0, 0, none⟩ = false := blk_frozen O5.out 0; have R5 := Lib.hid r5; have B5 := Lib.hid hb5; clear r5 hb5 hg5 hat5)
  all_goals
    go_wp2
    refine bodyPost_ret (results_none rfl _ _ _) rfl ?_
    refine ⟨rfl, ?_, ?_, _, blk_put O5.out 0 _ rfl, ?_⟩
    · exact ((B3.out.drew).trans (B5.out.mono (by omega))).setCell (p := ⟨h0, 0, none⟩) hbase _
    · intro k hk
      rw [Below.heap_setCell _ _ _ k (by show k ≠ h0; omega), B5.out.block k (by omega)]
      exact A3.out k hk
    · have h5 := R5.out
      rw [List.length_append, List.length_singleton] at h5
      exact Kd.R_mono (Kd.R_far (p := ⟨h0, 0, none⟩) (Kd.R_mono (Kd.R_bound h5) (fun k hk => (show True ∧ k ≠ h0 from ⟨trivial, by have := hk.2.1; omega⟩))) (fun k hk => hk.2) _) (fun _ _ => trivial)

theorem split_again {w w1 : World} {base b : Nat} {ok : Nat → Prop} {t : Tr} {v : Value} (hM : kT.M w base ok t [splitV b]) (hp : splitAt w b t v) (hb : ok b) (ha : ∀ k, ok k → Alike w.heap[k]? w1.heap[k]?) :
    splitAt w1 b t v ∧ kT.R 65 w1 base (fun k => ok k ∧ k ≠ b) v t.kids := by
  obtain ⟨x, y, h1⟩ := splitAt_alike (ha b hb) hp
  rcases kT_open (kT_alike hM ha) with ⟨_, _, b', e, _⟩ | ⟨_, _, b', v', e, _, _, ⟨x', y', h2⟩, hr⟩
  · injection e with e
    injection e with e
    cases e
  · injection e with e
    injection e with _ e
    injection e with e
    injection e with e
    injection e with e
    subst e
    rw [h1] at h2
    injection h2 with h2
    injection h2 with h2 _ _
    simp only [Array.mk.injEq, List.cons.injEq] at h2
    obtain ⟨_, _, _, _, _, e, _⟩ := h2
    subst e
    exact ⟨⟨x, y, h1⟩, hr⟩
theorem kid_at {w : World} {base : Nat} {ok : Nat → Prop} {A : Option Addr} {n c : Nat} {kids : List Tr} (h : kT.R 65 w base ok (.slice A n c) kids) (i : Nat) (hi : i < kids.length) :
    ∃ (g : Nat) (tp : TypeId) (bk : Nat), A = some ⟨g, 0, none⟩ ∧ w.cell? ⟨g, i, none⟩ = some (.iface tp (.pointer (some ⟨bk, 0, none⟩))) ∧ kT.M w base ok (kids[i]) [.iface tp (.pointer (some ⟨bk, 0, none⟩))] := by
  obtain ⟨g, cap, e, _⟩ := Kd.R_form h (by omega)
  injection e with e1 e2 e3
  subst e1 e2 e3
  obtain ⟨cs, hl, hM, hc⟩ := Kd.R_get h kids[i] (i : Int) (by omega) (by omega)
  have hM' : kT.M w base ok kids[i] cs := by
    have h1 := kT.M_mono (ok' := ok) (fun k hk => hk.1) hM
    simpa [List.getD_eq_getElem?_getD, List.getElem?_eq_getElem hi] using h1
  have hl' : cs.length = 1 := hl
  obtain ⟨u, rfl⟩ := List.length_eq_one_iff.1 hl'
  obtain ⟨tp, bk, rfl, _⟩ := tree_value hM'
  refine ⟨g, tp, bk, rfl, ?_, hM'⟩
  have h1 := hc 0 _ rfl
  have e : (⟨g, 0, none⟩ : Addr).add ((i : Int).toNat * kT.sz + 0) = ⟨g, i, none⟩ := by
    rw [add_at]
    have e1 : kT.sz = 1 := rfl
    rw [e1]
    simp
  rwa [e] at h1
set_option maxHeartbeats 16000000 in
set_option maxRecDepth 100000 in
theorem lay_calls (base h0 : Nat) (hbase : base ≤ h0) : ∀ (t : Tr) (d x y : Int) (l : List S45) (vs v : Value) (w : World), kT.M w base (fun k => k < h0) t [v] → w.heap[h0]? = some (.cells #[vs] 22 (0, 0)) →
    Kd.R k45 45 w (h0 + 1) (fun _ => True) vs l → l.length + cntT t ≤ 1000000 →
    Calls Tryd.prog 69 #[v, .int .i64 d, .int .i64 x, .int .i64 y, .pointer (some ⟨h0, 0, none⟩)] w fun e w' => LayPost base h0 (l ++ layT t d x y) w e w' := by
  refine Tr.ind ?_
  intro kind W H id kids ih d x y l vs v w hM ho hR hl
  rcases kT_open hM with ⟨k1, k2, b, e, hbh, hbb, hp⟩ | ⟨k1, k2, b, v', e, hbh, hbb, ⟨x0, y0, hp⟩, hr⟩
  · injection e with e
    subst e
    obtain rfl : kind = 1 := k1
    obtain rfl : kids = [] := k2
    rw [layT, if_pos rfl]
    exact lay_pane base h0 b W H id d x y l vs w hbase hbb hbh hp ho hR (by rw [cntT] at hl; omega)
  · injection e with e
    subst e
    have k1 : kind ≠ 1 := k1
    clear k2
    obtain ⟨A, c, rfl⟩ := Kd.R_slice hr
    have hn : (⟨kind, W, H, id, kids⟩ : Tr).kids.length = kids.length := rfl
    rw [hn] at hp hr
    have hTM := Lib.hid hM
    have hTP := Lib.hid (show splitAt w b ⟨kind, W, H, id, kids⟩ (.slice A kids.length c) from ⟨x0, y0, hp⟩)
    have IH := Lib.hid ih
    have HL := Lib.hid hl
    obtain ⟨M1, M2, M3⟩ := split_moved x y hbb hp ⟨_, rfl⟩ ⟨_, rfl⟩
    have hx0 : w.cell? ⟨b, 0, none⟩ = some (.int .i64 x0) := (blk_cell hp 0).trans rfl
    have hy0 : w.cell? ⟨b, 1, none⟩ = some (.int .i64 y0) := (blk_cell hp 1).trans rfl
    have hfx : w.frozen? ⟨b, 0, none⟩ = false := blk_frozen hp 0
    have hfy : w.frozen? ⟨b, 1, none⟩ = false := blk_frozen hp 1
    have hme := whereS b
    have his := isSplit b
    have HP := Lib.hid M1
    have HA := Lib.hid M2
    have HB := Lib.hid M3
    have HO := Lib.hid (((Below.heap_setCell _ ⟨b, 1, none⟩ (.int .i64 y) h0 (by show h0 ≠ b; omega)).trans (Below.heap_setCell w ⟨b, 0, none⟩ (.int .i64 x) h0 (by show h0 ≠ b; omega))).trans ho)
    have HR := Lib.hid (Kd.R_far (p := ⟨b, 1, none⟩) (Kd.R_far (p := ⟨b, 0, none⟩) (Kd.R_mono (Kd.R_bound hR) (fun k hk => (show True ∧ k ≠ b from ⟨trivial, by have := hk.2.1; omega⟩))) (fun k hk => hk.2) (.int .i64 x)) (fun k hk => hk.2) (.int .i64 y))
    clear M1 M2 M3 ho hR hp hM hr ih hl
    go_enter Tryd.func69, Tryd.ntmps69
    go_wp2
    generalize (w.setCell ⟨b, 0, none⟩ (.int .i64 x)).setCell ⟨b, 1, none⟩ (.int .i64 y) = w1 at HP HA HB HO HR ⊢
    have hb2 : w1.cell? ⟨b, 2, none⟩ = some (.int .i64 W) := (blk_cell HP.out 2).trans rfl
    have hb3 : w1.cell? ⟨b, 3, none⟩ = some (.int .i64 H) := (blk_cell HP.out 3).trans rfl
    clear hx0 hy0 hfx hfy
    have ha2 : ∀ o : Obj, (w1.alloc o).cell? ⟨b, 2, none⟩ = some (.int .i64 W) := fun o => (World.cell?_alloc_lt _ _ _ (blk_lt HP.out)).trans hb2
    have ha3 : ∀ o : Obj, (w1.alloc o).cell? ⟨b, 3, none⟩ = some (.int .i64 H) := fun o => (World.cell?_alloc_lt _ _ _ (blk_lt HP.out)).trans hb3
    go_region
    obtain ⟨N1, N2, N3, N4⟩ := cell_new w1 (.cells #[.int .i64 d, .int .i64 1, .int .i64 x, .int .i64 y, .int .i64 W, .int .i64 H, .int .i64 0] 45 (0, 0))
    generalize (w1.alloc (.cells #[.int .i64 d, .int .i64 1, .int .i64 x, .int .i64 y, .int .i64 W, .int .i64 H, .int .i64 0] 45 (0, 0))).drew = w2 at N1 N2 N3 N4 ⊢
    have hb0 := blk_lt HO.out
    have hbw : b < w1.heap.size := blk_lt HP.out
    have HP2 := Lib.hid ((N2 b hbw).trans HP.out)
    have HO2 := Lib.hid ((N2 h0 hb0).trans HO.out)
    have HR2 := Lib.hid (Kd.R_move (Kd.R_bound HR.out) (fun k hk => N2 k hk.2.2.1))
    have hcb : h0 + 1 ≤ w1.heap.size := hb0
    have hfb : w2.frozen? ⟨w1.heap.size, 1, none⟩ = false := blk_frozen N1 1
    have hcb6 : w2.cell? ⟨w1.heap.size, 1, none⟩ = some (.int .i64 1) := (blk_cell N1 1).trans rfl
    have hb4 : w2.cell? ⟨b, 4, none⟩ = some (.int .i64 kind) := (blk_cell HP2.out 4).trans rfl
    have C3 := Lib.hid (blk_put N1 1 (.int .i64 kind) rfl)
    have O3 := Lib.hid ((Below.heap_setCell w2 ⟨w1.heap.size, 1, none⟩ (.int .i64 kind) h0 (by show h0 ≠ w1.heap.size; omega)).trans HO2.out)
    have R3 := Lib.hid (Kd.R_far (p := ⟨w1.heap.size, 1, none⟩) (Kd.R_mono HR2.out (fun k hk => (show True ∧ k ≠ w1.heap.size from ⟨trivial, by have := hk.2.2.1; omega⟩))) (fun k hk => hk.2) (.int .i64 kind))
    have B3 := Lib.hid (((HB.out).trans (N4 base (by omega))).setCell (p := ⟨w1.heap.size, 1, none⟩) (by show base ≤ w1.heap.size; omega) (.int .i64 kind))
    have A3 := Lib.hid (fun (k : Nat) (hk : k < h0) => (HA.out k).trans (show Alike w1.heap[k]? (w2.setCell ⟨w1.heap.size, 1, none⟩ (.int .i64 kind)).heap[k]? by rw [Below.heap_setCell _ _ _ k (by show k ≠ w1.heap.size; omega), N2 k (by omega)]; exact .refl _))
    clear N1 N2 N3 N4 hb2 hb3 ha2 ha3 HP HA HB HO HR
    go_wp2
    generalize w2.setCell ⟨w1.heap.size, 1, none⟩ (.int .i64 kind) = w3 at C3 O3 R3 B3 A3 ⊢
    have hO0 : w3.cell? ⟨h0, 0, none⟩ = some vs := (blk_cell O3.out 0).trans rfl
    have hc0 : w3.cell? ⟨w1.heap.size, 0, none⟩ = some (.int .i64 d) := (blk_cell C3.out 0).trans rfl
    have hc1 : w3.cell? ⟨w1.heap.size, 1, none⟩ = some (.int .i64 kind) := (blk_cell C3.out 1).trans rfl
    have hc2 : w3.cell? ⟨w1.heap.size, 2, none⟩ = some (.int .i64 x) := (blk_cell C3.out 2).trans rfl
    have hc3 : w3.cell? ⟨w1.heap.size, 3, none⟩ = some (.int .i64 y) := (blk_cell C3.out 3).trans rfl
    have hc4 : w3.cell? ⟨w1.heap.size, 4, none⟩ = some (.int .i64 W) := (blk_cell C3.out 4).trans rfl
    have hc5 : w3.cell? ⟨w1.heap.size, 5, none⟩ = some (.int .i64 H) := (blk_cell C3.out 5).trans rfl
    have hc6 : w3.cell? ⟨w1.heap.size, 6, none⟩ = some (.int .i64 0) := (blk_cell C3.out 6).trans rfl
    clear hfb hcb6 hb4
    have L3 := Lib.hid (blk_lt C3.out)
    have hOa : ∀ o : Obj, (w3.alloc o).cell? ⟨h0, 0, none⟩ = some vs := fun o => (World.cell?_alloc_lt _ _ _ (blk_lt O3.out)).trans hO0
    go_cut [70] (fun sv wx => Aside0 (wx.heap[h0]? = some (.cells #[sv] 22 (0, 0))) ∧ Aside0 (Kd.R k45 45 wx (h0 + 1) (fun _ => True) sv (l ++ [⟨d, kind, x, y, W, H, 0⟩])) ∧ Aside0 (Below base w wx) ∧ Aside0 (∀ k, k < h0 → Alike w.heap[k]? wx.heap[k]?))
    case first =>
      go_region_law (refine Kd.R_append_step k45 (w0 := w3.drew) (W := w3.drew) (h0 + 1) (by kernel_rfl) (.tmp 67) (.tmp 69) 22 45 _ 56 rfl Tryd.underlying22 info45 rfl (by decide) (by decide) vs l ⟨d, kind, x, y, W, H, 0⟩ _ (fun _ => True) (fun _ => False) rfl rfl (k45_mkM _ _ _ _) (fun _ h => h.elim) (fun _ _ => trivial) (Kd.R_mono (Kd.R_move (w1 := w3.drew) R3.out (fun _ _ => rfl)) (fun _ _ => trivial)) (Below.refl _ _) (by have := L3.out; show h0 + 1 ≤ w3.heap.size; omega) (by have := HL.out; omega) ?_; intro v1 w5 r5 hb5 hg5 hat5; obtain ⟨Av, cv, rfl⟩ := Kd.R_slice r5; have O5 := Lib.hid ((hg5.block h0 (blk_lt O3.out) (fun e => by obtain ⟨inner, hown⟩ := Kd.R_own R3.out; exact absurd (own_base hown h0 e.symm) (by omega))).trans O3.out); have hO5 : w5.cell? ⟨h0, 0, none⟩ = some vs := (blk_cell O5.out 0).trans rfl; have hf5 : w5.frozen? ⟨h0, 0, none⟩ = false := blk_frozen O5.out 0; have R5 := Lib.hid r5; have B5 := Lib.hid hb5; clear r5 hb5 hg5 hat5)
      all_goals
        go_wp2_with fail
        go_meet
        refine ⟨⟨blk_put O5.out 0 _ rfl⟩, ⟨?_⟩, ⟨?_⟩, ⟨?_⟩⟩
        · have h5 := R5.out
          rw [List.length_append, List.length_singleton] at h5
          exact Kd.R_mono (Kd.R_far (p := ⟨h0, 0, none⟩) (Kd.R_mono (Kd.R_bound h5) (fun k hk => (show True ∧ k ≠ h0 from ⟨trivial, by have := hk.2.1; omega⟩))) (fun k hk => hk.2) _) (fun _ _ => trivial)
        · exact ((B3.out.drew).trans (B5.out.mono (by omega))).setCell (p := ⟨h0, 0, none⟩) hbase _
        · intro k hk
          rw [Below.heap_setCell _ _ _ k (by show k ≠ h0; omega), B5.out.block k (by omega)]
          exact A3.out k hk
    case rest =>
      obtain ⟨O5, R5, B5, A5⟩ := hcut
      clear hO0 hc0 hc1 hc2 hc3 hc4 hc5 hc6 L3 hOa C3 O3 R3 B3 A3 HP2 HO2 HR2 hcb hbw hb0
      obtain ⟨⟨x5, y5, S5⟩, _⟩ := split_again hTM.out hTP.out hbh (fun k hk => A5.out k hk)
      have hk5 : wc.cell? ⟨b, 5, none⟩ = some (.slice A kids.length c) := (blk_cell S5 5).trans rfl
      go_wp2
      go_loopg [2, 3, 77] kids.length (fun kq xv yv iv wr => ∃ (i : Nat) (xi yi : Int) (L : List S45) (us : Value), xv = .int .i64 xi ∧ yv = .int .i64 yi ∧ iv = .int .i64 (i : Int) ∧ Aside0 (i + kq = kids.length) ∧
        Aside0 (L ++ layL kind (kids.drop i) (wrap64 (d + 1)) xi yi = l ++ layT ⟨kind, W, H, id, kids⟩ d x y) ∧ Aside0 (L.length + cntL (kids.drop i) ≤ 1000000) ∧
        Aside0 (wr.heap[h0]? = some (.cells #[us] 22 (0, 0))) ∧ Aside0 (Kd.R k45 45 wr (h0 + 1) (fun _ => True) us L) ∧ Aside0 (Below base w wr) ∧ Aside0 (∀ k, k < h0 → Alike w.heap[k]? wr.heap[k]?))
      case atStart =>
        refine ⟨0, x, y, l ++ [⟨d, kind, x, y, W, H, 0⟩], _, rfl, rfl, rfl, ⟨by simp⟩, ⟨?_⟩, ⟨?_⟩, O5, R5, B5, A5⟩
        · rw [layT, if_neg k1]
          simp
        · have := HL.out
          rw [cntT] at this
          simp
          omega
      case round =>
        obtain ⟨i, xi, yi, L, us, rfl, rfl, rfl, RI, RL, RN, RO, RR, RB, RA⟩ := hrel
        cases gk with
        | zero =>
          have hi : i = kids.length := RI.out
          subst hi
          have hlt : ¬ (kids.length : Int) < (kids.length : Int) := by omega
          go_wp2
          refine bodyPost_ret (results_none rfl _ _ _) rfl ?_
          have h := RL.out
          rw [List.drop_length, layL, List.append_nil] at h
          rw [← h]
          exact ⟨rfl, RB.out, RA.out, us, RO.out, RR.out⟩
        | succ gk =>
          have hi : i < kids.length := by have := RI.out; omega
          have hlt : (i : Int) < (kids.length : Int) := by omega
          have hw1 := Lib.hid (show wrap64 ((i : Int) + 1) = ((i + 1 : Nat) : Int) by
            have := HL.out
            have := len_cntL kids
            rw [cntT] at *
            exact (IntWalk.wrap64_in _ (by omega)).trans (by omega))
          obtain ⟨S6, r6⟩ := split_again hTM.out hTP.out hbh (fun k hk => RA.out k hk)
          obtain ⟨g, tp, bk, rfl, hcell, hkM⟩ := kid_at r6 i hi
          have hdr : kids.drop i = kids[i] :: kids.drop (i + 1) := List.drop_eq_getElem_cons hi
          have KM := Lib.hid (kT.M_mono (ok' := fun k => k < h0) (fun k hk => hk.1) hkM)
          have hn0 : L.length + cntT kids[i] ≤ 1000000 := by have := RN.out; rw [hdr, cntL] at this; omega
          have HI := Lib.hid (IH.out kids[i] (List.getElem_mem hi) (wrap64 (d + 1)) xi yi L us _ wr KM.out RO.out RR.out hn0)
          have hdr := Lib.hid hdr
          clear S6 r6 hkM hn0
          go_wp2_with (go_at_call 69; refine (HI.out).mono ?_)
          rintro e w6 ⟨rfl, B6, A6, vs6, O6, R6⟩
          have A7 : ∀ k, k < h0 → Alike w.heap[k]? w6.heap[k]? := fun k hk => (RA.out k hk).trans (A6 k hk)
          obtain ⟨⟨x7, y7, S7⟩, _⟩ := split_again hTM.out hTP.out hbh A7
          obtain ⟨_, _, hw2, hh3, hmk⟩ := tree_cells (kT_alike KM.out A6)
          have hb4 : w6.cell? ⟨b, 4, none⟩ = some (.int .i64 kind) := (blk_cell S7 4).trans rfl
          have F6 := Lib.hid (And.intro B6 (And.intro A7 (And.intro O6 R6)))
          clear A6 B6 A7 O6 R6 S7
          have REL : ∀ xn yn : Int, xn = (if kind = 2 then wrap64 (xi + wrap64 (kids[i].w + 1)) else xi) → yn = (if kind = 2 then yi else wrap64 (yi + wrap64 (kids[i].h + 1))) →
              (L ++ layT kids[i] (wrap64 (d + 1)) xi yi) ++ layL kind (kids.drop (i + 1)) (wrap64 (d + 1)) xn yn = l ++ layT ⟨kind, W, H, id, kids⟩ d x y := by
            rintro xn yn rfl rfl
            have h := RL.out
            rw [hdr.out, layL] at h
            rw [List.append_assoc]
            exact h
          have REL := Lib.hid REL
          by_cases hk2 : kind = 2
          · have hk2' : (kind == 2) = true := beq_iff_eq.mpr hk2
            go_wp2
            go_roundg gk
            case measure => omega
            case rel =>
              refine ⟨i + 1, _, _, _, vs6, rfl, rfl, congrArg (Value.int .i64) hw1.out, ⟨by have := RI.out; omega⟩, ⟨REL.out _ _ (by rw [if_pos hk2]) (by rw [if_pos hk2])⟩, ⟨?_⟩, ⟨F6.out.2.2.1⟩, ⟨F6.out.2.2.2⟩, ⟨RB.out.trans F6.out.1⟩, ⟨F6.out.2.1⟩⟩
              have h1 := RN.out
              have h2 := layT_len kids[i] (wrap64 (d + 1)) xi yi
              rw [hdr.out, cntL] at h1
              rw [List.length_append]
              omega
          · have hk2' : (kind == 2) = false := beq_eq_false_iff_ne.mpr hk2
            go_wp2
            go_roundg gk
            case measure => omega
            case rel =>
              refine ⟨i + 1, _, _, _, vs6, rfl, rfl, congrArg (Value.int .i64) hw1.out, ⟨by have := RI.out; omega⟩, ⟨REL.out _ _ (by rw [if_neg hk2]) (by rw [if_neg hk2])⟩, ⟨?_⟩, ⟨F6.out.2.2.1⟩, ⟨F6.out.2.2.2⟩, ⟨RB.out.trans F6.out.1⟩, ⟨F6.out.2.1⟩⟩
              have h1 := RN.out
              have h2 := layT_len kids[i] (wrap64 (d + 1)) xi yi
              rw [hdr.out, cntL] at h1
              rw [List.length_append]
              omega
end Go.Proofs.YtmpnkckaohfflaaDoor.PGiv
