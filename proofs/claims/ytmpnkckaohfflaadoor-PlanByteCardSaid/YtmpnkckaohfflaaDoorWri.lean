/- strings.Builder in the field of a plan.writer, walked: what WriteString, WriteByte, String do there. The text's length is below Go's own limit. -/
import Derived.Test.YtmpnkckaohfflaaDoorK1
import Derived.WalkKit
import Derived.BigCall
import Derived.Lib.Hide
import Derived.Lib.Builder
import Derived.Lib.AppendStr
import Derived.Lib.UnsafeStr
import Derived.Lib.OthersKept
namespace Go.Proofs.YtmpnkckaohfflaaDoor.PGiv
open Go.RowKit Go.Proofs.YtmpnkckaohfflaaDoorW.PrintWords Go.Proofs.YtmpnkckaohfflaaDoorW.PrintLast Go.Proofs.YtmpnkckaohfflaaDoorW.PrintMore Go.Proofs.YtmpnkckaohfflaaDoor.K
set_option linter.unusedVariables false
set_option linter.unusedSimpArgs false

/-- a writer's block: the list, the place, the builder's two cells -/
def WrBlk (b : Nat) (sl : Value) (n : Int) (p v : Value) (w : World) : Prop := w.heap[b]? = some (.cells #[sl, .int .i64 n, p, v] 53 (0, 0))
abbrev bdr (b : Nat) : Value := .pointer (some ⟨b, 2, none⟩)
/-- .. and what its builder holds -/
def WrAt (b : Nat) (sl : Value) (n : Int) (txt : List UInt8) (w : World) : Prop := ∃ p v, (p = .pointer none ∨ p = bdr b) ∧ WrBlk b sl n p v w ∧ w.ownsRow (b + 1) 5 1 v txt.length (Lib.byteCells txt)
theorem sizeB : (Tryd.prog.info? 51).map (·.size) = some 2 := by kernel_rfl
theorem liesB : liesAt Tryd.prog Tryd.prog.depth 53 (4 / Tryd.prog.cellsOf 53) 2 51 1 = true := by kernel_rfl
theorem info_u8 : (Tryd.prog.info? 5).map (fun i => (i.zero, i.size, i.bytes)) = some (some (.int .u8 0), 1, 1) := by kernel_rfl

set_option maxHeartbeats 1000000 in
set_option maxRecDepth 100000 in
theorem wcopy_used (b : Nat) (sl : Value) (n : Int) (v : Value) (w : World) (h : WrBlk b sl n (bdr b) v w) :
    Calls Tryd.prog 61 #[bdr b] w fun e w' => e = .returned (.tuple #[]) ∧ w' = w := by
  obtain ⟨j, hj, _⟩ := Option.map_eq_some_iff.1 sizeB
  have h0 : w.cell? ⟨b, 2, none⟩ = some (bdr b) := (blk_cell h 2).trans rfl
  go_enter Tryd.func61, Tryd.ntmps61
  go_wp2
  rw [Lib.run_neq_ptr_same w _ Tryd.underlying49 hj]
  go_wp2
  go_end0
  exact ⟨rfl, rfl⟩
set_option maxHeartbeats 1000000 in
set_option maxRecDepth 100000 in
theorem wcopy_fresh (b : Nat) (sl : Value) (n : Int) (v : Value) (w : World) (h : WrBlk b sl n (.pointer none) v w) :
    Calls Tryd.prog 61 #[bdr b] w fun e w' => e = .returned (.tuple #[]) ∧ w' = w.setCell ⟨b, 2, none⟩ (bdr b) := by
  obtain ⟨j, hj, hjs⟩ := Option.map_eq_some_iff.1 sizeB
  have h0 : w.cell? ⟨b, 2, none⟩ = some (.pointer none) := (blk_cell h 2).trans rfl
  have hfz : w.frozen? ⟨b, 2, none⟩ = false := blk_frozen h 2
  have hsh : w.shape? b = some (53, 4) := by
    have h' : w.heap[b]? = some (.cells #[sl, .int .i64 n, .pointer none, v] 53 (0, 0)) := h
    simp [World.shape?, h']
  go_enter Tryd.func61, Tryd.ntmps61
  go_wp2
  rw [Lib.run_to_unsafe w ⟨b, 2, none⟩ Tryd.underlying49 Tryd.underlying128 hj (by rw [hjs]; decide) hsh (by show 2 < 4; omega)]
  simp only [Result.andThen]
  rw [Oper.upon_value]
  go_wp2
  rw [run_callFunc_extern Tryd.func72 (by kernel_rfl) (by kernel_rfl) (by kernel_rfl) (e := Extern.AbiNoEscape.same) (by kernel_rfl)]
  rw [Lib.run_noEscape]
  simp only [Result.andThen]
  rw [Oper.upon_value]
  go_wp2
  rw [Lib.run_from_unsafe w ⟨b, 2, none⟩ Tryd.underlying128 Tryd.underlying49 hj hsh liesB]
  simp only [Result.andThen]
  rw [Oper.upon_value]
  go_wp2
  go_end0
  exact ⟨rfl, rfl⟩
theorem wcopy (b : Nat) (sl : Value) (n : Int) (txt : List UInt8) (w : World) (h : WrAt b sl n txt w) :
    Calls Tryd.prog 61 #[bdr b] w fun e w' => e = .returned (.tuple #[]) ∧ (∃ v, WrBlk b sl n (bdr b) v w' ∧ w'.ownsRow (b + 1) 5 1 v txt.length (Lib.byteCells txt)) ∧ Below b w w' ∧ Lib.OthersKept 5 (some b) w w' := by
  obtain ⟨p, v, rfl | rfl, hb, ho⟩ := h
  · refine (wcopy_fresh b sl n v w hb).mono ?_
    rintro e w' ⟨rfl, rfl⟩
    refine ⟨rfl, ⟨v, blk_put hb 2 (bdr b) rfl, own_move ho (fun k hk => ?_)⟩, (Below.refl _ _).setCell (p := ⟨b, 2, none⟩) (Nat.le_refl _) _, (Lib.OthersKept.refl _ _ _).setCell ⟨b, 2, none⟩ rfl _⟩
    exact Below.heap_setCell _ _ _ k (by have := own_base ho k hk; show k ≠ b; omega)
  · refine (wcopy_used b sl n v w hb).mono ?_
    rintro e w' ⟨rfl, rfl⟩
    exact ⟨rfl, ⟨v, hb, ho⟩, Below.refl _ _, Lib.OthersKept.refl _ _ _⟩

set_option maxHeartbeats 2000000 in
set_option maxRecDepth 100000 in
/-- WriteString -/
theorem wstr (b : Nat) (sl : Value) (n : Int) (txt : List UInt8) (s : ByteArray) (w : World) (h : WrAt b sl n txt w) (hlen : txt.length + s.size ≤ 140737488355328) :
    Calls Tryd.prog 37 #[bdr b, .string s] w fun e w' => e = .returned (.tuple #[.int .i64 s.size, .nilIface]) ∧ WrAt b sl n (txt ++ s.data.toList) w' ∧ Below b w w' ∧ Lib.OthersKept 5 (some b) w w' := by
  obtain ⟨i0, hi, hz⟩ := Option.map_eq_some_iff.1 info_u8
  simp only [Prod.mk.injEq] at hz
  obtain ⟨hz0, hz1, hz2⟩ := hz
  have HW := Lib.hid (wcopy b sl n txt w h)
  go_enter Tryd.func37, Tryd.ntmps37
  go_wp2_with (go_at_call 61; refine (HW.out).mono ?_)
  rintro e w1 ⟨rfl, ⟨v, hbk, hown⟩, hb1, hk1⟩
  have c1 : w1.cell? ⟨b, 3, none⟩ = some v := (blk_cell hbk 3).trans rfl
  have hbn : b < w1.heap.size := blk_lt hbk
  go_wp2_with (at_builtin; refine Lib.wpList_append_own_string _ rfl _ _ 37 9 rfl (b + 1) 5 i0 Tryd.underlying37 Tryd.underlying9 hi hz0 hz1 hz2 _ _ _ rfl hown s rfl ?c3 ?c4 ?c5 ?_)
  case c3 => unfold maxLen; omega
  case c4 => omega
  case c5 => omega
  intro v' w2 hown' hgrow _
  have hne : some b ≠ v.ownBlock := fun e => by have := own_base hown b e.symm; omega
  have hb2 : WrBlk b sl n (bdr b) v w2 := (hgrow.block b hbn hne).trans hbk
  have d1 : w2.cell? ⟨b, 3, none⟩ = some v := (blk_cell hb2 3).trans rfl
  have f1 : w2.frozen? ⟨b, 3, none⟩ = false := blk_frozen hb2 3
  obtain ⟨ao, n', cap, rfl⟩ : ∃ ao n' cap, v' = .slice ao n' cap := by
    rcases hown'.2 with ⟨hv, _⟩ | ⟨g, cap, cur, hv, _⟩
    · exact ⟨_, _, _, hv⟩
    · exact ⟨_, _, _, hv⟩
  have F := Lib.hid (And.intro hbk (And.intro hown (And.intro hb1 (And.intro hk1 (And.intro hown' hgrow)))))
  clear hbk hown hb1 hk1 hown' hgrow hne
  go_wp2
  go_ret2
  obtain ⟨hbk, hown, hb1, hk1, hown', hgrow⟩ := F.out
  refine ⟨rfl, ⟨bdr b, _, .inr rfl, blk_put hb2 3 _ rfl, ?_⟩, ?_, ?_⟩
  · have := own_move (w1 := w2.setCell ⟨b, 3, none⟩ (.slice ao n' cap)) hown' (fun k hk => Below.heap_setCell _ _ _ k (by have := own_base hown' k hk; show k ≠ b; omega))
    simpa [Lib.byteCells, Lib.strCells] using this
  · exact (hb1.grown hgrow (Nat.le_of_lt hbn) (fun k hk => by have := own_base hown k hk; omega)).setCell (p := ⟨b, 3, none⟩) (Nat.le_refl _) _
  · refine (hk1.grown hgrow (fun g hg => ?_)).setCell ⟨b, 3, none⟩ rfl _
    obtain ⟨cells, hc⟩ := own_typed hown g hg
    exact ⟨cells, _, hc⟩

set_option maxHeartbeats 2000000 in
set_option maxRecDepth 100000 in
/-- WriteByte -/
theorem wbyte (b : Nat) (sl : Value) (n : Int) (txt : List UInt8) (c : UInt8) (w : World) (h : WrAt b sl n txt w) (hlen : txt.length + 1 ≤ 140737488355328) :
    Calls Tryd.prog 39 #[bdr b, .int .u8 c.toNat] w fun e w' => e = .returned .nilIface ∧ WrAt b sl n (txt ++ [c]) w' ∧ Below b w w' ∧ Lib.OthersKept 5 (some b) w w' := by
  obtain ⟨i0, hi, hz⟩ := Option.map_eq_some_iff.1 info_u8
  simp only [Prod.mk.injEq] at hz
  obtain ⟨hz0, hz1, hz2⟩ := hz
  have HW := Lib.hid (wcopy b sl n txt w h)
  go_enter Tryd.func39, Tryd.ntmps39
  go_wp2_with (go_at_call 61; refine (HW.out).mono ?_)
  rintro e w1 ⟨rfl, ⟨v, hbk, hown⟩, hb1, hk1⟩
  have c1 : w1.cell? ⟨b, 3, none⟩ = some v := (blk_cell hbk 3).trans rfl
  have hbn : b < w1.heap.size := blk_lt hbk
  go_wp2_with (at_builtin; refine wpList_append_own _ rfl _ _ 37 rfl (b + 1) 5 i0 (.int .u8 0) 1 1 Tryd.underlying37 hi hz0 hz1 hz2 rfl (by decide) _ _ _ rfl (own_move hown (fun k hk => Below.heap_alloc _ _ k (own_lt hown k hk))) ⟨w1.heap.size, 0, none⟩ 1 1 [.int .u8 c.toNat] rfl rfl ?c1 ?c2 ?c3 ?c4 ?c5 ?_)
  case c1 =>
    intro j u hj
    match j, hj with
    | 0, hj => simp at hj; subst hj; simp [Addr.add]
  case c2 => intro u hu; simp at hu; subst hu; rfl
  case c3 => unfold maxLen; omega
  case c4 => omega
  case c5 => simp; omega
  intro v' w2 hown' hgrow _
  have hne : some b ≠ v.ownBlock := fun e => by have := own_base hown b e.symm; omega
  have hb2 : WrBlk b sl n (bdr b) v w2 := (hgrow.block b (by simp; omega) hne).trans ((Below.heap_alloc _ _ b hbn).trans hbk)
  have d1 : w2.cell? ⟨b, 3, none⟩ = some v := (blk_cell hb2 3).trans rfl
  have f1 : w2.frozen? ⟨b, 3, none⟩ = false := blk_frozen hb2 3
  obtain ⟨ao, n', cap, rfl⟩ : ∃ ao n' cap, v' = .slice ao n' cap := by
    rcases hown'.2 with ⟨hv, _⟩ | ⟨g, cap, cur, hv, _⟩
    · exact ⟨_, _, _, hv⟩
    · exact ⟨_, _, _, hv⟩
  have F := Lib.hid (And.intro hbk (And.intro hown (And.intro hb1 (And.intro hk1 (And.intro hown' hgrow)))))
  clear hbk hown hb1 hk1 hown' hgrow hne
  go_wp2
  go_ret
  obtain ⟨hbk, hown, hb1, hk1, hown', hgrow⟩ := F.out
  refine ⟨rfl, ⟨bdr b, _, .inr rfl, blk_put hb2 3 _ rfl, ?_⟩, ?_, ?_⟩
  · have := own_move (w1 := w2.setCell ⟨b, 3, none⟩ (.slice ao n' cap)) hown' (fun k hk => Below.heap_setCell _ _ _ k (by have := own_base hown' k hk; show k ≠ b; omega))
    simpa [Lib.byteCells] using this
  · exact ((hb1.alloc (Nat.le_of_lt hbn) _).grown hgrow (by simp; omega) (fun k hk => by have := own_base hown k hk; omega)).setCell (p := ⟨b, 3, none⟩) (Nat.le_refl _) _
  · refine ((hk1.alloc _).grown hgrow (fun g hg => ?_)).setCell ⟨b, 3, none⟩ rfl _
    obtain ⟨cells, hc⟩ := own_typed hown g hg
    exact ⟨cells, _, (Below.heap_alloc _ _ g (own_lt hown g hg)).trans hc⟩

set_option maxHeartbeats 1000000 in
set_option maxRecDepth 100000 in
/-- String, of a builder that holds something -/
theorem wtext (b : Nat) (sl : Value) (n : Int) (l : List UInt8) (w : World) (h : WrAt b sl n l w) (h0 : l ≠ []) :
    Calls Tryd.prog 23 #[bdr b] w fun e w' => e = .returned (.string ⟨l.toArray⟩) ∧ Below b w w' := by
  obtain ⟨p, v, _, hbk, hown⟩ := h
  have hl0 : l.length ≠ 0 := by simpa using h0
  obtain ⟨g, cap, cur, rfl, hbg, hg, hnc, hcm, hcs, htake⟩ : ∃ g cap cur, v = .slice (some ⟨g, 0, none⟩) l.length cap ∧ b + 1 ≤ g ∧ w.heap[g]? = some (.cells cur 5 (0, 0)) ∧ l.length ≤ cap ∧ cap ≤ maxLen ∧ cur.size = cap * 1 ∧ cur.toList.take (l.length * 1) = Lib.byteCells l := by
    rcases hown.2 with ⟨_, hz⟩ | ⟨g, cap, cur, hv, r⟩
    · exact absurd hz hl0
    · exact ⟨g, cap, cur, hv, r⟩
  have c1 : w.drew.cell? ⟨b, 3, none⟩ = some (.slice (some ⟨g, 0, none⟩) l.length cap) := by
    have : w.drew.heap[b]? = some (.cells #[sl, .int .i64 n, p, .slice (some ⟨g, 0, none⟩) l.length cap] 53 (0, 0)) := hbk
    rw [Lib.cell_of_heap this]; rfl
  have hSD : (Builtin.unsafeSliceData_ #[37] 80 #[.slice (some ⟨g, 0, none⟩) l.length cap]).run Tryd.prog w.drew = .ok (.pointer (some ⟨g, 0, none⟩)) w.drew :=
    Lib.run_unsafeSliceData_row _ _ _ _ _ _ (by omega)
  have hUS : (Builtin.unsafeString_ #[80, 3] 9 #[.pointer (some ⟨g, 0, none⟩), .int .i64 l.length]).run Tryd.prog w.drew = .ok (.string ⟨l.toArray⟩) (w.drew.freeze ⟨g, 0, none⟩ l.length) := by
    refine Lib.run_unsafeString_row w.drew 80 3 9 5 Tryd.underlying80 (by kernel_rfl) g cur.size (by have hg' : w.drew.heap[g]? = some (.cells cur 5 (0, 0)) := hg; simp [World.shape?, hg']) l h0 (by omega) (by unfold maxLen at hcm; omega) ?_
    intro j x hx
    have := hown.cells (g := g) rfl j (.int .u8 x.toNat) (by simp [Lib.byteCells, hx])
    exact this
  go_enter Tryd.func23, Tryd.ntmps23
  go_wp2
  go_region
  all_goals (go_wp2; go_ret; exact ⟨rfl, Lib.below_freeze (Below.drew (Below.refl b w)) (p := ⟨g, 0, none⟩) (by show b ≤ g; omega) _⟩)
end Go.Proofs.YtmpnkckaohfflaaDoor.PGiv
