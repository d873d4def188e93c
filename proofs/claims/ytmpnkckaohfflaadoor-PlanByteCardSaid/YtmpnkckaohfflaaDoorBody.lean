/- The program's plan.body, walked: the deferred closure that catches, and what body answers. No condition but the text's length. -/
import Derived.Test.YtmpnkckaohfflaaDoorRcell
namespace Go.Proofs.YtmpnkckaohfflaaDoor.PGiv
open Go.RowKit Go.Proofs.YtmpnkckaohfflaaDoorW.PrintWords Go.Proofs.YtmpnkckaohfflaaDoorW.PrintLast Go.Proofs.YtmpnkckaohfflaaDoorW.PrintMore Go.Proofs.YtmpnkckaohfflaaDoor.K Go.Proofs.YtmpnkckaohfflaaDoor.Num
set_option linter.unusedVariables false
set_option linter.unusedSimpArgs false

theorem mine (w : World) : (Instr.typeAssert brokenV 20 88 true).run Tryd.prog w = .ok (.tuple #[.agg #[], .bool true]) w := by kernel_rfl
set_option maxHeartbeats 4000000 in
set_option maxRecDepth 100000 in
theorem catch_panicking (pl po : Nat) (x y : Value) (older : List PanicEntry) (w : World) (hl : w.heap[pl]? = some (.cells #[x] 22 (0, 0))) (ho : w.heap[po]? = some (.cells #[y] 4 (0, 0))) (hne : pl ≠ po) :
    CallsD Tryd.prog 43 #[.pointer (some ⟨pl, 0, none⟩), .pointer (some ⟨po, 0, none⟩)] (.panicking ({ v := brokenV, recovered := false } :: older)) w fun e u' w' =>
      e = .returned (.tuple #[]) ∧ u' = .panicking ({ v := brokenV, recovered := true } :: older) ∧ w' = ((w.setCell ⟨pl, 0, none⟩ (.slice none 0 0)).setCell ⟨po, 0, none⟩ (.bool false)).alloc (.cells #[] 88 (0, 0)) := by
  have hm := mine
  refine callsD_of_wpS Tryd.func43 rfl fun c₀ cs hu => ?_
  apply wpS_seq
  apply wpS_region
  simp [wpOpsS, go_sem, recoverD, hu, Tryd.ntmps43, Exit.thenS]
  refine wpS_of_wp ?_
  have hx : w.cell? ⟨pl, 0, none⟩ = some x := (blk_cell hl 0).trans rfl
  have hy : w.cell? ⟨po, 0, none⟩ = some y := (blk_cell ho 0).trans rfl
  have hfx : w.frozen? ⟨pl, 0, none⟩ = false := blk_frozen hl 0
  have hfy : w.frozen? ⟨po, 0, none⟩ = false := blk_frozen ho 0
  have hpl : pl < w.heap.size := blk_lt hl
  have hpo : po < w.heap.size := blk_lt ho
  have hne2 : ¬ po = pl := fun e => hne e.symm
  go_wp2
  exact ⟨rfl, _, rfl, _, results_none rfl _ _ _, rfl, rfl, rfl⟩
set_option maxHeartbeats 4000000 in
set_option maxRecDepth 100000 in
theorem catch_idle (pl po : Addr) (w : World) :
    CallsD Tryd.prog 43 #[.pointer (some pl), .pointer (some po)] .returning w fun e u' w' => e = .returned (.tuple #[]) ∧ u' = .returning ∧ w' = w := by
  refine callsD_of_wpS Tryd.func43 rfl fun c₀ cs hu => ?_
  apply wpS_seq
  apply wpS_region
  simp [wpOpsS, go_sem, recoverD, hu, Tryd.ntmps43, Exit.thenS]
  refine wpS_of_wp ?_
  go_wp2
  cases c₀
  simp_all [bodyPostS, results, Tryd.results43]

/-- what the body of a plan is -/
def bodyF (s : ByteArray) : Option (Option (List S45)) := (cellR 5000 s 0 [] 0).bind fun r => match r with
  | none => some none
  | some (L, a) => if a = s.size then some (some L) else some none
def BodyPost (w : World) (r : Option (List S45)) (e : Ending) (w' : World) : Prop :=
  match r with
  | none => e = .returned (.tuple #[.slice none 0 0, .bool false]) ∧ Below w.heap.size w w'
  | some L => ∃ v, e = .returned (.tuple #[v, .bool true]) ∧ Kd.R k45 45 w' w.heap.size (fun _ => True) v L ∧ Below w.heap.size w w'
theorem three_new2 (w : World) (a b c : Obj) : (((w.alloc a).alloc b).alloc c).heap[w.heap.size]? = some a ∧ (((w.alloc a).alloc b).alloc c).heap[w.heap.size + 1]? = some b ∧ (((w.alloc a).alloc b).alloc c).heap[w.heap.size + 2]? = some c ∧ (((w.alloc a).alloc b).alloc c).heap.size = w.heap.size + 3 ∧ Below w.heap.size w (((w.alloc a).alloc b).alloc c) := three_new w a b c
theorem door_facts (pl po : Nat) (x y : Value) (w : World) (hl : w.heap[pl]? = some (.cells #[x] 22 (0, 0))) (ho : w.heap[po]? = some (.cells #[y] 4 (0, 0))) (hne : pl ≠ po) :
    (((w.setCell ⟨pl, 0, none⟩ (.slice none 0 0)).setCell ⟨po, 0, none⟩ (.bool false)).alloc (.cells #[] 88 (0, 0))).cell? ⟨pl, 0, none⟩ = some (.slice none 0 0) ∧
    (((w.setCell ⟨pl, 0, none⟩ (.slice none 0 0)).setCell ⟨po, 0, none⟩ (.bool false)).alloc (.cells #[] 88 (0, 0))).cell? ⟨po, 0, none⟩ = some (.bool false) ∧
    ∀ B, B ≤ pl → B ≤ po → B ≤ w.heap.size → Below B w (((w.setCell ⟨pl, 0, none⟩ (.slice none 0 0)).setCell ⟨po, 0, none⟩ (.bool false)).alloc (.cells #[] 88 (0, 0))) := by
  have h1 := blk_put hl 0 (.slice none 0 0) rfl
  have h2 := blk_far h1 (p := ⟨po, 0, none⟩) hne (.bool false)
  have h3 := blk_far ho (p := ⟨pl, 0, none⟩) (fun e => hne e.symm) (.slice none 0 0)
  have h4 := blk_put h3 0 (.bool false) rfl
  refine ⟨cell_alloc ((blk_cell h2 0).trans rfl) _, cell_alloc ((blk_cell h4 0).trans rfl) _, fun B h1 h2 h3 => ?_⟩
  exact ((((Below.refl _ _).setCell (p := ⟨pl, 0, none⟩) h1 _).setCell (p := ⟨po, 0, none⟩) h2 _).alloc (by rw [World.size_setCell, World.size_setCell]; exact h3) _)
set_option maxHeartbeats 8000000 in
set_option maxRecDepth 100000 in
theorem body_calls (s : ByteArray) (r : Option (List S45)) (w : World) (HG : Glb w) (hs : s.size ≤ 1000000) (h : bodyF s = some r) :
    Calls Tryd.prog 30 #[.string s] w fun e w' => BodyPost w r e w' := by
  obtain ⟨q, hq, hr⟩ := Option.bind_eq_some_iff.1 h
  have hmf : ∀ (fn : Fn) (first cap : Array Value) (w : World), (Instr.makeFunc fn first cap).run Tryd.prog w = .ok (.func fn first cap) w := fun _ _ _ _ => rfl
  obtain ⟨N0, N1, N2, N3, N4⟩ := three_new2 w (.cells #[.slice none 0 0] 22 (0, 0)) (.cells #[.bool false] 4 (0, 0)) (.cells #[.string s, .int .i64 0, .slice none 0 0] 86 (0, 0))
  have CC := rcell_calls 5000 (w.heap.size + 2) s 0 (.slice none 0 0) [] 0 q (((w.alloc (.cells #[.slice none 0 0] 22 (0, 0))).alloc (.cells #[.bool false] 4 (0, 0))).alloc (.cells #[.string s, .int .i64 0, .slice none 0 0] 86 (0, 0))) N2 (Kd.R_nil _ _ _ _ _) hs (by omega) (by simp) (fun W hW => Glb.below HG (N4.trans (hW.mono (by omega)))) hq
  have CC := Lib.hid CC
  have NN := Lib.hid (And.intro N0 (And.intro N1 (And.intro N3 N4)))
  clear N0 N1 N2 N3 N4 h hq
  go_enter_defers Tryd.func30, Tryd.ntmps30
  cases q with
  | none =>
    obtain rfl := Option.some.inj hr
    go_wp2_with (go_at_call 44; refine (CC.out).mono ?_; rintro e w1 ⟨rfl, hb⟩; have HB := Lib.hid hb; clear hb)
    have hl : w1.heap[w.heap.size]? = some (.cells #[.slice none 0 0] 22 (0, 0)) := (HB.out.block _ (by omega)).trans NN.out.1
    have ho : w1.heap[w.heap.size + 1]? = some (.cells #[.bool false] 4 (0, 0)) := (HB.out.block _ (by omega)).trans NN.out.2.1
    have hd := door_facts w.heap.size (w.heap.size + 1) _ _ w1 hl ho (by omega)
    refine leaves_cons (f := 43) (args := #[.pointer (some ⟨w.heap.size, 0, none⟩), .pointer (some ⟨w.heap.size + 1, 0, none⟩)]) (by simp) (by simp [go_sem]) ?_
    refine (catch_panicking w.heap.size (w.heap.size + 1) _ _ [] w1 hl ho (by omega)).mono ?_
    rintro e u' w'' ⟨rfl, rfl, hw⟩
    rw [← hw] at hd
    obtain ⟨hd1, hd2, hd3⟩ := hd
    have BW : Below w.heap.size w w'' := (NN.out.2.2.2.trans (HB.out.mono (by omega))).trans (hd3 w.heap.size (Nat.le_refl _) (by omega) (Nat.le_trans NN.out.2.2.2.size (HB.out.mono (B' := w.heap.size) (by omega)).size))
    have HBW := Lib.hid BW
    clear hw hd3 BW hl ho
    simp [Leaves, settle, results, Tryd.results30, go_sem, hd1, hd2]
    exact ⟨rfl, HBW.out⟩
  | some q1 =>
    obtain ⟨L, a⟩ := q1
    simp only at hr
    by_cases ha : a = s.size
    · rw [if_pos ha] at hr
      obtain rfl := Option.some.inj hr
      subst ha
      have hne : ((s.size : Int) != (s.size : Int)) = false := by simp
      go_wp2_with (go_at_call 44; refine (CC.out).mono ?_; rintro e w1 ⟨rfl, sl, hB, hR, hb⟩; obtain ⟨As, cs', rfl⟩ := Kd.R_slice hR; have HB := Lib.hid hb; have RB := Lib.hid hB; have RR := Lib.hid hR; have y1 : w1.cell? ⟨w.heap.size + 1 + 1, 1, none⟩ = some (.int .i64 s.size) := (blk_cell hB 1).trans rfl; have y2 : w1.cell? ⟨w.heap.size + 1 + 1, 2, none⟩ = some (.slice As L.length cs') := (blk_cell hB 2).trans rfl; have hl : w1.heap[w.heap.size]? = some (.cells #[.slice none 0 0] 22 (0, 0)) := (hb.block _ (by omega)).trans NN.out.1; have ho : w1.heap[w.heap.size + 1]? = some (.cells #[.bool false] 4 (0, 0)) := (hb.block _ (by omega)).trans NN.out.2.1; have x1 : w1.cell? ⟨w.heap.size, 0, none⟩ = some (.slice none 0 0) := (blk_cell hl 0).trans rfl; have x2 : w1.frozen? ⟨w.heap.size, 0, none⟩ = false := blk_frozen hl 0; have x3 : w1.cell? ⟨w.heap.size + 1, 0, none⟩ = some (.bool false) := (blk_cell ho 0).trans rfl; have x4 : w1.frozen? ⟨w.heap.size + 1, 0, none⟩ = false := blk_frozen ho 0; have HL := Lib.hid hl; have HO := Lib.hid ho; clear hb hB hR hl ho)
      have h1 := blk_put HL.out 0 (.slice As L.length cs') rfl
      have h2 := blk_far h1 (p := ⟨w.heap.size + 1, 0, none⟩) (show w.heap.size ≠ w.heap.size + 1 by omega) (.bool true)
      have h3 := blk_far HO.out (p := ⟨w.heap.size, 0, none⟩) (show w.heap.size + 1 ≠ w.heap.size by omega) (.slice As L.length cs')
      have h4 := blk_put h3 0 (.bool true) rfl
      have hd1 := (blk_cell h2 0).trans (show _ = some (Value.slice As L.length cs') from rfl)
      have hd2 := (blk_cell h4 0).trans (show _ = some (Value.bool true) from rfl)
      have hR2 := Kd.R_far (p := ⟨w.heap.size + 1, 0, none⟩) (Kd.R_far (p := ⟨w.heap.size, 0, none⟩) (Kd.R_mono (Kd.R_bound RR.out) (fun k hk => (show k ≠ w.heap.size ∧ k ≠ w.heap.size + 1 from ⟨by have := hk.2.1; omega, by have := hk.2.1; omega⟩))) (fun k hk => hk.1) (.slice As L.length cs')) (fun k hk => hk.2) (.bool true)
      have hB2 : Below w.heap.size w ((w1.setCell ⟨w.heap.size, 0, none⟩ (.slice As L.length cs')).setCell ⟨w.heap.size + 1, 0, none⟩ (.bool true)) := ((NN.out.2.2.2.trans (HB.out.mono (by omega))).setCell (p := ⟨w.heap.size, 0, none⟩) (Nat.le_refl _) _).setCell (p := ⟨w.heap.size + 1, 0, none⟩) (Nat.le_succ _) _
      generalize (w1.setCell ⟨w.heap.size, 0, none⟩ (.slice As L.length cs')).setCell ⟨w.heap.size + 1, 0, none⟩ (.bool true) = w2 at hd1 hd2 hR2 hB2 ⊢
      have HR2 := Lib.hid hR2
      have HB2 := Lib.hid hB2
      clear h1 h2 h3 h4 hR2 hB2 x1 x2 x3 x4 y1 y2
      refine leaves_cons (f := 43) (args := #[.pointer (some ⟨w.heap.size, 0, none⟩), .pointer (some ⟨w.heap.size + 1, 0, none⟩)]) (by simp) (by simp [go_sem]) ?_
      refine (catch_idle ⟨w.heap.size, 0, none⟩ ⟨w.heap.size + 1, 0, none⟩ w2).mono ?_
      rintro e u' w'' ⟨rfl, rfl, hw⟩
      rw [hw]
      simp [Leaves, settle, results, Tryd.results30, go_sem, hd1, hd2]
      exact ⟨_, rfl, Kd.R_mono (Kd.R_lower HR2.out (by omega)) (fun _ _ => trivial), HB2.out⟩
    · rw [if_neg ha] at hr
      obtain rfl := Option.some.inj hr
      have hne : ((a : Int) != (s.size : Int)) = true := bne_iff_ne.mpr (by omega)
      have hne2 : (a != s.size) = true := bne_iff_ne.mpr ha
      clear ha
      go_wp2_with (first | (go_at_call 44; refine (CC.out).mono ?_; rintro e w1 ⟨rfl, sl, hB, hR, hb⟩; have HB := Lib.hid hb; have y1 : w1.cell? ⟨w.heap.size + 1 + 1, 1, none⟩ = some (.int .i64 a) := (blk_cell hB 1).trans rfl; clear hb hB hR) | (go_at_call 45; refine (give_calls _ _).mono ?_; rintro e w'' ⟨rfl, hw⟩; rw [hw]; clear hw w''))
      have hl : w1.heap[w.heap.size]? = some (.cells #[.slice none 0 0] 22 (0, 0)) := (HB.out.block _ (by omega)).trans NN.out.1
      have ho : w1.heap[w.heap.size + 1]? = some (.cells #[.bool false] 4 (0, 0)) := (HB.out.block _ (by omega)).trans NN.out.2.1
      have hd := door_facts w.heap.size (w.heap.size + 1) _ _ w1 hl ho (by omega)
      refine leaves_cons (f := 43) (args := #[.pointer (some ⟨w.heap.size, 0, none⟩), .pointer (some ⟨w.heap.size + 1, 0, none⟩)]) (by simp) (by simp [go_sem]) ?_
      refine (catch_panicking w.heap.size (w.heap.size + 1) _ _ [] w1 hl ho (by omega)).mono ?_
      rintro e u' w'' ⟨rfl, rfl, hw⟩
      rw [← hw] at hd
      obtain ⟨hd1, hd2, hd3⟩ := hd
      have BW : Below w.heap.size w w'' := (NN.out.2.2.2.trans (HB.out.mono (by omega))).trans (hd3 w.heap.size (Nat.le_refl _) (by omega) (Nat.le_trans NN.out.2.2.2.size (HB.out.mono (B' := w.heap.size) (by omega)).size))
      have HBW := Lib.hid BW
      clear hw hd3 BW hl ho
      simp [Leaves, settle, results, Tryd.results30, go_sem, hd1, hd2]
      exact ⟨rfl, HBW.out⟩
end Go.Proofs.YtmpnkckaohfflaaDoor.PGiv
