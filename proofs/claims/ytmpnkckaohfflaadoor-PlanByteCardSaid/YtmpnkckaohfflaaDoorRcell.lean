/- The program's reader.cell, walked: the cells that it reads, or that it gives up. No condition but the text's and the list's length. -/
import Derived.Test.YtmpnkckaohfflaaDoorRdr
import Derived.Test.YtmpnkckaohfflaaDoorRow
import Derived.Test.YtmpnkckaohfflaaDoorLay
import Derived.Deep.RegionLaw
import Derived.Deep.DeepCutAuto
namespace Go.Proofs.YtmpnkckaohfflaaDoor.PGiv
open Go.RowKit Go.Proofs.YtmpnkckaohfflaaDoorW.PrintWords Go.Proofs.YtmpnkckaohfflaaDoorW.PrintLast Go.Proofs.YtmpnkckaohfflaaDoorW.PrintMore Go.Proofs.YtmpnkckaohfflaaDoor.K Go.Proofs.YtmpnkckaohfflaaDoor.Num
set_option linter.unusedVariables false
set_option linter.unusedSimpArgs false

theorem Fr.far {b : Nat} {w w' : World} (h : Fr b w w') {p : Addr} (hp : w.heap.size ≤ p.block) (hb : b ≤ p.block) (u : Value) : Fr b w (w'.setCell p u) :=
  ⟨h.1.setCell hb u, fun k hk hl => (Below.heap_setCell _ _ _ k (by omega)).trans (h.2 k hk hl)⟩
mutual
/-- what the reader reads at a place: the outer 'none' is no answer, the inner one that it gives up -/
def cellR : Nat → ByteArray → Nat → List S45 → Int → Option (Option (List S45 × Nat))
  | 0, _, _, _, _ => none
  | k + 1, s, a, L, d =>
    match rdNumber s a with
    | none => some none
    | some (W, a1) =>
    match rdMust s a1 120 with
    | none => some none
    | some a2 =>
    match rdNumber s a2 with
    | none => some none
    | some (H, a3) =>
    match rdMust s a3 44 with
    | none => some none
    | some a4 =>
    match rdNumber s a4 with
    | none => some none
    | some (X, a5) =>
    match rdMust s a5 44 with
    | none => some none
    | some a6 =>
    match rdNumber s a6 with
    | none => some none
    | some (Y, a7) =>
    match rdNext s a7 with
    | none => some none
    | some (c, a8) =>
      if c = 44 then
        match rdNumber s a8 with
        | none => some none
        | some (q, a9) => some (some (L ++ [⟨d, 1, X, Y, W, H, q⟩], a9))
      else if c = 123 then loopR k s a8 (L ++ [⟨d, 2, X, Y, W, H, 0⟩]) d 125
      else if c = 91 then loopR k s a8 (L ++ [⟨d, 3, X, Y, W, H, 0⟩]) d 93
      else some none
def loopR : Nat → ByteArray → Nat → List S45 → Int → UInt8 → Option (Option (List S45 × Nat))
  | 0, _, _, _, _, _ => none
  | k + 1, s, a, L, d, sh => (cellR k s a L (wrap64 (d + 1))).bind fun r =>
    match r with
    | none => some none
    | some (L', a') =>
    match rdNext s a' with
    | none => some none
    | some (c, a'') => if c = sh then some (some (L', a'')) else if c = 44 then loopR k s a'' L' d sh else some none
end
theorem next_le {s : ByteArray} {a a' : Nat} {c : UInt8} (h : rdNext s a = some (c, a')) : a < a' ∧ a' ≤ s.size := by
  unfold rdNext at h
  split at h
  · obtain ⟨_, rfl⟩ := Prod.mk.inj (Option.some.inj h)
    omega
  · cases h
theorem must_le {s : ByteArray} {a a' : Nat} {c : UInt8} (h : rdMust s a c = some a') : a < a' ∧ a' ≤ s.size := by
  unfold rdMust at h
  split at h
  · cases h
  · rename_i d a1 h1
    split at h
    · obtain rfl := Option.some.inj h
      exact next_le h1
    · cases h
theorem number_le {s : ByteArray} {a a' : Nat} {n : Int} (ha : a ≤ s.size) (h : rdNumber s a = some (n, a')) : a ≤ a' ∧ a' ≤ s.size := by
  unfold rdNumber at h
  split at h
  · obtain ⟨_, rfl⟩ := Prod.mk.inj (Option.some.inj h)
    exact digEnd_le s _ a ha
  · cases h
theorem rd_le : ∀ k, (∀ s a L d L' a', cellR k s a L d = some (some (L', a')) → a ≤ s.size → L.length ≤ a → a' ≤ s.size ∧ L'.length ≤ a') ∧ (∀ s a L d sh L' a', loopR k s a L d sh = some (some (L', a')) → a ≤ s.size → L.length ≤ a → a' ≤ s.size ∧ L'.length ≤ a') := by
  intro k
  induction k with
  | zero => exact ⟨fun s a L d L' a' h => by simp [cellR] at h, fun s a L d sh L' a' h => by simp [loopR] at h⟩
  | succ k ih =>
    obtain ⟨ih1, ih2⟩ := ih
    constructor
    · intro s a L d L' a' h ha hL
      rw [cellR] at h
      split at h
      · simp at h
      rename_i W a1 h1
      have l1 := number_le ha h1
      split at h
      · simp at h
      rename_i a2 h2
      have l2 := must_le h2
      split at h
      · simp at h
      rename_i H a3 h3
      have l3 := number_le l2.2 h3
      split at h
      · simp at h
      rename_i a4 h4
      have l4 := must_le h4
      split at h
      · simp at h
      rename_i X a5 h5
      have l5 := number_le l4.2 h5
      split at h
      · simp at h
      rename_i a6 h6
      have l6 := must_le h6
      split at h
      · simp at h
      rename_i Y a7 h7
      have l7 := number_le l6.2 h7
      split at h
      · simp at h
      rename_i c a8 h8
      have l8 := next_le h8
      split at h
      · split at h
        · simp at h
        · rename_i q a9 h9
          have l9 := number_le l8.2 h9
          simp only [Option.some.injEq, Prod.mk.injEq] at h
          obtain ⟨rfl, rfl⟩ := h
          simp
          omega
      · split at h
        · exact ih2 _ _ _ _ _ _ _ h l8.2 (by simp; omega)
        · split at h
          · exact ih2 _ _ _ _ _ _ _ h l8.2 (by simp; omega)
          · simp at h
    · intro s a L d sh L' a' h ha hL
      rw [loopR] at h
      obtain ⟨r, hr, h⟩ := Option.bind_eq_some_iff.1 h
      split at h
      · simp at h
      rename_i L1 b1
      have h1 := ih1 _ _ _ _ _ _ hr ha hL
      split at h
      · simp at h
      rename_i c b2 h2
      have l2 := next_le h2
      split at h
      · simp only [Option.some.injEq, Prod.mk.injEq] at h
        obtain ⟨rfl, rfl⟩ := h
        omega
      · split at h
        · exact ih2 _ _ _ _ _ _ _ h l2.2 (by omega)
        · simp at h
theorem u8_ne {c d : UInt8} {n : Int} (h : c ≠ d) (hn : (d.toNat : Int) = n) : (c.toNat : Int) ≠ n := fun e => h (UInt8.toNat_inj.1 (by omega))
def RcPost (b : Nat) (s : ByteArray) (r : Option (List S45 × Nat)) (w : World) (e : Ending) (w' : World) : Prop :=
  match r with
  | none => Brk b w e w'
  | some (L', a') => e = .returned (.tuple #[]) ∧ ∃ sl', RdBlk b s a' sl' w' ∧ Kd.R k45 45 w' (b + 1) (fun _ => True) sl' L' ∧ Below b w w'

set_option maxHeartbeats 32000000 in
set_option maxRecDepth 100000 in
theorem rcell_calls (k : Nat) : ∀ (b : Nat) (s : ByteArray) (a : Nat) (sl : Value) (L : List S45) (d : Int) (r : Option (List S45 × Nat)) (w : World), RdBlk b s a sl w → Kd.R k45 45 w (b + 1) (fun _ => True) sl L → s.size ≤ 1000000 → a ≤ s.size → L.length ≤ a →
    (∀ W, Below b w W → Glb W) → cellR k s a L d = some r →
    Calls Tryd.prog 44 #[.pointer (some ⟨b, 0, none⟩), .int .i64 d] w fun e w' => RcPost b s r w e w' := by
  induction k using Nat.strongRecOn with
  | _ k ih =>
  intro b s a sl L d r w hB hR hs ha hLa hG hF
  cases k with
  | zero => exact absurd hF (by simp [cellR])
  | succ k =>
  rw [cellR] at hF
  obtain ⟨Asl, csl, rfl⟩ := Kd.R_slice hR
  have hbw : b < w.heap.size := blk_lt hB
  have HG := Lib.hid hG
  have HR := Lib.hid hR
  obtain ⟨N1, N2, N3, N4⟩ := cell_new0 w (.cells #[.int .i64 d, .int .i64 0, .int .i64 0, .int .i64 0, .int .i64 0, .int .i64 0, .int .i64 0] 45 (0, 0))
  have F0 : Hid (Fr b w (w.alloc (.cells #[.int .i64 d, .int .i64 0, .int .i64 0, .int .i64 0, .int .i64 0, .int .i64 0, .int .i64 0] 45 (0, 0)))) := Lib.hid ⟨N4 b (by omega), fun k _ hk => N2 k hk⟩
  have B0 := Lib.hid (show RdBlk b s a (.slice Asl L.length csl) (w.alloc (.cells #[.int .i64 d, .int .i64 0, .int .i64 0, .int .i64 0, .int .i64 0, .int .i64 0, .int .i64 0] 45 (0, 0))) from (N2 b hbw).trans hB)
  have C0 := Lib.hid N1
  clear N1 N2 N3 N4 hG hR hB
  go_enter Tryd.func44, Tryd.ntmps44
  go_wp2_with fail
  generalize w.alloc (.cells #[.int .i64 d, .int .i64 0, .int .i64 0, .int .i64 0, .int .i64 0, .int .i64 0, .int .i64 0] 45 (0, 0)) = v0 at F0 B0 C0 ⊢
  have P1 := rdnumber_calls b s a (.slice Asl L.length csl) v0 B0.out hs ha (fun W hW => HG.out W (F0.out.1.trans hW))
  cases h1 : rdNumber s a with
  | none =>
    rw [h1] at P1 hF
    obtain rfl := Option.some.inj hF
    have P1 := Lib.hid P1
    go_wp2_with (go_at_call 64; refine (P1.out).mono ?_; rintro e w' ⟨rfl, hb⟩)
    exact ⟨rfl, rfl, F0.out.1.trans hb⟩
  | some r1 =>
    obtain ⟨W, a1⟩ := r1
    rw [h1] at P1 hF
    simp only at hF
    have l1 := number_le ha h1
    have P1 := Lib.hid P1
    clear h1
    go_wp2_with (go_at_call 64; refine (P1.out).mono ?_; rintro e w1 ⟨rfl, hb, hf⟩; have C1 := Lib.hid ((hf.2 _ (by omega) (blk_lt C0.out)).trans C0.out); have F1 := Lib.hid (F0.out.trans hf); have B1 := Lib.hid hb; have xx : w1.cell? ⟨w.heap.size, 4, none⟩ = some (.int .i64 0) := (blk_cell C1.out 4).trans rfl; have zz : w1.frozen? ⟨w.heap.size, 4, none⟩ = false := blk_frozen C1.out 4; clear hb hf)
    have C1 := Lib.hid (show (w1.setCell ⟨w.heap.size, 4, none⟩ (.int .i64 W)).heap[w.heap.size]? = some (.cells #[.int .i64 d, .int .i64 0, .int .i64 0, .int .i64 0, .int .i64 W, .int .i64 0, .int .i64 0] 45 (0, 0)) from blk_put C1.out 4 _ rfl)
    have F1 := Lib.hid (F1.out.far (p := ⟨w.heap.size, 4, none⟩) (Nat.le_refl _) (Nat.le_of_lt hbw) (.int .i64 W))
    have B1 := Lib.hid (show RdBlk b s a1 (.slice Asl L.length csl) (w1.setCell ⟨w.heap.size, 4, none⟩ (.int .i64 W)) from blk_far B1.out (p := ⟨w.heap.size, 4, none⟩) (by show b ≠ w.heap.size; omega) _)
    clear xx zz P1
    try go_wp2_with fail
    generalize w1.setCell ⟨w.heap.size, 4, none⟩ (.int .i64 W) = v1 at C1 F1 B1 ⊢
    have P2 := must_calls b s a1 (.slice Asl L.length csl) 120 120 rfl v1 B1.out hs
    cases h2 : rdMust s a1 120 with
    | none =>
      rw [h2] at P2 hF
      obtain rfl := Option.some.inj hF
      have P2 := Lib.hid P2
      go_wp2_with (go_at_call 65; refine (P2.out).mono ?_; rintro e w' ⟨rfl, hb⟩)
      exact ⟨rfl, rfl, F1.out.1.trans hb⟩
    | some a2 =>
      rw [h2] at P2 hF
      simp only at hF
      have l2 := must_le h2
      have P2 := Lib.hid P2
      clear h2
      go_wp2_with (go_at_call 65; refine (P2.out).mono ?_; rintro e v2 ⟨rfl, hb, hf⟩; have C2 := Lib.hid ((hf.2 _ (by omega) (blk_lt C1.out)).trans C1.out); have F2 := Lib.hid (F1.out.trans hf); have B2 := Lib.hid hb; clear hb hf)
      clear P2
      have P3 := rdnumber_calls b s a2 (.slice Asl L.length csl) v2 B2.out hs l2.2 (fun W hW => HG.out W (F2.out.1.trans hW))
      cases h3 : rdNumber s a2 with
      | none =>
        rw [h3] at P3 hF
        obtain rfl := Option.some.inj hF
        have P3 := Lib.hid P3
        go_wp2_with (go_at_call 64; refine (P3.out).mono ?_; rintro e w' ⟨rfl, hb⟩)
        exact ⟨rfl, rfl, F2.out.1.trans hb⟩
      | some r3 =>
        obtain ⟨H, a3⟩ := r3
        rw [h3] at P3 hF
        simp only at hF
        have l3 := number_le l2.2 h3
        have P3 := Lib.hid P3
        clear h3
        go_wp2_with (go_at_call 64; refine (P3.out).mono ?_; rintro e w3 ⟨rfl, hb, hf⟩; have C3 := Lib.hid ((hf.2 _ (by omega) (blk_lt C2.out)).trans C2.out); have F3 := Lib.hid (F2.out.trans hf); have B3 := Lib.hid hb; have xx : w3.cell? ⟨w.heap.size, 5, none⟩ = some (.int .i64 0) := (blk_cell C3.out 5).trans rfl; have zz : w3.frozen? ⟨w.heap.size, 5, none⟩ = false := blk_frozen C3.out 5; clear hb hf)
        have C3 := Lib.hid (show (w3.setCell ⟨w.heap.size, 5, none⟩ (.int .i64 H)).heap[w.heap.size]? = some (.cells #[.int .i64 d, .int .i64 0, .int .i64 0, .int .i64 0, .int .i64 W, .int .i64 H, .int .i64 0] 45 (0, 0)) from blk_put C3.out 5 _ rfl)
        have F3 := Lib.hid (F3.out.far (p := ⟨w.heap.size, 5, none⟩) (Nat.le_refl _) (Nat.le_of_lt hbw) (.int .i64 H))
        have B3 := Lib.hid (show RdBlk b s a3 (.slice Asl L.length csl) (w3.setCell ⟨w.heap.size, 5, none⟩ (.int .i64 H)) from blk_far B3.out (p := ⟨w.heap.size, 5, none⟩) (by show b ≠ w.heap.size; omega) _)
        clear xx zz P3
        try go_wp2_with fail
        generalize w3.setCell ⟨w.heap.size, 5, none⟩ (.int .i64 H) = v3 at C3 F3 B3 ⊢
        have P4 := must_calls b s a3 (.slice Asl L.length csl) 44 44 rfl v3 B3.out hs
        cases h4 : rdMust s a3 44 with
        | none =>
          rw [h4] at P4 hF
          obtain rfl := Option.some.inj hF
          have P4 := Lib.hid P4
          go_wp2_with (go_at_call 65; refine (P4.out).mono ?_; rintro e w' ⟨rfl, hb⟩)
          exact ⟨rfl, rfl, F3.out.1.trans hb⟩
        | some a4 =>
          rw [h4] at P4 hF
          simp only at hF
          have l4 := must_le h4
          have P4 := Lib.hid P4
          clear h4
          go_wp2_with (go_at_call 65; refine (P4.out).mono ?_; rintro e v4 ⟨rfl, hb, hf⟩; have C4 := Lib.hid ((hf.2 _ (by omega) (blk_lt C3.out)).trans C3.out); have F4 := Lib.hid (F3.out.trans hf); have B4 := Lib.hid hb; clear hb hf)
          clear P4
          have P5 := rdnumber_calls b s a4 (.slice Asl L.length csl) v4 B4.out hs l4.2 (fun W hW => HG.out W (F4.out.1.trans hW))
          cases h5 : rdNumber s a4 with
          | none =>
            rw [h5] at P5 hF
            obtain rfl := Option.some.inj hF
            have P5 := Lib.hid P5
            go_wp2_with (go_at_call 64; refine (P5.out).mono ?_; rintro e w' ⟨rfl, hb⟩)
            exact ⟨rfl, rfl, F4.out.1.trans hb⟩
          | some r5 =>
            obtain ⟨X, a5⟩ := r5
            rw [h5] at P5 hF
            simp only at hF
            have l5 := number_le l4.2 h5
            have P5 := Lib.hid P5
            clear h5
            go_wp2_with (go_at_call 64; refine (P5.out).mono ?_; rintro e w5 ⟨rfl, hb, hf⟩; have C5 := Lib.hid ((hf.2 _ (by omega) (blk_lt C4.out)).trans C4.out); have F5 := Lib.hid (F4.out.trans hf); have B5 := Lib.hid hb; have xx : w5.cell? ⟨w.heap.size, 2, none⟩ = some (.int .i64 0) := (blk_cell C5.out 2).trans rfl; have zz : w5.frozen? ⟨w.heap.size, 2, none⟩ = false := blk_frozen C5.out 2; clear hb hf)
            have C5 := Lib.hid (show (w5.setCell ⟨w.heap.size, 2, none⟩ (.int .i64 X)).heap[w.heap.size]? = some (.cells #[.int .i64 d, .int .i64 0, .int .i64 X, .int .i64 0, .int .i64 W, .int .i64 H, .int .i64 0] 45 (0, 0)) from blk_put C5.out 2 _ rfl)
            have F5 := Lib.hid (F5.out.far (p := ⟨w.heap.size, 2, none⟩) (Nat.le_refl _) (Nat.le_of_lt hbw) (.int .i64 X))
            have B5 := Lib.hid (show RdBlk b s a5 (.slice Asl L.length csl) (w5.setCell ⟨w.heap.size, 2, none⟩ (.int .i64 X)) from blk_far B5.out (p := ⟨w.heap.size, 2, none⟩) (by show b ≠ w.heap.size; omega) _)
            clear xx zz P5
            try go_wp2_with fail
            generalize w5.setCell ⟨w.heap.size, 2, none⟩ (.int .i64 X) = v5 at C5 F5 B5 ⊢
            have P6 := must_calls b s a5 (.slice Asl L.length csl) 44 44 rfl v5 B5.out hs
            cases h6 : rdMust s a5 44 with
            | none =>
              rw [h6] at P6 hF
              obtain rfl := Option.some.inj hF
              have P6 := Lib.hid P6
              go_wp2_with (go_at_call 65; refine (P6.out).mono ?_; rintro e w' ⟨rfl, hb⟩)
              exact ⟨rfl, rfl, F5.out.1.trans hb⟩
            | some a6 =>
              rw [h6] at P6 hF
              simp only at hF
              have l6 := must_le h6
              have P6 := Lib.hid P6
              clear h6
              go_wp2_with (go_at_call 65; refine (P6.out).mono ?_; rintro e v6 ⟨rfl, hb, hf⟩; have C6 := Lib.hid ((hf.2 _ (by omega) (blk_lt C5.out)).trans C5.out); have F6 := Lib.hid (F5.out.trans hf); have B6 := Lib.hid hb; clear hb hf)
              clear P6
              have P7 := rdnumber_calls b s a6 (.slice Asl L.length csl) v6 B6.out hs l6.2 (fun W hW => HG.out W (F6.out.1.trans hW))
              cases h7 : rdNumber s a6 with
              | none =>
                rw [h7] at P7 hF
                obtain rfl := Option.some.inj hF
                have P7 := Lib.hid P7
                go_wp2_with (go_at_call 64; refine (P7.out).mono ?_; rintro e w' ⟨rfl, hb⟩)
                exact ⟨rfl, rfl, F6.out.1.trans hb⟩
              | some r7 =>
                obtain ⟨Y, a7⟩ := r7
                rw [h7] at P7 hF
                simp only at hF
                have l7 := number_le l6.2 h7
                have P7 := Lib.hid P7
                clear h7
                go_wp2_with (go_at_call 64; refine (P7.out).mono ?_; rintro e w7 ⟨rfl, hb, hf⟩; have C7 := Lib.hid ((hf.2 _ (by omega) (blk_lt C6.out)).trans C6.out); have F7 := Lib.hid (F6.out.trans hf); have B7 := Lib.hid hb; have xx : w7.cell? ⟨w.heap.size, 3, none⟩ = some (.int .i64 0) := (blk_cell C7.out 3).trans rfl; have zz : w7.frozen? ⟨w.heap.size, 3, none⟩ = false := blk_frozen C7.out 3; have yy : (w7.setCell ⟨w.heap.size, 3, none⟩ (.int .i64 Y)).cell? ⟨b, 2, none⟩ = some (.slice Asl L.length csl) := (blk_cell (blk_far B7.out (p := ⟨w.heap.size, 3, none⟩) (by show b ≠ w.heap.size; omega) _) 2).trans rfl; clear hb hf)
                have C7 := Lib.hid (show (w7.setCell ⟨w.heap.size, 3, none⟩ (.int .i64 Y)).heap[w.heap.size]? = some (.cells #[.int .i64 d, .int .i64 0, .int .i64 X, .int .i64 Y, .int .i64 W, .int .i64 H, .int .i64 0] 45 (0, 0)) from blk_put C7.out 3 _ rfl)
                have F7 := Lib.hid (F7.out.far (p := ⟨w.heap.size, 3, none⟩) (Nat.le_refl _) (Nat.le_of_lt hbw) (.int .i64 Y))
                have B7 := Lib.hid (show RdBlk b s a7 (.slice Asl L.length csl) (w7.setCell ⟨w.heap.size, 3, none⟩ (.int .i64 Y)) from blk_far B7.out (p := ⟨w.heap.size, 3, none⟩) (by show b ≠ w.heap.size; omega) _)
                clear xx zz P7 yy
                try go_wp2_with fail
                generalize w7.setCell ⟨w.heap.size, 3, none⟩ (.int .i64 Y) = v7 at C7 F7 B7 ⊢
                have hO0 : v7.cell? ⟨b, 2, none⟩ = some (.slice Asl L.length csl) := (blk_cell B7.out 2).trans rfl
                have hOa : ∀ o : Obj, (v7.alloc o).cell? ⟨b, 2, none⟩ = some (.slice Asl L.length csl) := fun o => cell_alloc hO0 o
                have hc0 : v7.cell? ⟨w.heap.size, 0, none⟩ = some (.int .i64 d) := (blk_cell C7.out 0).trans rfl
                have hc1 : v7.cell? ⟨w.heap.size, 1, none⟩ = some (.int .i64 0) := (blk_cell C7.out 1).trans rfl
                have hc2 : v7.cell? ⟨w.heap.size, 2, none⟩ = some (.int .i64 X) := (blk_cell C7.out 2).trans rfl
                have hc3 : v7.cell? ⟨w.heap.size, 3, none⟩ = some (.int .i64 Y) := (blk_cell C7.out 3).trans rfl
                have hc4 : v7.cell? ⟨w.heap.size, 4, none⟩ = some (.int .i64 W) := (blk_cell C7.out 4).trans rfl
                have hc5 : v7.cell? ⟨w.heap.size, 5, none⟩ = some (.int .i64 H) := (blk_cell C7.out 5).trans rfl
                have hc6 : v7.cell? ⟨w.heap.size, 6, none⟩ = some (.int .i64 0) := (blk_cell C7.out 6).trans rfl
                have R7 := Lib.hid (Kd.R_mono (ok' := fun _ => True) (Kd.R_move (w1 := v7) (Kd.R_bound HR.out) (fun k hk => F7.out.2 k (by have := hk.2.1; omega) hk.2.2.1)) (fun _ _ => trivial))
                have L7 : Hid (b < v7.heap.size) := Lib.hid (blk_lt B7.out)
                have hLs : L.length ≤ 1000000 := by omega
                clear C0 F0 B0 C1 F1 B1 C2 F2 B2 C3 F3 B3 C4 F4 B4 C5 F5 B5 C6 F6 B6
                go_cut [5, 40] (fun av sv wx => av = .int .i64 L.length ∧ Aside0 (RdBlk b s a7 sv wx) ∧ Aside0 (Kd.R k45 45 wx (b + 1) (fun _ => True) sv (L ++ [⟨d, 0, X, Y, W, H, 0⟩])) ∧ Aside0 (Below b w wx))
                case first =>
                  go_region_law (refine Kd.R_append_step k45 (w0 := v7.drew) (W := v7.drew) (b + 1) (by kernel_rfl) (.tmp 37) (.tmp 39) 22 45 _ 56 rfl Tryd.underlying22 info45 rfl (by decide) (by decide) (.slice Asl L.length csl) L ⟨d, 0, X, Y, W, H, 0⟩ _ (fun _ => True) (fun _ => False) rfl rfl (k45_mkM _ _ _ _) (fun _ h => h.elim) (fun _ _ => trivial) (Kd.R_move (w1 := v7.drew) R7.out (fun _ _ => rfl)) (Below.refl _ _) (by have := L7.out; show b + 1 ≤ v7.heap.size; omega) (by omega) ?_; intro u1 w5 r5 hb5 hg5 hat5; obtain ⟨Av, cv, rfl⟩ := Kd.R_slice r5; have O5 := Lib.hid ((hg5.block b L7.out (fun e => by obtain ⟨inner, hown⟩ := Kd.R_own R7.out; exact absurd (own_base hown b e.symm) (by omega))).trans B7.out); have hO5 : w5.cell? ⟨b, 2, none⟩ = some (.slice Asl L.length csl) := (blk_cell O5.out 2).trans rfl; have hf5 : w5.frozen? ⟨b, 2, none⟩ = false := blk_frozen O5.out 2; have R5 := Lib.hid r5; have B5 := Lib.hid hb5; clear r5 hb5 hg5 hat5)
                  all_goals
                    go_wp2_with fail
                    go_meet
                    refine ⟨rfl, ⟨blk_put O5.out 2 _ rfl⟩, ⟨?_⟩, ⟨?_⟩⟩
                    · have h5 := R5.out
                      rw [List.length_append, List.length_singleton] at h5
                      exact Kd.R_mono (Kd.R_far (p := ⟨b, 2, none⟩) (Kd.R_mono (Kd.R_bound h5) (fun k hk => (show True ∧ k ≠ b from ⟨trivial, by have := hk.2.1; omega⟩))) (fun k hk => hk.2) _) (fun _ _ => trivial)
                    · exact ((F7.out.1.trans ((Below.refl b v7).drew)).trans (B5.out.mono (by omega))).setCell (p := ⟨b, 2, none⟩) (Nat.le_refl _) _
                case rest =>
                  clear hO0 hOa hc0 hc1 hc2 hc3 hc4 hc5 hc6 R7 L7 C7 B7 F7
                  obtain ⟨rfl, RDB, RRR, RBB⟩ := hcut
                  obtain ⟨g, cap, rfl, hbg, hgl, hfz, hce⟩ := row_last RRR.out
                  have HCE := Lib.hid hce
                  have HFZ := Lib.hid hfz
                  clear hce hfz
                  have P8 := next_calls b s a7 (.slice (some ⟨g, 0, none⟩) (L.length + 1) cap) wc RDB.out hs
                  cases h8 : rdNext s a7 with
                  | none =>
                    rw [h8] at P8 hF
                    obtain rfl := Option.some.inj hF
                    have P8 := Lib.hid P8
                    go_wp2_with (go_at_call 66; refine (P8.out).mono ?_; rintro e w' ⟨rfl, hb⟩)
                    exact ⟨rfl, rfl, RBB.out.trans hb⟩
                  | some r8 =>
                    obtain ⟨c, a8⟩ := r8
                    rw [h8] at P8 hF
                    simp only at hF
                    have l8 := next_le h8
                    have P8 := Lib.hid P8
                    clear h8
                    obtain ⟨ci, hci⟩ : ∃ ci : Int, ci = (c.toNat : Int) := ⟨_, rfl⟩
                    have Q8 : Calls Tryd.prog 66 #[.pointer (some ⟨b, 0, none⟩)] wc fun e w' => e = .returned (.int .u8 ci) ∧ RdBlk b s a8 (.slice (some ⟨g, 0, none⟩) (L.length + 1) cap) w' ∧ Fr b wc w' := by rw [hci]; exact P8.out
                    have Q8 := Lib.hid Q8
                    clear P8
                    have hb0 : (0 ≤ (L.length : Int)) = True := eq_true (by omega)
                    have hb1 : ((L.length : Int) < ((L.length + 1 : Nat) : Int)) = True := eq_true (by omega)
                    have hb2 : ((L.length : Int) < (L.length : Int) + 1) = True := eq_true (by omega)
                    have hgb : g ≠ b := by omega
                    have hbg2 : ¬ b = g := by omega
                    by_cases k44 : c = 44
                    · rw [if_pos k44] at hF
                      obtain rfl : ci = 44 := by rw [hci, k44]; rfl
                      clear hci
                      go_wp2_with (go_at_call 66; refine (Q8.out).mono ?_; rintro e w8 ⟨rfl, hb, hf⟩; have hg8 : w8.heap[g]? = wc.heap[g]? := hf.2 g hgb hgl; have R8 := Lib.hid (Kd.R_mono (ok' := fun _ => True) (Kd.R_move (w1 := w8) (Kd.R_bound RRR.out) (fun k hk => hf.2 k (by have := hk.2.1; omega) hk.2.2.1)) (fun _ _ => trivial)); have y1 : w8.cell? ⟨g, L.length * 7 + 1, none⟩ = some (.int .i64 0) := (show w8.cell? ⟨g, L.length * 7 + 1, none⟩ = wc.cell? ⟨g, L.length * 7 + 1, none⟩ by simp only [World.cell?, hg8]).trans (HCE.out 1 _ rfl); have f1 : w8.frozen? ⟨g, L.length * 7 + 1, none⟩ = false := (show w8.frozen? ⟨g, L.length * 7 + 1, none⟩ = wc.frozen? ⟨g, L.length * 7 + 1, none⟩ by simp only [World.frozen?, hg8]).trans (HFZ.out _); have y2 : w8.cell? ⟨b, 2, none⟩ = some (.slice (some ⟨g, 0, none⟩) (L.length + 1) cap) := (blk_cell hb 2).trans rfl; have B8 := Lib.hid hb; have D8 := Lib.hid (RBB.out.trans hf.1); have G8 := Lib.hid (show g < w8.heap.size from Nat.lt_of_lt_of_le hgl hf.1.size); clear hb hf hg8)
                      have R9 := Lib.hid (row_set R8.out (x' := ⟨d, 1, X, Y, W, H, 0⟩) (j := 1) (u := .int .i64 1) (by omega) rfl)
                      have B9 := Lib.hid (show RdBlk b s a8 (.slice (some ⟨g, 0, none⟩) (L.length + 1) cap) (w8.setCell ⟨g, L.length * 7 + 1, none⟩ (.int .i64 1)) from blk_far B8.out (p := ⟨g, L.length * 7 + 1, none⟩) hbg2 _)
                      have D9 := Lib.hid (D8.out.setCell (p := ⟨g, L.length * 7 + 1, none⟩) (by show b ≤ g; omega) (.int .i64 1))
                      have G9 := Lib.hid (show g < (w8.setCell ⟨g, L.length * 7 + 1, none⟩ (.int .i64 1)).heap.size by rw [World.size_setCell]; exact G8.out)
                      clear y1 f1 y2 R8 B8 D8 G8
                      try go_wp2_with fail
                      generalize w8.setCell ⟨g, L.length * 7 + 1, none⟩ (.int .i64 1) = w9 at R9 B9 D9 G9 ⊢
                      obtain ⟨g', cap', eg, _, _, hfz9, hce9⟩ := row_last R9.out
                      injection eg with eg1 eg2 eg3
                      injection eg1 with eg1
                      injection eg1 with eg1
                      subst eg1
                      have Y9 := Lib.hid (hce9 6 _ rfl)
                      have Z9 := Lib.hid (hfz9 (L.length * 7 + 6))
                      clear hfz9 hce9 eg3
                      have P9 := rdnumber_calls b s a8 (.slice (some ⟨g, 0, none⟩) (L.length + 1) cap) w9.drew B9.out hs l8.2 (fun W hW => HG.out W (D9.out.trans ((Below.refl b w9).drew.trans hW)))
                      have B9d := Lib.hid (show RdBlk b s a8 (.slice (some ⟨g, 0, none⟩) (L.length + 1) cap) w9.drew from B9.out)
                      have z2 : w9.drew.cell? ⟨b, 2, none⟩ = some (.slice (some ⟨g, 0, none⟩) (L.length + 1) cap) := (blk_cell B9d.out 2).trans rfl
                      cases h9 : rdNumber s a8 with
                      | none =>
                        rw [h9] at P9 hF
                        obtain rfl := Option.some.inj hF
                        have P9 := Lib.hid (P9.mono (fun e w' h => (show Brk b w9.drew e w' ∨ (e = .returned (.int .i64 0) ∧ Hid False) from .inl h)))
                        go_region_held (fun w' => w'.cell? ⟨b, 2, none⟩ = some (.slice (some ⟨g, 0, none⟩) (L.length + 1) cap))
                          (first | exact z2 | exact zf.out.elim)
                          (first
                            | (go_at_call 64
                               with_reducible refine (P9.out).mono ?_
                               rintro e wn (⟨rfl, hb⟩ | ⟨rfl, zf⟩)
                               focus exact ⟨rfl, rfl, (D9.out.trans (Below.refl b w9).drew).trans hb⟩
                               have y6 : wn.cell? ⟨g, L.length * 7 + 6, none⟩ = some (.int .i64 0) := zf.out.elim
                               have f6 : wn.frozen? ⟨g, L.length * 7 + 6, none⟩ = false := zf.out.elim
                               have z2 : wn.cell? ⟨b, 2, none⟩ = some (.slice (some ⟨g, 0, none⟩) (L.length + 1) cap) := zf.out.elim))
                        all_goals exact zf.out.elim
                      | some r9 =>
                        obtain ⟨q, a9⟩ := r9
                        rw [h9] at P9 hF
                        simp only at hF
                        obtain rfl := Option.some.inj hF
                        have P9 := Lib.hid P9
                        clear h9 hF
                        go_region_held3 (fun w' => w'.cell? ⟨b, 2, none⟩ = some (.slice (some ⟨g, 0, none⟩) (L.length + 1) cap))
                          (first | exact z2 | exact zS _)
                          (first
                            | (go_at_call 64
                               with_reducible refine (P9.out).mono ?_
                               rintro e wn ⟨rfl, hb, hf⟩
                               have hgn : wn.heap[g]? = w9.heap[g]? := hf.2 g hgb G9.out
                               have Rn := Lib.hid (Kd.R_mono (ok' := fun _ => True) (Kd.R_move (w1 := wn) (Kd.R_bound R9.out) (fun k hk => hf.2 k (by have := hk.2.1; omega) hk.2.2.1)) (fun _ _ => trivial))
                               have y6 : wn.cell? ⟨g, L.length * 7 + 6, none⟩ = some (.int .i64 0) := by rw [show wn.cell? ⟨g, L.length * 7 + 6, none⟩ = w9.cell? ⟨g, L.length * 7 + 6, none⟩ by simp only [World.cell?, hgn]]; exact Y9.out
                               have f6 : wn.frozen? ⟨g, L.length * 7 + 6, none⟩ = false := by rw [show wn.frozen? ⟨g, L.length * 7 + 6, none⟩ = w9.frozen? ⟨g, L.length * 7 + 6, none⟩ by simp only [World.frozen?, hgn]]; exact Z9.out
                               have z2 : wn.cell? ⟨b, 2, none⟩ = some (.slice (some ⟨g, 0, none⟩) (L.length + 1) cap) := (blk_cell hb 2).trans rfl
                               have zS : ∀ u, (wn.setCell ⟨g, L.length * 7 + 6, none⟩ u).cell? ⟨b, 2, none⟩ = some (.slice (some ⟨g, 0, none⟩) (L.length + 1) cap) := fun u => (cell_far (p := ⟨g, L.length * 7 + 6, none⟩) (a := ⟨b, 2, none⟩) hbg2 u).trans z2
                               have Bn := Lib.hid hb
                               have Dn := Lib.hid ((D9.out.trans (Below.refl b w9).drew).trans hf.1)
                               clear hb hf hgn))
                        all_goals
                          go_wp2
                          refine bodyPost_ret (results_none rfl _ _ _) rfl ?_
                          exact ⟨rfl, _, blk_far Bn.out (p := ⟨g, L.length * 7 + 6, none⟩) hbg2 _, row_set Rn.out (x' := ⟨d, 1, X, Y, W, H, q⟩) (by omega) rfl, Dn.out.setCell (p := ⟨g, L.length * 7 + 6, none⟩) (by show b ≤ g; omega) _⟩
                    · rw [if_neg k44] at hF
                      have e44 : (ci == 44) = false := beq_eq_false_iff_ne.mpr (by rw [hci]; exact u8_ne k44 rfl)
                      by_cases k123 : c = 123
                      · rw [if_pos k123] at hF
                        obtain rfl : ci = 123 := by rw [hci, k123]; rfl
                        clear hci e44
                        go_wp2_with (go_at_call 66; refine (Q8.out).mono ?_; rintro e w8 ⟨rfl, hb, hf⟩; have hg8 : w8.heap[g]? = wc.heap[g]? := hf.2 g hgb hgl; have R8 := Lib.hid (Kd.R_mono (ok' := fun _ => True) (Kd.R_move (w1 := w8) (Kd.R_bound RRR.out) (fun k hk => hf.2 k (by have := hk.2.1; omega) hk.2.2.1)) (fun _ _ => trivial)); have y1 : w8.cell? ⟨g, L.length * 7 + 1, none⟩ = some (.int .i64 0) := (show w8.cell? ⟨g, L.length * 7 + 1, none⟩ = wc.cell? ⟨g, L.length * 7 + 1, none⟩ by simp only [World.cell?, hg8]).trans (HCE.out 1 _ rfl); have f1 : w8.frozen? ⟨g, L.length * 7 + 1, none⟩ = false := (show w8.frozen? ⟨g, L.length * 7 + 1, none⟩ = wc.frozen? ⟨g, L.length * 7 + 1, none⟩ by simp only [World.frozen?, hg8]).trans (HFZ.out _); have y2 : w8.cell? ⟨b, 2, none⟩ = some (.slice (some ⟨g, 0, none⟩) (L.length + 1) cap) := (blk_cell hb 2).trans rfl; have B8 := Lib.hid hb; have D8 := Lib.hid (RBB.out.trans hf.1); have G8 := Lib.hid (show g < w8.heap.size from Nat.lt_of_lt_of_le hgl hf.1.size); clear hb hf hg8)
                        have R9 := Lib.hid (row_set R8.out (x' := ⟨d, 2, X, Y, W, H, 0⟩) (j := 1) (u := .int .i64 2) (by omega) rfl)
                        have B9 := Lib.hid (show RdBlk b s a8 (.slice (some ⟨g, 0, none⟩) (L.length + 1) cap) (w8.setCell ⟨g, L.length * 7 + 1, none⟩ (.int .i64 2)) from blk_far B8.out (p := ⟨g, L.length * 7 + 1, none⟩) hbg2 _)
                        have D9 := Lib.hid (D8.out.setCell (p := ⟨g, L.length * 7 + 1, none⟩) (by show b ≤ g; omega) (.int .i64 2))
                        have G9 := Lib.hid (show g < (w8.setCell ⟨g, L.length * 7 + 1, none⟩ (.int .i64 2)).heap.size by rw [World.size_setCell]; exact G8.out)
                        clear y1 f1 y2 R8 B8 D8 G8
                        try go_wp2_with fail
                        generalize w8.setCell ⟨g, L.length * 7 + 1, none⟩ (.int .i64 2) = w9 at R9 B9 D9 G9 ⊢
                        obtain ⟨g', cap', eg, _, _, hfz9, hce9⟩ := row_last R9.out
                        injection eg with eg1 eg2 eg3
                        injection eg1 with eg1
                        injection eg1 with eg1
                        subst eg1
                        have Y9 := Lib.hid (hce9 6 _ rfl)
                        have Z9 := Lib.hid (hfz9 (L.length * 7 + 6))
                        clear hfz9 hce9 eg3
                        go_loopg [] k (fun kq wr => ∃ (a' : Nat) (L' : List S45) (sl' : Value), Aside0 (loopR kq s a' L' d 125 = some r) ∧ Aside0 (kq ≤ k) ∧ Aside0 (RdBlk b s a' sl' wr) ∧ Aside0 (Kd.R k45 45 wr (b + 1) (fun _ => True) sl' L') ∧ Aside0 (a' ≤ s.size ∧ L'.length ≤ a') ∧ Aside0 (Below b w wr))
                        case atStart => exact ⟨a8, _, _, ⟨hF⟩, ⟨Nat.le_refl _⟩, ⟨B9.out⟩, ⟨R9.out⟩, ⟨l8.2, by simp; omega⟩, ⟨D9.out⟩⟩
                        case round =>
                          obtain ⟨a', L', sl', RF, RK, RW, RR, RA, RB⟩ := hrel
                          cases gk with
                          | zero => exact absurd RF.out (by simp [loopR])
                          | succ gk =>
                            have hRF := RF.out
                            rw [loopR] at hRF
                            obtain ⟨r1, hr1, hRF⟩ := Option.bind_eq_some_iff.1 hRF
                            have IH := ih gk (by have := RK.out; omega) b s a' sl' L' (wrap64 (d + 1)) r1 wr RW.out RR.out hs RA.out.1 RA.out.2 (fun W hW => HG.out W (RB.out.trans hW)) hr1
                            have LB := Lib.hid (fun L1 b1 (e : r1 = some (L1, b1)) => (rd_le gk).1 s a' L' (wrap64 (d + 1)) L1 b1 (by rw [hr1, e]) RA.out.1 RA.out.2)
                            clear hr1 RF
                            cases r1 with
                            | none =>
                              obtain rfl := Option.some.inj hRF
                              have IH := Lib.hid IH
                              go_wp2_with (go_at_call 44; refine (IH.out).mono ?_; rintro e w' ⟨rfl, hb⟩)
                              exact ⟨rfl, rfl, RB.out.trans hb⟩
                            | some q1 =>
                              obtain ⟨L1, b1⟩ := q1
                              simp only at hRF
                              have IH := Lib.hid IH
                              go_wp2_with (go_at_call 44; refine (IH.out).mono ?_; rintro e wa ⟨rfl, sla, hba, hra, hda⟩; have BA := Lib.hid hba; have RA1 := Lib.hid hra; have DA := Lib.hid (RB.out.trans hda); clear hba hra hda)
                              have P2 := next_calls b s b1 sla wa BA.out hs
                              have lb : b1 ≤ s.size ∧ L1.length ≤ b1 := LB.out _ _ rfl
                              cases h2 : rdNext s b1 with
                              | none =>
                                rw [h2] at P2 hRF
                                obtain rfl := Option.some.inj hRF
                                have P2 := Lib.hid P2
                                go_wp2_with (go_at_call 66; refine (P2.out).mono ?_; rintro e w' ⟨rfl, hb⟩)
                                exact ⟨rfl, rfl, DA.out.trans hb⟩
                              | some q2 =>
                                obtain ⟨c2, b2⟩ := q2
                                rw [h2] at P2 hRF
                                simp only at hRF
                                have l2 := next_le h2
                                obtain ⟨cj, hcj⟩ : ∃ cj : Int, cj = (c2.toNat : Int) := ⟨_, rfl⟩
                                have Q2 : Calls Tryd.prog 66 #[.pointer (some ⟨b, 0, none⟩)] wa fun e w' => e = .returned (.int .u8 cj) ∧ RdBlk b s b2 sla w' ∧ Fr b wa w' := by rw [hcj]; exact P2
                                have Q2 := Lib.hid Q2
                                clear P2 h2 IH
                                by_cases ks : c2 = 125
                                · rw [if_pos ks] at hRF
                                  obtain rfl := Option.some.inj hRF
                                  obtain rfl : cj = 125 := by rw [hcj, ks]; rfl
                                  clear hcj
                                  go_wp2_with (go_at_call 66; refine (Q2.out).mono ?_; rintro e wb ⟨rfl, hb, hf⟩; have BB := Lib.hid hb; have RB2 := Lib.hid (Kd.R_mono (ok' := fun _ => True) (Kd.R_move (w1 := wb) (Kd.R_bound RA1.out) (fun k hk => hf.2 k (by have := hk.2.1; omega) hk.2.2.1)) (fun _ _ => trivial)); have DB := Lib.hid (DA.out.trans hf.1); clear hb hf)
                                  refine bodyPost_ret (results_none rfl _ _ _) rfl ?_
                                  exact ⟨rfl, _, BB.out, RB2.out, DB.out⟩
                                · rw [if_neg ks] at hRF
                                  have es : (cj == 125) = false := beq_eq_false_iff_ne.mpr (by rw [hcj]; exact u8_ne ks rfl)
                                  by_cases k4 : c2 = 44
                                  · rw [if_pos k4] at hRF
                                    obtain rfl : cj = 44 := by rw [hcj, k4]; rfl
                                    have HRF := Lib.hid hRF
                                    clear hcj hRF ks
                                    go_wp2_with (go_at_call 66; refine (Q2.out).mono ?_; rintro e wb ⟨rfl, hb, hf⟩; have BB := Lib.hid hb; have RB2 := Lib.hid (Kd.R_mono (ok' := fun _ => True) (Kd.R_move (w1 := wb) (Kd.R_bound RA1.out) (fun k hk => hf.2 k (by have := hk.2.1; omega) hk.2.2.1)) (fun _ _ => trivial)); have DB := Lib.hid (DA.out.trans hf.1); clear hb hf)
                                    go_roundg gk
                                    case measure => omega
                                    case rel => exact ⟨b2, L1, sla, ⟨HRF.out⟩, ⟨by have := RK.out; omega⟩, ⟨BB.out⟩, ⟨RB2.out⟩, ⟨l2.2, by omega⟩, ⟨DB.out⟩⟩
                                  · rw [if_neg k4] at hRF
                                    obtain rfl := Option.some.inj hRF
                                    have e4 : (cj == 44) = false := beq_eq_false_iff_ne.mpr (by rw [hcj]; exact u8_ne k4 rfl)
                                    have e5 : (cj != 44) = true := bne_iff_ne.mpr (by rw [hcj]; exact u8_ne k4 rfl)
                                    clear hcj ks k4
                                    go_wp2_with (first | (go_at_call 66; refine (Q2.out).mono ?_; rintro e wb ⟨rfl, hb, hf⟩) | (go_at_call 45; refine (give_calls _ _).mono ?_; rintro e w'' ⟨rfl, hw⟩; rw [hw]; clear hw w''))
                                    exact ⟨rfl, rfl, DA.out.trans hf.1⟩
                      · rw [if_neg k123] at hF
                        have e123 : (ci == 123) = false := beq_eq_false_iff_ne.mpr (by rw [hci]; exact u8_ne k123 rfl)
                        by_cases k91 : c = 91
                        · rw [if_pos k91] at hF
                          obtain rfl : ci = 91 := by rw [hci, k91]; rfl
                          clear hci e44 e123
                          go_wp2_with (go_at_call 66; refine (Q8.out).mono ?_; rintro e w8 ⟨rfl, hb, hf⟩; have hg8 : w8.heap[g]? = wc.heap[g]? := hf.2 g hgb hgl; have R8 := Lib.hid (Kd.R_mono (ok' := fun _ => True) (Kd.R_move (w1 := w8) (Kd.R_bound RRR.out) (fun k hk => hf.2 k (by have := hk.2.1; omega) hk.2.2.1)) (fun _ _ => trivial)); have y1 : w8.cell? ⟨g, L.length * 7 + 1, none⟩ = some (.int .i64 0) := (show w8.cell? ⟨g, L.length * 7 + 1, none⟩ = wc.cell? ⟨g, L.length * 7 + 1, none⟩ by simp only [World.cell?, hg8]).trans (HCE.out 1 _ rfl); have f1 : w8.frozen? ⟨g, L.length * 7 + 1, none⟩ = false := (show w8.frozen? ⟨g, L.length * 7 + 1, none⟩ = wc.frozen? ⟨g, L.length * 7 + 1, none⟩ by simp only [World.frozen?, hg8]).trans (HFZ.out _); have y2 : w8.cell? ⟨b, 2, none⟩ = some (.slice (some ⟨g, 0, none⟩) (L.length + 1) cap) := (blk_cell hb 2).trans rfl; have B8 := Lib.hid hb; have D8 := Lib.hid (RBB.out.trans hf.1); have G8 := Lib.hid (show g < w8.heap.size from Nat.lt_of_lt_of_le hgl hf.1.size); clear hb hf hg8)
                          have R9 := Lib.hid (row_set R8.out (x' := ⟨d, 3, X, Y, W, H, 0⟩) (j := 1) (u := .int .i64 3) (by omega) rfl)
                          have B9 := Lib.hid (show RdBlk b s a8 (.slice (some ⟨g, 0, none⟩) (L.length + 1) cap) (w8.setCell ⟨g, L.length * 7 + 1, none⟩ (.int .i64 3)) from blk_far B8.out (p := ⟨g, L.length * 7 + 1, none⟩) hbg2 _)
                          have D9 := Lib.hid (D8.out.setCell (p := ⟨g, L.length * 7 + 1, none⟩) (by show b ≤ g; omega) (.int .i64 3))
                          have G9 := Lib.hid (show g < (w8.setCell ⟨g, L.length * 7 + 1, none⟩ (.int .i64 3)).heap.size by rw [World.size_setCell]; exact G8.out)
                          clear y1 f1 y2 R8 B8 D8 G8
                          try go_wp2_with fail
                          generalize w8.setCell ⟨g, L.length * 7 + 1, none⟩ (.int .i64 3) = w9 at R9 B9 D9 G9 ⊢
                          obtain ⟨g', cap', eg, _, _, hfz9, hce9⟩ := row_last R9.out
                          injection eg with eg1 eg2 eg3
                          injection eg1 with eg1
                          injection eg1 with eg1
                          subst eg1
                          have Y9 := Lib.hid (hce9 6 _ rfl)
                          have Z9 := Lib.hid (hfz9 (L.length * 7 + 6))
                          clear hfz9 hce9 eg3
                          go_loopg [] k (fun kq wr => ∃ (a' : Nat) (L' : List S45) (sl' : Value), Aside0 (loopR kq s a' L' d 93 = some r) ∧ Aside0 (kq ≤ k) ∧ Aside0 (RdBlk b s a' sl' wr) ∧ Aside0 (Kd.R k45 45 wr (b + 1) (fun _ => True) sl' L') ∧ Aside0 (a' ≤ s.size ∧ L'.length ≤ a') ∧ Aside0 (Below b w wr))
                          case atStart => exact ⟨a8, _, _, ⟨hF⟩, ⟨Nat.le_refl _⟩, ⟨B9.out⟩, ⟨R9.out⟩, ⟨l8.2, by simp; omega⟩, ⟨D9.out⟩⟩
                          case round =>
                            obtain ⟨a', L', sl', RF, RK, RW, RR, RA, RB⟩ := hrel
                            cases gk with
                            | zero => exact absurd RF.out (by simp [loopR])
                            | succ gk =>
                              have hRF := RF.out
                              rw [loopR] at hRF
                              obtain ⟨r1, hr1, hRF⟩ := Option.bind_eq_some_iff.1 hRF
                              have IH := ih gk (by have := RK.out; omega) b s a' sl' L' (wrap64 (d + 1)) r1 wr RW.out RR.out hs RA.out.1 RA.out.2 (fun W hW => HG.out W (RB.out.trans hW)) hr1
                              have LB := Lib.hid (fun L1 b1 (e : r1 = some (L1, b1)) => (rd_le gk).1 s a' L' (wrap64 (d + 1)) L1 b1 (by rw [hr1, e]) RA.out.1 RA.out.2)
                              clear hr1 RF
                              cases r1 with
                              | none =>
                                obtain rfl := Option.some.inj hRF
                                have IH := Lib.hid IH
                                go_wp2_with (go_at_call 44; refine (IH.out).mono ?_; rintro e w' ⟨rfl, hb⟩)
                                exact ⟨rfl, rfl, RB.out.trans hb⟩
                              | some q1 =>
                                obtain ⟨L1, b1⟩ := q1
                                simp only at hRF
                                have IH := Lib.hid IH
                                go_wp2_with (go_at_call 44; refine (IH.out).mono ?_; rintro e wa ⟨rfl, sla, hba, hra, hda⟩; have BA := Lib.hid hba; have RA1 := Lib.hid hra; have DA := Lib.hid (RB.out.trans hda); clear hba hra hda)
                                have P2 := next_calls b s b1 sla wa BA.out hs
                                have lb : b1 ≤ s.size ∧ L1.length ≤ b1 := LB.out _ _ rfl
                                cases h2 : rdNext s b1 with
                                | none =>
                                  rw [h2] at P2 hRF
                                  obtain rfl := Option.some.inj hRF
                                  have P2 := Lib.hid P2
                                  go_wp2_with (go_at_call 66; refine (P2.out).mono ?_; rintro e w' ⟨rfl, hb⟩)
                                  exact ⟨rfl, rfl, DA.out.trans hb⟩
                                | some q2 =>
                                  obtain ⟨c2, b2⟩ := q2
                                  rw [h2] at P2 hRF
                                  simp only at hRF
                                  have l2 := next_le h2
                                  obtain ⟨cj, hcj⟩ : ∃ cj : Int, cj = (c2.toNat : Int) := ⟨_, rfl⟩
                                  have Q2 : Calls Tryd.prog 66 #[.pointer (some ⟨b, 0, none⟩)] wa fun e w' => e = .returned (.int .u8 cj) ∧ RdBlk b s b2 sla w' ∧ Fr b wa w' := by rw [hcj]; exact P2
                                  have Q2 := Lib.hid Q2
                                  clear P2 h2 IH
                                  by_cases ks : c2 = 93
                                  · rw [if_pos ks] at hRF
                                    obtain rfl := Option.some.inj hRF
                                    obtain rfl : cj = 93 := by rw [hcj, ks]; rfl
                                    clear hcj
                                    go_wp2_with (go_at_call 66; refine (Q2.out).mono ?_; rintro e wb ⟨rfl, hb, hf⟩; have BB := Lib.hid hb; have RB2 := Lib.hid (Kd.R_mono (ok' := fun _ => True) (Kd.R_move (w1 := wb) (Kd.R_bound RA1.out) (fun k hk => hf.2 k (by have := hk.2.1; omega) hk.2.2.1)) (fun _ _ => trivial)); have DB := Lib.hid (DA.out.trans hf.1); clear hb hf)
                                    refine bodyPost_ret (results_none rfl _ _ _) rfl ?_
                                    exact ⟨rfl, _, BB.out, RB2.out, DB.out⟩
                                  · rw [if_neg ks] at hRF
                                    have es : (cj == 93) = false := beq_eq_false_iff_ne.mpr (by rw [hcj]; exact u8_ne ks rfl)
                                    by_cases k4 : c2 = 44
                                    · rw [if_pos k4] at hRF
                                      obtain rfl : cj = 44 := by rw [hcj, k4]; rfl
                                      have HRF := Lib.hid hRF
                                      clear hcj hRF ks
                                      go_wp2_with (go_at_call 66; refine (Q2.out).mono ?_; rintro e wb ⟨rfl, hb, hf⟩; have BB := Lib.hid hb; have RB2 := Lib.hid (Kd.R_mono (ok' := fun _ => True) (Kd.R_move (w1 := wb) (Kd.R_bound RA1.out) (fun k hk => hf.2 k (by have := hk.2.1; omega) hk.2.2.1)) (fun _ _ => trivial)); have DB := Lib.hid (DA.out.trans hf.1); clear hb hf)
                                      go_roundg gk
                                      case measure => omega
                                      case rel => exact ⟨b2, L1, sla, ⟨HRF.out⟩, ⟨by have := RK.out; omega⟩, ⟨BB.out⟩, ⟨RB2.out⟩, ⟨l2.2, by omega⟩, ⟨DB.out⟩⟩
                                    · rw [if_neg k4] at hRF
                                      obtain rfl := Option.some.inj hRF
                                      have e4 : (cj == 44) = false := beq_eq_false_iff_ne.mpr (by rw [hcj]; exact u8_ne k4 rfl)
                                      have e5 : (cj != 44) = true := bne_iff_ne.mpr (by rw [hcj]; exact u8_ne k4 rfl)
                                      clear hcj ks k4
                                      go_wp2_with (first | (go_at_call 66; refine (Q2.out).mono ?_; rintro e wb ⟨rfl, hb, hf⟩) | (go_at_call 45; refine (give_calls _ _).mono ?_; rintro e w'' ⟨rfl, hw⟩; rw [hw]; clear hw w''))
                                      exact ⟨rfl, rfl, DA.out.trans hf.1⟩
                        · rw [if_neg k91] at hF
                          have e91 : (ci == 91) = false := beq_eq_false_iff_ne.mpr (by rw [hci]; exact u8_ne k91 rfl)
                          obtain rfl := Option.some.inj hF
                          clear k44 k123 k91 hci
                          go_wp2_with (first | (go_at_call 66; refine (Q8.out).mono ?_; rintro e w8 ⟨rfl, hb, hf⟩) | (go_at_call 45; refine (give_calls _ _).mono ?_; rintro e w'' ⟨rfl, hw⟩; rw [hw]; clear hw w''))
                          exact ⟨rfl, rfl, RBB.out.trans hf.1⟩
end Go.Proofs.YtmpnkckaohfflaaDoor.PGiv
