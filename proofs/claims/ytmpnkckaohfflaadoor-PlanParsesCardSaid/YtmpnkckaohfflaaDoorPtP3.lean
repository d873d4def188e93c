/- Of the texts of this claim, what it needs, put together by a program of this claim's author. Conditions: as each theorem says. -/
import Derived.Deep.RegionLaw
import Derived.Deep.DeepCutAuto
import Derived.Test.YtmpnkckaohfflaaDoorPtP2
section
namespace Go.Proofs.YtmpnkckaohfflaaDoor.PGiv
open Go.RowKit Go.Proofs.YtmpnkckaohfflaaDoorW.PrintWords Go.Proofs.YtmpnkckaohfflaaDoorW.PrintLast Go.Proofs.YtmpnkckaohfflaaDoorW.PrintMore Go.Proofs.YtmpnkckaohfflaaDoor.K Go.Proofs.YtmpnkckaohfflaaDoor.Num
set_option linter.unusedVariables false
set_option linter.unusedSimpArgs false
theorem Fr.far {b : Nat} {w w' : World} (h : Fr b w w') {p : Addr} (hp : w.heap.size ≤ p.block) (hb : b ≤ p.block) (u : Value) : Fr b w (w'.setCell p u) :=
 ⟨h.1.setCell hb u, fun k hk hl => (Below.heap_setCell _ _ _ k (by omega)).trans (h.2 k hk hl)⟩
mutual
def cellR : Nat → ByteArray → Nat → List S45 → Int → Option (Option (List S45 × Nat))
 | 0, _, _, _, _ => none
 | k + 1, s, a, L, d =>
   match rdNumber s a with
   | none => some none
   | some (W, a1) =>
   match rdMust s a1 120 with
   | none => some none
   | some a2 =>
   match rdNumber s a2 with
   | none => some none
   | some (H, a3) =>
   match rdMust s a3 44 with
   | none => some none
   | some a4 =>
   match rdNumber s a4 with
   | none => some none
   | some (X, a5) =>
   match rdMust s a5 44 with
   | none => some none
   | some a6 =>
   match rdNumber s a6 with
   | none => some none
   | some (Y, a7) =>
   match rdNext s a7 with
   | none => some none
   | some (c, a8) =>
     if c = 44 then
       match rdNumber s a8 with
       | none => some none
       | some (q, a9) => some (some (L ++ [⟨d, 1, X, Y, W, H, q⟩], a9))
     else if c = 123 then loopR k s a8 (L ++ [⟨d, 2, X, Y, W, H, 0⟩]) d 125
     else if c = 91 then loopR k s a8 (L ++ [⟨d, 3, X, Y, W, H, 0⟩]) d 93
     else some none
def loopR : Nat → ByteArray → Nat → List S45 → Int → UInt8 → Option (Option (List S45 × Nat))
 | 0, _, _, _, _, _ => none
 | k + 1, s, a, L, d, sh => (cellR k s a L (wrap64 (d + 1))).bind fun r =>
   match r with
   | none => some none
   | some (L', a') =>
   match rdNext s a' with
   | none => some none
   | some (c, a'') => if c = sh then some (some (L', a'')) else if c = 44 then loopR k s a'' L' d sh else some none
end
theorem next_le {s : ByteArray} {a a' : Nat} {c : UInt8} (h : rdNext s a = some (c, a')) : a < a' ∧ a' ≤ s.size := by
 unfold rdNext at h
 split at h
 · obtain ⟨_, rfl⟩ := Prod.mk.inj (Option.some.inj h)
   omega
 · cases h
theorem must_le {s : ByteArray} {a a' : Nat} {c : UInt8} (h : rdMust s a c = some a') : a < a' ∧ a' ≤ s.size := by
 unfold rdMust at h
 split at h
 · cases h
 · rename_i d a1 h1
   split at h
   · obtain rfl := Option.some.inj h
     exact next_le h1
   · cases h
theorem number_le {s : ByteArray} {a a' : Nat} {n : Int} (ha : a ≤ s.size) (h : rdNumber s a = some (n, a')) : a ≤ a' ∧ a' ≤ s.size := by
 unfold rdNumber at h
 split at h
 · obtain ⟨_, rfl⟩ := Prod.mk.inj (Option.some.inj h)
   exact digEnd_le s _ a ha
 · cases h
theorem rd_le : ∀ k, (∀ s a L d L' a', cellR k s a L d = some (some (L', a')) → a ≤ s.size → L.length ≤ a → a' ≤ s.size ∧ L'.length ≤ a') ∧ (∀ s a L d sh L' a', loopR k s a L d sh = some (some (L', a')) → a ≤ s.size → L.length ≤ a → a' ≤ s.size ∧ L'.length ≤ a') := by
 intro k
 induction k with
 | zero => exact ⟨fun s a L d L' a' h => by simp [cellR] at h, fun s a L d sh L' a' h => by simp [loopR] at h⟩
 | succ k ih =>
   obtain ⟨ih1, ih2⟩ := ih
   constructor
   · intro s a L d L' a' h ha hL
     rw [cellR] at h
     split at h
     · simp at h
     rename_i W a1 h1
     have l1 := number_le ha h1
     split at h
     · simp at h
     rename_i a2 h2
     have l2 := must_le h2
     split at h
     · simp at h
     rename_i H a3 h3
     have l3 := number_le l2.2 h3
     split at h
     · simp at h
     rename_i a4 h4
     have l4 := must_le h4
     split at h
     · simp at h
     rename_i X a5 h5
     have l5 := number_le l4.2 h5
     split at h
     · simp at h
     rename_i a6 h6
     have l6 := must_le h6
     split at h
     · simp at h
     rename_i Y a7 h7
     have l7 := number_le l6.2 h7
     split at h
     · simp at h
     rename_i c a8 h8
     have l8 := next_le h8
     split at h
     · split at h
       · simp at h
       · rename_i q a9 h9
         have l9 := number_le l8.2 h9
         simp only [Option.some.injEq, Prod.mk.injEq] at h
         obtain ⟨rfl, rfl⟩ := h
         simp
         omega
     · split at h
       · exact ih2 _ _ _ _ _ _ _ h l8.2 (by simp; omega)
       · split at h
         · exact ih2 _ _ _ _ _ _ _ h l8.2 (by simp; omega)
         · simp at h
   · intro s a L d sh L' a' h ha hL
     rw [loopR] at h
     obtain ⟨r, hr, h⟩ := Option.bind_eq_some_iff.1 h
     split at h
     · simp at h
     rename_i L1 b1
     have h1 := ih1 _ _ _ _ _ _ hr ha hL
     split at h
     · simp at h
     rename_i c b2 h2
     have l2 := next_le h2
     split at h
     · simp only [Option.some.injEq, Prod.mk.injEq] at h
       obtain ⟨rfl, rfl⟩ := h
       omega
     · split at h
       · exact ih2 _ _ _ _ _ _ _ h l2.2 (by omega)
       · simp at h
theorem u8_ne {c d : UInt8} {n : Int} (h : c ≠ d) (hn : (d.toNat : Int) = n) : (c.toNat : Int) ≠ n := fun e => h (UInt8.toNat_inj.1 (by omega))
def RcPost (b : Nat) (s : ByteArray) (r : Option (List S45 × Nat)) (w : World) (e : Ending) (w' : World) : Prop :=
 match r with
 | none => Brk b w e w'
 | some (L', a') => e = .returned (.tuple #[]) ∧ ∃ sl', RdBlk b s a' sl' w' ∧ Kd.R k45 45 w' (b + 1) (fun _ => True) sl' L' ∧ Below b w w'
set_option maxHeartbeats 32000000 in
set_option maxRecDepth 100000 in
theorem rcell_calls (k : Nat) : ∀ (b : Nat) (s : ByteArray) (a : Nat) (sl : Value) (L : List S45) (d : Int) (r : Option (List S45 × Nat)) (w : World), RdBlk b s a sl w → Kd.R k45 45 w (b + 1) (fun _ => True) sl L → s.size ≤ 1000000 → a ≤ s.size → L.length ≤ a →
   (∀ W, Below b w W → Glb W) → cellR k s a L d = some r →
   Calls Tryd.prog 44 #[.pointer (some ⟨b, 0, none⟩), .int .i64 d] w fun e w' => RcPost b s r w e w' := by
 induction k using Nat.strongRecOn with
 | _ k ih =>
 intro b s a sl L d r w hB hR hs ha hLa hG hF
 cases k with
 | zero => exact absurd hF (by simp [cellR])
 | succ k =>
 rw [cellR] at hF
 obtain ⟨Asl, csl, rfl⟩ := Kd.R_slice hR
 have hbw : b < w.heap.size := blk_lt hB
 have HG := Lib.hid hG
 have HR := Lib.hid hR
 obtain ⟨N1, N2, N3, N4⟩ := cell_new0 w (.cells #[.int .i64 d, .int .i64 0, .int .i64 0, .int .i64 0, .int .i64 0, .int .i64 0, .int .i64 0] 45 (0, 0))
 have F0 : Hid (Fr b w (w.alloc (.cells #[.int .i64 d, .int .i64 0, .int .i64 0, .int .i64 0, .int .i64 0, .int .i64 0, .int .i64 0] 45 (0, 0)))) := Lib.hid ⟨N4 b (by omega), fun k _ hk => N2 k hk⟩
 have B0 := Lib.hid (show RdBlk b s a (.slice Asl L.length csl) (w.alloc (.cells #[.int .i64 d, .int .i64 0, .int .i64 0, .int .i64 0, .int .i64 0, .int .i64 0, .int .i64 0] 45 (0, 0))) from (N2 b hbw).trans hB)
 have C0 := Lib.hid N1
 clear N1 N2 N3 N4 hG hR hB
 go_enter Tryd.func44, Tryd.ntmps44
 go_wp2_with fail
 generalize w.alloc (.cells #[.int .i64 d, .int .i64 0, .int .i64 0, .int .i64 0, .int .i64 0, .int .i64 0, .int .i64 0] 45 (0, 0)) = v0 at F0 B0 C0 ⊢
 have P1 := rdnumber_calls b s a (.slice Asl L.length csl) v0 B0.out hs ha (fun W hW => HG.out W (F0.out.1.trans hW))
 cases h1 : rdNumber s a with
 | none =>
   rw [h1] at P1 hF
   obtain rfl := Option.some.inj hF
   have P1 := Lib.hid P1
   go_wp2_with (go_at_call 64; refine (P1.out).mono ?_; rintro e w' ⟨rfl, hb⟩)
   exact ⟨rfl, rfl, F0.out.1.trans hb⟩
 | some r1 =>
   obtain ⟨W, a1⟩ := r1
   rw [h1] at P1 hF
   simp only at hF
   have l1 := number_le ha h1
   have P1 := Lib.hid P1
   clear h1
   go_wp2_with (go_at_call 64; refine (P1.out).mono ?_; rintro e w1 ⟨rfl, hb, hf⟩; have C1 := Lib.hid ((hf.2 _ (by omega) (blk_lt C0.out)).trans C0.out); have F1 := Lib.hid (F0.out.trans hf); have B1 := Lib.hid hb; have xx : w1.cell? ⟨w.heap.size, 4, none⟩ = some (.int .i64 0) := (blk_cell C1.out 4).trans rfl; have zz : w1.frozen? ⟨w.heap.size, 4, none⟩ = false := blk_frozen C1.out 4; clear hb hf)
   have C1 := Lib.hid (show (w1.setCell ⟨w.heap.size, 4, none⟩ (.int .i64 W)).heap[w.heap.size]? = some (.cells #[.int .i64 d, .int .i64 0, .int .i64 0, .int .i64 0, .int .i64 W, .int .i64 0, .int .i64 0] 45 (0, 0)) from blk_put C1.out 4 _ rfl)
   have F1 := Lib.hid (F1.out.far (p := ⟨w.heap.size, 4, none⟩) (Nat.le_refl _) (Nat.le_of_lt hbw) (.int .i64 W))
   have B1 := Lib.hid (show RdBlk b s a1 (.slice Asl L.length csl) (w1.setCell ⟨w.heap.size, 4, none⟩ (.int .i64 W)) from blk_far B1.out (p := ⟨w.heap.size, 4, none⟩) (by show b ≠ w.heap.size; omega) _)
   clear xx zz P1
   try go_wp2_with fail
   generalize w1.setCell ⟨w.heap.size, 4, none⟩ (.int .i64 W) = v1 at C1 F1 B1 ⊢
   have P2 := must_calls b s a1 (.slice Asl L.length csl) 120 120 rfl v1 B1.out hs
   cases h2 : rdMust s a1 120 with
   | none =>
     rw [h2] at P2 hF
     obtain rfl := Option.some.inj hF
     have P2 := Lib.hid P2
     go_wp2_with (go_at_call 65; refine (P2.out).mono ?_; rintro e w' ⟨rfl, hb⟩)
     exact ⟨rfl, rfl, F1.out.1.trans hb⟩
   | some a2 =>
     rw [h2] at P2 hF
     simp only at hF
     have l2 := must_le h2
     have P2 := Lib.hid P2
     clear h2
     go_wp2_with (go_at_call 65; refine (P2.out).mono ?_; rintro e v2 ⟨rfl, hb, hf⟩; have C2 := Lib.hid ((hf.2 _ (by omega) (blk_lt C1.out)).trans C1.out); have F2 := Lib.hid (F1.out.trans hf); have B2 := Lib.hid hb; clear hb hf)
     clear P2
     have P3 := rdnumber_calls b s a2 (.slice Asl L.length csl) v2 B2.out hs l2.2 (fun W hW => HG.out W (F2.out.1.trans hW))
     cases h3 : rdNumber s a2 with
     | none =>
       rw [h3] at P3 hF
       obtain rfl := Option.some.inj hF
       have P3 := Lib.hid P3
       go_wp2_with (go_at_call 64; refine (P3.out).mono ?_; rintro e w' ⟨rfl, hb⟩)
       exact ⟨rfl, rfl, F2.out.1.trans hb⟩
     | some r3 =>
       obtain ⟨H, a3⟩ := r3
       rw [h3] at P3 hF
       simp only at hF
       have l3 := number_le l2.2 h3
       have P3 := Lib.hid P3
       clear h3
       go_wp2_with (go_at_call 64; refine (P3.out).mono ?_; rintro e w3 ⟨rfl, hb, hf⟩; have C3 := Lib.hid ((hf.2 _ (by omega) (blk_lt C2.out)).trans C2.out); have F3 := Lib.hid (F2.out.trans hf); have B3 := Lib.hid hb; have xx : w3.cell? ⟨w.heap.size, 5, none⟩ = some (.int .i64 0) := (blk_cell C3.out 5).trans rfl; have zz : w3.frozen? ⟨w.heap.size, 5, none⟩ = false := blk_frozen C3.out 5; clear hb hf)
       have C3 := Lib.hid (show (w3.setCell ⟨w.heap.size, 5, none⟩ (.int .i64 H)).heap[w.heap.size]? = some (.cells #[.int .i64 d, .int .i64 0, .int .i64 0, .int .i64 0, .int .i64 W, .int .i64 H, .int .i64 0] 45 (0, 0)) from blk_put C3.out 5 _ rfl)
       have F3 := Lib.hid (F3.out.far (p := ⟨w.heap.size, 5, none⟩) (Nat.le_refl _) (Nat.le_of_lt hbw) (.int .i64 H))
       have B3 := Lib.hid (show RdBlk b s a3 (.slice Asl L.length csl) (w3.setCell ⟨w.heap.size, 5, none⟩ (.int .i64 H)) from blk_far B3.out (p := ⟨w.heap.size, 5, none⟩) (by show b ≠ w.heap.size; omega) _)
       clear xx zz P3
       try go_wp2_with fail
       generalize w3.setCell ⟨w.heap.size, 5, none⟩ (.int .i64 H) = v3 at C3 F3 B3 ⊢
       have P4 := must_calls b s a3 (.slice Asl L.length csl) 44 44 rfl v3 B3.out hs
       cases h4 : rdMust s a3 44 with
       | none =>
         rw [h4] at P4 hF
         obtain rfl := Option.some.inj hF
         have P4 := Lib.hid P4
         go_wp2_with (go_at_call 65; refine (P4.out).mono ?_; rintro e w' ⟨rfl, hb⟩)
         exact ⟨rfl, rfl, F3.out.1.trans hb⟩
       | some a4 =>
         rw [h4] at P4 hF
         simp only at hF
         have l4 := must_le h4
         have P4 := Lib.hid P4
         clear h4
         go_wp2_with (go_at_call 65; refine (P4.out).mono ?_; rintro e v4 ⟨rfl, hb, hf⟩; have C4 := Lib.hid ((hf.2 _ (by omega) (blk_lt C3.out)).trans C3.out); have F4 := Lib.hid (F3.out.trans hf); have B4 := Lib.hid hb; clear hb hf)
         clear P4
         have P5 := rdnumber_calls b s a4 (.slice Asl L.length csl) v4 B4.out hs l4.2 (fun W hW => HG.out W (F4.out.1.trans hW))
         cases h5 : rdNumber s a4 with
         | none =>
           rw [h5] at P5 hF
           obtain rfl := Option.some.inj hF
           have P5 := Lib.hid P5
           go_wp2_with (go_at_call 64; refine (P5.out).mono ?_; rintro e w' ⟨rfl, hb⟩)
           exact ⟨rfl, rfl, F4.out.1.trans hb⟩
         | some r5 =>
           obtain ⟨X, a5⟩ := r5
           rw [h5] at P5 hF
           simp only at hF
           have l5 := number_le l4.2 h5
           have P5 := Lib.hid P5
           clear h5
           go_wp2_with (go_at_call 64; refine (P5.out).mono ?_; rintro e w5 ⟨rfl, hb, hf⟩; have C5 := Lib.hid ((hf.2 _ (by omega) (blk_lt C4.out)).trans C4.out); have F5 := Lib.hid (F4.out.trans hf); have B5 := Lib.hid hb; have xx : w5.cell? ⟨w.heap.size, 2, none⟩ = some (.int .i64 0) := (blk_cell C5.out 2).trans rfl; have zz : w5.frozen? ⟨w.heap.size, 2, none⟩ = false := blk_frozen C5.out 2; clear hb hf)
           have C5 := Lib.hid (show (w5.setCell ⟨w.heap.size, 2, none⟩ (.int .i64 X)).heap[w.heap.size]? = some (.cells #[.int .i64 d, .int .i64 0, .int .i64 X, .int .i64 0, .int .i64 W, .int .i64 H, .int .i64 0] 45 (0, 0)) from blk_put C5.out 2 _ rfl)
           have F5 := Lib.hid (F5.out.far (p := ⟨w.heap.size, 2, none⟩) (Nat.le_refl _) (Nat.le_of_lt hbw) (.int .i64 X))
           have B5 := Lib.hid (show RdBlk b s a5 (.slice Asl L.length csl) (w5.setCell ⟨w.heap.size, 2, none⟩ (.int .i64 X)) from blk_far B5.out (p := ⟨w.heap.size, 2, none⟩) (by show b ≠ w.heap.size; omega) _)
           clear xx zz P5
           try go_wp2_with fail
           generalize w5.setCell ⟨w.heap.size, 2, none⟩ (.int .i64 X) = v5 at C5 F5 B5 ⊢
           have P6 := must_calls b s a5 (.slice Asl L.length csl) 44 44 rfl v5 B5.out hs
           cases h6 : rdMust s a5 44 with
           | none =>
             rw [h6] at P6 hF
             obtain rfl := Option.some.inj hF
             have P6 := Lib.hid P6
             go_wp2_with (go_at_call 65; refine (P6.out).mono ?_; rintro e w' ⟨rfl, hb⟩)
             exact ⟨rfl, rfl, F5.out.1.trans hb⟩
           | some a6 =>
             rw [h6] at P6 hF
             simp only at hF
             have l6 := must_le h6
             have P6 := Lib.hid P6
             clear h6
             go_wp2_with (go_at_call 65; refine (P6.out).mono ?_; rintro e v6 ⟨rfl, hb, hf⟩; have C6 := Lib.hid ((hf.2 _ (by omega) (blk_lt C5.out)).trans C5.out); have F6 := Lib.hid (F5.out.trans hf); have B6 := Lib.hid hb; clear hb hf)
             clear P6
             have P7 := rdnumber_calls b s a6 (.slice Asl L.length csl) v6 B6.out hs l6.2 (fun W hW => HG.out W (F6.out.1.trans hW))
             cases h7 : rdNumber s a6 with
             | none =>
               rw [h7] at P7 hF
               obtain rfl := Option.some.inj hF
               have P7 := Lib.hid P7
               go_wp2_with (go_at_call 64; refine (P7.out).mono ?_; rintro e w' ⟨rfl, hb⟩)
               exact ⟨rfl, rfl, F6.out.1.trans hb⟩
             | some r7 =>
               obtain ⟨Y, a7⟩ := r7
               rw [h7] at P7 hF
               simp only at hF
               have l7 := number_le l6.2 h7
               have P7 := Lib.hid P7
               clear h7
               go_wp2_with (go_at_call 64; refine (P7.out).mono ?_; rintro e w7 ⟨rfl, hb, hf⟩; have C7 := Lib.hid ((hf.2 _ (by omega) (blk_lt C6.out)).trans C6.out); have F7 := Lib.hid (F6.out.trans hf); have B7 := Lib.hid hb; have xx : w7.cell? ⟨w.heap.size, 3, none⟩ = some (.int .i64 0) := (blk_cell C7.out 3).trans rfl; have zz : w7.frozen? ⟨w.heap.size, 3, none⟩ = false := blk_frozen C7.out 3; have yy : (w7.setCell ⟨w.heap.size, 3, none⟩ (.int .i64 Y)).cell? ⟨b, 2, none⟩ = some (.slice Asl L.length csl) := (blk_cell (blk_far B7.out (p := ⟨w.heap.size, 3, none⟩) (by show b ≠ w.heap.size; omega) _) 2).trans rfl; clear hb hf)
               have C7 := Lib.hid (show (w7.setCell ⟨w.heap.size, 3, none⟩ (.int .i64 Y)).heap[w.heap.size]? = some (.cells #[.int .i64 d, .int .i64 0, .int .i64 X, .int .i64 Y, .int .i64 W, .int .i64 H, .int .i64 0] 45 (0, 0)) from blk_put C7.out 3 _ rfl)
               have F7 := Lib.hid (F7.out.far (p := ⟨w.heap.size, 3, none⟩) (Nat.le_refl _) (Nat.le_of_lt hbw) (.int .i64 Y))
               have B7 := Lib.hid (show RdBlk b s a7 (.slice Asl L.length csl) (w7.setCell ⟨w.heap.size, 3, none⟩ (.int .i64 Y)) from blk_far B7.out (p := ⟨w.heap.size, 3, none⟩) (by show b ≠ w.heap.size; omega) _)
               clear xx zz P7 yy
               try go_wp2_with fail
               generalize w7.setCell ⟨w.heap.size, 3, none⟩ (.int .i64 Y) = v7 at C7 F7 B7 ⊢
               have hO0 : v7.cell? ⟨b, 2, none⟩ = some (.slice Asl L.length csl) := (blk_cell B7.out 2).trans rfl
               have hOa : ∀ o : Obj, (v7.alloc o).cell? ⟨b, 2, none⟩ = some (.slice Asl L.length csl) := fun o => cell_alloc hO0 o
               have hc0 : v7.cell? ⟨w.heap.size, 0, none⟩ = some (.int .i64 d) := (blk_cell C7.out 0).trans rfl
               have hc1 : v7.cell? ⟨w.heap.size, 1, none⟩ = some (.int .i64 0) := (blk_cell C7.out 1).trans rfl
               have hc2 : v7.cell? ⟨w.heap.size, 2, none⟩ = some (.int .i64 X) := (blk_cell C7.out 2).trans rfl
               have hc3 : v7.cell? ⟨w.heap.size, 3, none⟩ = some (.int .i64 Y) := (blk_cell C7.out 3).trans rfl
               have hc4 : v7.cell? ⟨w.heap.size, 4, none⟩ = some (.int .i64 W) := (blk_cell C7.out 4).trans rfl
               have hc5 : v7.cell? ⟨w.heap.size, 5, none⟩ = some (.int .i64 H) := (blk_cell C7.out 5).trans rfl
               have hc6 : v7.cell? ⟨w.heap.size, 6, none⟩ = some (.int .i64 0) := (blk_cell C7.out 6).trans rfl
               have R7 := Lib.hid (Kd.R_mono (ok' := fun _ => True) (Kd.R_move (w1 := v7) (Kd.R_bound HR.out) (fun k hk => F7.out.2 k (by have := hk.2.1; omega) hk.2.2.1)) (fun _ _ => trivial))
               have L7 : Hid (b < v7.heap.size) := Lib.hid (blk_lt B7.out)
               have hLs : L.length ≤ 1000000 := by omega
               clear C0 F0 B0 C1 F1 B1 C2 F2 B2 C3 F3 B3 C4 F4 B4 C5 F5 B5 C6 F6 B6
               go_cut [5, 40] (fun av sv wx => av = .int .i64 L.length ∧ Aside0 (RdBlk b s a7 sv wx) ∧ Aside0 (Kd.R k45 45 wx (b + 1) (fun _ => True) sv (L ++ [⟨d, 0, X, Y, W, H, 0⟩])) ∧ Aside0 (Below b w wx))
               case first =>
                 go_region_law (refine Kd.R_append_step k45 (w0 := v7.drew) (W := v7.drew) (b + 1) (by kernel_rfl) (.tmp 37) (.tmp 39) 22 45 _ 56 rfl Tryd.underlying22 info45 rfl (by decide) (by decide) (.slice Asl L.length csl) L ⟨d, 0, X, Y, W, H, 0⟩ _ (fun _ => True) (fun _ => False) rfl rfl (k45_mkM _ _ _ _) (fun _ h => h.elim) (fun _ _ => trivial) (Kd.R_move (w1 := v7.drew) R7.out (fun _ _ => rfl)) (Below.refl _ _) (by have := L7.out; show b + 1 ≤ v7.heap.size; omega) (by omega) ?_; intro u1 w5 r5 hb5 hg5 hat5; obtain ⟨Av, cv, rfl⟩ := Kd.R_slice r5; have O5 := Lib.hid ((hg5.block b L7.out (fun e => by obtain ⟨inner, hown⟩ := Kd.R_own R7.out; exact absurd (own_base hown b e.symm) (by omega))).trans B7.out); have hO5 : w5.cell? ⟨b, 2, none⟩ = some (.slice Asl L.length csl) := (blk_cell O5.out 2).trans rfl; have hf5 : w5.frozen? ⟨b, 2, none⟩ = false := blk_frozen O5.out 2; have R5 := Lib.hid r5; have B5 := Lib.hid hb5; clear r5 hb5 hg5 hat5)
                 all_goals
                   go_wp2_with fail
                   go_meet
                   refine ⟨rfl, ⟨blk_put O5.out 2 _ rfl⟩, ⟨?_⟩, ⟨?_⟩⟩
                   · have h5 := R5.out
                     rw [List.length_append, List.length_singleton] at h5
                     exact Kd.R_mono (Kd.R_far (p := ⟨b, 2, none⟩) (Kd.R_mono (Kd.R_bound h5) (fun k hk => (show True ∧ k ≠ b from ⟨trivial, by have := hk.2.1; omega⟩))) (fun k hk => hk.2) _) (fun _ _ => trivial)
                   · exact ((F7.out.1.trans ((Below.refl b v7).drew)).trans (B5.out.mono (by omega))).setCell (p := ⟨b, 2, none⟩) (Nat.le_refl _) _
               case rest =>
                 clear hO0 hOa hc0 hc1 hc2 hc3 hc4 hc5 hc6 R7 L7 C7 B7 F7
                 obtain ⟨rfl, RDB, RRR, RBB⟩ := hcut
                 obtain ⟨g, cap, rfl, hbg, hgl, hfz, hce⟩ := row_last RRR.out
                 have HCE := Lib.hid hce
                 have HFZ := Lib.hid hfz
                 clear hce hfz
                 have P8 := next_calls b s a7 (.slice (some ⟨g, 0, none⟩) (L.length + 1) cap) wc RDB.out hs
                 cases h8 : rdNext s a7 with
                 | none =>
                   rw [h8] at P8 hF
                   obtain rfl := Option.some.inj hF
                   have P8 := Lib.hid P8
                   go_wp2_with (go_at_call 66; refine (P8.out).mono ?_; rintro e w' ⟨rfl, hb⟩)
                   exact ⟨rfl, rfl, RBB.out.trans hb⟩
                 | some r8 =>
                   obtain ⟨c, a8⟩ := r8
                   rw [h8] at P8 hF
                   simp only at hF
                   have l8 := next_le h8
                   have P8 := Lib.hid P8
                   clear h8
                   obtain ⟨ci, hci⟩ : ∃ ci : Int, ci = (c.toNat : Int) := ⟨_, rfl⟩
                   have Q8 : Calls Tryd.prog 66 #[.pointer (some ⟨b, 0, none⟩)] wc fun e w' => e = .returned (.int .u8 ci) ∧ RdBlk b s a8 (.slice (some ⟨g, 0, none⟩) (L.length + 1) cap) w' ∧ Fr b wc w' := by rw [hci]; exact P8.out
                   have Q8 := Lib.hid Q8
                   clear P8
                   have hb0 : (0 ≤ (L.length : Int)) = True := eq_true (by omega)
                   have hb1 : ((L.length : Int) < ((L.length + 1 : Nat) : Int)) = True := eq_true (by omega)
                   have hb2 : ((L.length : Int) < (L.length : Int) + 1) = True := eq_true (by omega)
                   have hgb : g ≠ b := by omega
                   have hbg2 : ¬ b = g := by omega
                   by_cases k44 : c = 44
                   · rw [if_pos k44] at hF
                     obtain rfl : ci = 44 := by rw [hci, k44]; rfl
                     clear hci
                     go_wp2_with (go_at_call 66; refine (Q8.out).mono ?_; rintro e w8 ⟨rfl, hb, hf⟩; have hg8 : w8.heap[g]? = wc.heap[g]? := hf.2 g hgb hgl; have R8 := Lib.hid (Kd.R_mono (ok' := fun _ => True) (Kd.R_move (w1 := w8) (Kd.R_bound RRR.out) (fun k hk => hf.2 k (by have := hk.2.1; omega) hk.2.2.1)) (fun _ _ => trivial)); have y1 : w8.cell? ⟨g, L.length * 7 + 1, none⟩ = some (.int .i64 0) := (show w8.cell? ⟨g, L.length * 7 + 1, none⟩ = wc.cell? ⟨g, L.length * 7 + 1, none⟩ by simp only [World.cell?, hg8]).trans (HCE.out 1 _ rfl); have f1 : w8.frozen? ⟨g, L.length * 7 + 1, none⟩ = false := (show w8.frozen? ⟨g, L.length * 7 + 1, none⟩ = wc.frozen? ⟨g, L.length * 7 + 1, none⟩ by simp only [World.frozen?, hg8]).trans (HFZ.out _); have y2 : w8.cell? ⟨b, 2, none⟩ = some (.slice (some ⟨g, 0, none⟩) (L.length + 1) cap) := (blk_cell hb 2).trans rfl; have B8 := Lib.hid hb; have D8 := Lib.hid (RBB.out.trans hf.1); have G8 := Lib.hid (show g < w8.heap.size from Nat.lt_of_lt_of_le hgl hf.1.size); clear hb hf hg8)
                     have R9 := Lib.hid (row_set R8.out (x' := ⟨d, 1, X, Y, W, H, 0⟩) (j := 1) (u := .int .i64 1) (by omega) rfl)
                     have B9 := Lib.hid (show RdBlk b s a8 (.slice (some ⟨g, 0, none⟩) (L.length + 1) cap) (w8.setCell ⟨g, L.length * 7 + 1, none⟩ (.int .i64 1)) from blk_far B8.out (p := ⟨g, L.length * 7 + 1, none⟩) hbg2 _)
                     have D9 := Lib.hid (D8.out.setCell (p := ⟨g, L.length * 7 + 1, none⟩) (by show b ≤ g; omega) (.int .i64 1))
                     have G9 := Lib.hid (show g < (w8.setCell ⟨g, L.length * 7 + 1, none⟩ (.int .i64 1)).heap.size by rw [World.size_setCell]; exact G8.out)
                     clear y1 f1 y2 R8 B8 D8 G8
                     try go_wp2_with fail
                     generalize w8.setCell ⟨g, L.length * 7 + 1, none⟩ (.int .i64 1) = w9 at R9 B9 D9 G9 ⊢
                     obtain ⟨g', cap', eg, _, _, hfz9, hce9⟩ := row_last R9.out
                     injection eg with eg1 eg2 eg3
                     injection eg1 with eg1
                     injection eg1 with eg1
                     subst eg1
                     have Y9 := Lib.hid (hce9 6 _ rfl)
                     have Z9 := Lib.hid (hfz9 (L.length * 7 + 6))
                     clear hfz9 hce9 eg3
                     have P9 := rdnumber_calls b s a8 (.slice (some ⟨g, 0, none⟩) (L.length + 1) cap) w9.drew B9.out hs l8.2 (fun W hW => HG.out W (D9.out.trans ((Below.refl b w9).drew.trans hW)))
                     have B9d := Lib.hid (show RdBlk b s a8 (.slice (some ⟨g, 0, none⟩) (L.length + 1) cap) w9.drew from B9.out)
                     have z2 : w9.drew.cell? ⟨b, 2, none⟩ = some (.slice (some ⟨g, 0, none⟩) (L.length + 1) cap) := (blk_cell B9d.out 2).trans rfl
                     cases h9 : rdNumber s a8 with
                     | none =>
                       rw [h9] at P9 hF
                       obtain rfl := Option.some.inj hF
                       have P9 := Lib.hid (P9.mono (fun e w' h => (show Brk b w9.drew e w' ∨ (e = .returned (.int .i64 0) ∧ Hid False) from .inl h)))
                       go_region_held (fun w' => w'.cell? ⟨b, 2, none⟩ = some (.slice (some ⟨g, 0, none⟩) (L.length + 1) cap))
                         (first | exact z2 | exact zf.out.elim)
                         (first
                           | (go_at_call 64
                              with_reducible refine (P9.out).mono ?_
                              rintro e wn (⟨rfl, hb⟩ | ⟨rfl, zf⟩)
                              focus exact ⟨rfl, rfl, (D9.out.trans (Below.refl b w9).drew).trans hb⟩
                              have y6 : wn.cell? ⟨g, L.length * 7 + 6, none⟩ = some (.int .i64 0) := zf.out.elim
                              have f6 : wn.frozen? ⟨g, L.length * 7 + 6, none⟩ = false := zf.out.elim
                              have z2 : wn.cell? ⟨b, 2, none⟩ = some (.slice (some ⟨g, 0, none⟩) (L.length + 1) cap) := zf.out.elim))
                       all_goals exact zf.out.elim
                     | some r9 =>
                       obtain ⟨q, a9⟩ := r9
                       rw [h9] at P9 hF
                       simp only at hF
                       obtain rfl := Option.some.inj hF
                       have P9 := Lib.hid P9
                       clear h9 hF
                       go_region_held3 (fun w' => w'.cell? ⟨b, 2, none⟩ = some (.slice (some ⟨g, 0, none⟩) (L.length + 1) cap))
                         (first | exact z2 | exact zS _)
                         (first
                           | (go_at_call 64
                              with_reducible refine (P9.out).mono ?_
                              rintro e wn ⟨rfl, hb, hf⟩
                              have hgn : wn.heap[g]? = w9.heap[g]? := hf.2 g hgb G9.out
                              have Rn := Lib.hid (Kd.R_mono (ok' := fun _ => True) (Kd.R_move (w1 := wn) (Kd.R_bound R9.out) (fun k hk => hf.2 k (by have := hk.2.1; omega) hk.2.2.1)) (fun _ _ => trivial))
                              have y6 : wn.cell? ⟨g, L.length * 7 + 6, none⟩ = some (.int .i64 0) := by rw [show wn.cell? ⟨g, L.length * 7 + 6, none⟩ = w9.cell? ⟨g, L.length * 7 + 6, none⟩ by simp only [World.cell?, hgn]]; exact Y9.out
                              have f6 : wn.frozen? ⟨g, L.length * 7 + 6, none⟩ = false := by rw [show wn.frozen? ⟨g, L.length * 7 + 6, none⟩ = w9.frozen? ⟨g, L.length * 7 + 6, none⟩ by simp only [World.frozen?, hgn]]; exact Z9.out
                              have z2 : wn.cell? ⟨b, 2, none⟩ = some (.slice (some ⟨g, 0, none⟩) (L.length + 1) cap) := (blk_cell hb 2).trans rfl
                              have zS : ∀ u, (wn.setCell ⟨g, L.length * 7 + 6, none⟩ u).cell? ⟨b, 2, none⟩ = some (.slice (some ⟨g, 0, none⟩) (L.length + 1) cap) := fun u => (cell_far (p := ⟨g, L.length * 7 + 6, none⟩) (a := ⟨b, 2, none⟩) hbg2 u).trans z2
                              have Bn := Lib.hid hb
                              have Dn := Lib.hid ((D9.out.trans (Below.refl b w9).drew).trans hf.1)
                              clear hb hf hgn))
                       all_goals
                         go_wp2
                         refine bodyPost_ret (results_none rfl _ _ _) rfl ?_
                         exact ⟨rfl, _, blk_far Bn.out (p := ⟨g, L.length * 7 + 6, none⟩) hbg2 _, row_set Rn.out (x' := ⟨d, 1, X, Y, W, H, q⟩) (by omega) rfl, Dn.out.setCell (p := ⟨g, L.length * 7 + 6, none⟩) (by show b ≤ g; omega) _⟩
                   · rw [if_neg k44] at hF
                     have e44 : (ci == 44) = false := beq_eq_false_iff_ne.mpr (by rw [hci]; exact u8_ne k44 rfl)
                     by_cases k123 : c = 123
                     · rw [if_pos k123] at hF
                       obtain rfl : ci = 123 := by rw [hci, k123]; rfl
                       clear hci e44
                       go_wp2_with (go_at_call 66; refine (Q8.out).mono ?_; rintro e w8 ⟨rfl, hb, hf⟩; have hg8 : w8.heap[g]? = wc.heap[g]? := hf.2 g hgb hgl; have R8 := Lib.hid (Kd.R_mono (ok' := fun _ => True) (Kd.R_move (w1 := w8) (Kd.R_bound RRR.out) (fun k hk => hf.2 k (by have := hk.2.1; omega) hk.2.2.1)) (fun _ _ => trivial)); have y1 : w8.cell? ⟨g, L.length * 7 + 1, none⟩ = some (.int .i64 0) := (show w8.cell? ⟨g, L.length * 7 + 1, none⟩ = wc.cell? ⟨g, L.length * 7 + 1, none⟩ by simp only [World.cell?, hg8]).trans (HCE.out 1 _ rfl); have f1 : w8.frozen? ⟨g, L.length * 7 + 1, none⟩ = false := (show w8.frozen? ⟨g, L.length * 7 + 1, none⟩ = wc.frozen? ⟨g, L.length * 7 + 1, none⟩ by simp only [World.frozen?, hg8]).trans (HFZ.out _); have y2 : w8.cell? ⟨b, 2, none⟩ = some (.slice (some ⟨g, 0, none⟩) (L.length + 1) cap) := (blk_cell hb 2).trans rfl; have B8 := Lib.hid hb; have D8 := Lib.hid (RBB.out.trans hf.1); have G8 := Lib.hid (show g < w8.heap.size from Nat.lt_of_lt_of_le hgl hf.1.size); clear hb hf hg8)
                       have R9 := Lib.hid (row_set R8.out (x' := ⟨d, 2, X, Y, W, H, 0⟩) (j := 1) (u := .int .i64 2) (by omega) rfl)
                       have B9 := Lib.hid (show RdBlk b s a8 (.slice (some ⟨g, 0, none⟩) (L.length + 1) cap) (w8.setCell ⟨g, L.length * 7 + 1, none⟩ (.int .i64 2)) from blk_far B8.out (p := ⟨g, L.length * 7 + 1, none⟩) hbg2 _)
                       have D9 := Lib.hid (D8.out.setCell (p := ⟨g, L.length * 7 + 1, none⟩) (by show b ≤ g; omega) (.int .i64 2))
                       have G9 := Lib.hid (show g < (w8.setCell ⟨g, L.length * 7 + 1, none⟩ (.int .i64 2)).heap.size by rw [World.size_setCell]; exact G8.out)
                       clear y1 f1 y2 R8 B8 D8 G8
                       try go_wp2_with fail
                       generalize w8.setCell ⟨g, L.length * 7 + 1, none⟩ (.int .i64 2) = w9 at R9 B9 D9 G9 ⊢
                       obtain ⟨g', cap', eg, _, _, hfz9, hce9⟩ := row_last R9.out
                       injection eg with eg1 eg2 eg3
                       injection eg1 with eg1
                       injection eg1 with eg1
                       subst eg1
                       have Y9 := Lib.hid (hce9 6 _ rfl)
                       have Z9 := Lib.hid (hfz9 (L.length * 7 + 6))
                       clear hfz9 hce9 eg3
                       go_loopg [] k (fun kq wr => ∃ (a' : Nat) (L' : List S45) (sl' : Value), Aside0 (loopR kq s a' L' d 125 = some r) ∧ Aside0 (kq ≤ k) ∧ Aside0 (RdBlk b s a' sl' wr) ∧ Aside0 (Kd.R k45 45 wr (b + 1) (fun _ => True) sl' L') ∧ Aside0 (a' ≤ s.size ∧ L'.length ≤ a') ∧ Aside0 (Below b w wr))
                       case atStart => exact ⟨a8, _, _, ⟨hF⟩, ⟨Nat.le_refl _⟩, ⟨B9.out⟩, ⟨R9.out⟩, ⟨l8.2, by simp; omega⟩, ⟨D9.out⟩⟩
                       case round =>
                         obtain ⟨a', L', sl', RF, RK, RW, RR, RA, RB⟩ := hrel
                         cases gk with
                         | zero => exact absurd RF.out (by simp [loopR])
                         | succ gk =>
                           have hRF := RF.out
                           rw [loopR] at hRF
                           obtain ⟨r1, hr1, hRF⟩ := Option.bind_eq_some_iff.1 hRF
                           have IH := ih gk (by have := RK.out; omega) b s a' sl' L' (wrap64 (d + 1)) r1 wr RW.out RR.out hs RA.out.1 RA.out.2 (fun W hW => HG.out W (RB.out.trans hW)) hr1
                           have LB := Lib.hid (fun L1 b1 (e : r1 = some (L1, b1)) => (rd_le gk).1 s a' L' (wrap64 (d + 1)) L1 b1 (by rw [hr1, e]) RA.out.1 RA.out.2)
                           clear hr1 RF
                           cases r1 with
                           | none =>
                             obtain rfl := Option.some.inj hRF
                             have IH := Lib.hid IH
                             go_wp2_with (go_at_call 44; refine (IH.out).mono ?_; rintro e w' ⟨rfl, hb⟩)
                             exact ⟨rfl, rfl, RB.out.trans hb⟩
                           | some q1 =>
                             obtain ⟨L1, b1⟩ := q1
                             simp only at hRF
                             have IH := Lib.hid IH
                             go_wp2_with (go_at_call 44; refine (IH.out).mono ?_; rintro e wa ⟨rfl, sla, hba, hra, hda⟩; have BA := Lib.hid hba; have RA1 := Lib.hid hra; have DA := Lib.hid (RB.out.trans hda); clear hba hra hda)
                             have P2 := next_calls b s b1 sla wa BA.out hs
                             have lb : b1 ≤ s.size ∧ L1.length ≤ b1 := LB.out _ _ rfl
                             cases h2 : rdNext s b1 with
                             | none =>
                               rw [h2] at P2 hRF
                               obtain rfl := Option.some.inj hRF
                               have P2 := Lib.hid P2
                               go_wp2_with (go_at_call 66; refine (P2.out).mono ?_; rintro e w' ⟨rfl, hb⟩)
                               exact ⟨rfl, rfl, DA.out.trans hb⟩
                             | some q2 =>
                               obtain ⟨c2, b2⟩ := q2
                               rw [h2] at P2 hRF
                               simp only at hRF
                               have l2 := next_le h2
                               obtain ⟨cj, hcj⟩ : ∃ cj : Int, cj = (c2.toNat : Int) := ⟨_, rfl⟩
                               have Q2 : Calls Tryd.prog 66 #[.pointer (some ⟨b, 0, none⟩)] wa fun e w' => e = .returned (.int .u8 cj) ∧ RdBlk b s b2 sla w' ∧ Fr b wa w' := by rw [hcj]; exact P2
                               have Q2 := Lib.hid Q2
                               clear P2 h2 IH
                               by_cases ks : c2 = 125
                               · rw [if_pos ks] at hRF
                                 obtain rfl := Option.some.inj hRF
                                 obtain rfl : cj = 125 := by rw [hcj, ks]; rfl
                                 clear hcj
                                 go_wp2_with (go_at_call 66; refine (Q2.out).mono ?_; rintro e wb ⟨rfl, hb, hf⟩; have BB := Lib.hid hb; have RB2 := Lib.hid (Kd.R_mono (ok' := fun _ => True) (Kd.R_move (w1 := wb) (Kd.R_bound RA1.out) (fun k hk => hf.2 k (by have := hk.2.1; omega) hk.2.2.1)) (fun _ _ => trivial)); have DB := Lib.hid (DA.out.trans hf.1); clear hb hf)
                                 refine bodyPost_ret (results_none rfl _ _ _) rfl ?_
                                 exact ⟨rfl, _, BB.out, RB2.out, DB.out⟩
                               · rw [if_neg ks] at hRF
                                 have es : (cj == 125) = false := beq_eq_false_iff_ne.mpr (by rw [hcj]; exact u8_ne ks rfl)
                                 by_cases k4 : c2 = 44
                                 · rw [if_pos k4] at hRF
                                   obtain rfl : cj = 44 := by rw [hcj, k4]; rfl
                                   have HRF := Lib.hid hRF
                                   clear hcj hRF ks
                                   go_wp2_with (go_at_call 66; refine (Q2.out).mono ?_; rintro e wb ⟨rfl, hb, hf⟩; have BB := Lib.hid hb; have RB2 := Lib.hid (Kd.R_mono (ok' := fun _ => True) (Kd.R_move (w1 := wb) (Kd.R_bound RA1.out) (fun k hk => hf.2 k (by have := hk.2.1; omega) hk.2.2.1)) (fun _ _ => trivial)); have DB := Lib.hid (DA.out.trans hf.1); clear hb hf)
                                   go_roundg gk
                                   case measure => omega
                                   case rel => exact ⟨b2, L1, sla, ⟨HRF.out⟩, ⟨by have := RK.out; omega⟩, ⟨BB.out⟩, ⟨RB2.out⟩, ⟨l2.2, by omega⟩, ⟨DB.out⟩⟩
                                 · rw [if_neg k4] at hRF
                                   obtain rfl := Option.some.inj hRF
                                   have e4 : (cj == 44) = false := beq_eq_false_iff_ne.mpr (by rw [hcj]; exact u8_ne k4 rfl)
                                   have e5 : (cj != 44) = true := bne_iff_ne.mpr (by rw [hcj]; exact u8_ne k4 rfl)
                                   clear hcj ks k4
                                   go_wp2_with (first | (go_at_call 66; refine (Q2.out).mono ?_; rintro e wb ⟨rfl, hb, hf⟩) | (go_at_call 45; refine (give_calls _ _).mono ?_; rintro e w'' ⟨rfl, hw⟩; rw [hw]; clear hw w''))
                                   exact ⟨rfl, rfl, DA.out.trans hf.1⟩
                     · rw [if_neg k123] at hF
                       have e123 : (ci == 123) = false := beq_eq_false_iff_ne.mpr (by rw [hci]; exact u8_ne k123 rfl)
                       by_cases k91 : c = 91
                       · rw [if_pos k91] at hF
                         obtain rfl : ci = 91 := by rw [hci, k91]; rfl
                         clear hci e44 e123
                         go_wp2_with (go_at_call 66; refine (Q8.out).mono ?_; rintro e w8 ⟨rfl, hb, hf⟩; have hg8 : w8.heap[g]? = wc.heap[g]? := hf.2 g hgb hgl; have R8 := Lib.hid (Kd.R_mono (ok' := fun _ => True) (Kd.R_move (w1 := w8) (Kd.R_bound RRR.out) (fun k hk => hf.2 k (by have := hk.2.1; omega) hk.2.2.1)) (fun _ _ => trivial)); have y1 : w8.cell? ⟨g, L.length * 7 + 1, none⟩ = some (.int .i64 0) := (show w8.cell? ⟨g, L.length * 7 + 1, none⟩ = wc.cell? ⟨g, L.length * 7 + 1, none⟩ by simp only [World.cell?, hg8]).trans (HCE.out 1 _ rfl); have f1 : w8.frozen? ⟨g, L.length * 7 + 1, none⟩ = false := (show w8.frozen? ⟨g, L.length * 7 + 1, none⟩ = wc.frozen? ⟨g, L.length * 7 + 1, none⟩ by simp only [World.frozen?, hg8]).trans (HFZ.out _); have y2 : w8.cell? ⟨b, 2, none⟩ = some (.slice (some ⟨g, 0, none⟩) (L.length + 1) cap) := (blk_cell hb 2).trans rfl; have B8 := Lib.hid hb; have D8 := Lib.hid (RBB.out.trans hf.1); have G8 := Lib.hid (show g < w8.heap.size from Nat.lt_of_lt_of_le hgl hf.1.size); clear hb hf hg8)
                         have R9 := Lib.hid (row_set R8.out (x' := ⟨d, 3, X, Y, W, H, 0⟩) (j := 1) (u := .int .i64 3) (by omega) rfl)
                         have B9 := Lib.hid (show RdBlk b s a8 (.slice (some ⟨g, 0, none⟩) (L.length + 1) cap) (w8.setCell ⟨g, L.length * 7 + 1, none⟩ (.int .i64 3)) from blk_far B8.out (p := ⟨g, L.length * 7 + 1, none⟩) hbg2 _)
                         have D9 := Lib.hid (D8.out.setCell (p := ⟨g, L.length * 7 + 1, none⟩) (by show b ≤ g; omega) (.int .i64 3))
                         have G9 := Lib.hid (show g < (w8.setCell ⟨g, L.length * 7 + 1, none⟩ (.int .i64 3)).heap.size by rw [World.size_setCell]; exact G8.out)
                         clear y1 f1 y2 R8 B8 D8 G8
                         try go_wp2_with fail
                         generalize w8.setCell ⟨g, L.length * 7 + 1, none⟩ (.int .i64 3) = w9 at R9 B9 D9 G9 ⊢
                         obtain ⟨g', cap', eg, _, _, hfz9, hce9⟩ := row_last R9.out
                         injection eg with eg1 eg2 eg3
                         injection eg1 with eg1
                         injection eg1 with eg1
                         subst eg1
                         have Y9 := Lib.hid (hce9 6 _ rfl)
                         have Z9 := Lib.hid (hfz9 (L.length * 7 + 6))
                         clear hfz9 hce9 eg3
                         go_loopg [] k (fun kq wr => ∃ (a' : Nat) (L' : List S45) (sl' : Value), Aside0 (loopR kq s a' L' d 93 = some r) ∧ Aside0 (kq ≤ k) ∧ Aside0 (RdBlk b s a' sl' wr) ∧ Aside0 (Kd.R k45 45 wr (b + 1) (fun _ => True) sl' L') ∧ Aside0 (a' ≤ s.size ∧ L'.length ≤ a') ∧ Aside0 (Below b w wr))
                         case atStart => exact ⟨a8, _, _, ⟨hF⟩, ⟨Nat.le_refl _⟩, ⟨B9.out⟩, ⟨R9.out⟩, ⟨l8.2, by simp; omega⟩, ⟨D9.out⟩⟩
                         case round =>
                           obtain ⟨a', L', sl', RF, RK, RW, RR, RA, RB⟩ := hrel
                           cases gk with
                           | zero => exact absurd RF.out (by simp [loopR])
                           | succ gk =>
                             have hRF := RF.out
                             rw [loopR] at hRF
                             obtain ⟨r1, hr1, hRF⟩ := Option.bind_eq_some_iff.1 hRF
                             have IH := ih gk (by have := RK.out; omega) b s a' sl' L' (wrap64 (d + 1)) r1 wr RW.out RR.out hs RA.out.1 RA.out.2 (fun W hW => HG.out W (RB.out.trans hW)) hr1
                             have LB := Lib.hid (fun L1 b1 (e : r1 = some (L1, b1)) => (rd_le gk).1 s a' L' (wrap64 (d + 1)) L1 b1 (by rw [hr1, e]) RA.out.1 RA.out.2)
                             clear hr1 RF
                             cases r1 with
                             | none =>
                               obtain rfl := Option.some.inj hRF
                               have IH := Lib.hid IH
                               go_wp2_with (go_at_call 44; refine (IH.out).mono ?_; rintro e w' ⟨rfl, hb⟩)
                               exact ⟨rfl, rfl, RB.out.trans hb⟩
                             | some q1 =>
                               obtain ⟨L1, b1⟩ := q1
                               simp only at hRF
                               have IH := Lib.hid IH
                               go_wp2_with (go_at_call 44; refine (IH.out).mono ?_; rintro e wa ⟨rfl, sla, hba, hra, hda⟩; have BA := Lib.hid hba; have RA1 := Lib.hid hra; have DA := Lib.hid (RB.out.trans hda); clear hba hra hda)
                               have P2 := next_calls b s b1 sla wa BA.out hs
                               have lb : b1 ≤ s.size ∧ L1.length ≤ b1 := LB.out _ _ rfl
                               cases h2 : rdNext s b1 with
                               | none =>
                                 rw [h2] at P2 hRF
                                 obtain rfl := Option.some.inj hRF
                                 have P2 := Lib.hid P2
                                 go_wp2_with (go_at_call 66; refine (P2.out).mono ?_; rintro e w' ⟨rfl, hb⟩)
                                 exact ⟨rfl, rfl, DA.out.trans hb⟩
                               | some q2 =>
                                 obtain ⟨c2, b2⟩ := q2
                                 rw [h2] at P2 hRF
                                 simp only at hRF
                                 have l2 := next_le h2
                                 obtain ⟨cj, hcj⟩ : ∃ cj : Int, cj = (c2.toNat : Int) := ⟨_, rfl⟩
                                 have Q2 : Calls Tryd.prog 66 #[.pointer (some ⟨b, 0, none⟩)] wa fun e w' => e = .returned (.int .u8 cj) ∧ RdBlk b s b2 sla w' ∧ Fr b wa w' := by rw [hcj]; exact P2
                                 have Q2 := Lib.hid Q2
                                 clear P2 h2 IH
                                 by_cases ks : c2 = 93
                                 · rw [if_pos ks] at hRF
                                   obtain rfl := Option.some.inj hRF
                                   obtain rfl : cj = 93 := by rw [hcj, ks]; rfl
                                   clear hcj
                                   go_wp2_with (go_at_call 66; refine (Q2.out).mono ?_; rintro e wb ⟨rfl, hb, hf⟩; have BB := Lib.hid hb; have RB2 := Lib.hid (Kd.R_mono (ok' := fun _ => True) (Kd.R_move (w1 := wb) (Kd.R_bound RA1.out) (fun k hk => hf.2 k (by have := hk.2.1; omega) hk.2.2.1)) (fun _ _ => trivial)); have DB := Lib.hid (DA.out.trans hf.1); clear hb hf)
                                   refine bodyPost_ret (results_none rfl _ _ _) rfl ?_
                                   exact ⟨rfl, _, BB.out, RB2.out, DB.out⟩
                                 · rw [if_neg ks] at hRF
                                   have es : (cj == 93) = false := beq_eq_false_iff_ne.mpr (by rw [hcj]; exact u8_ne ks rfl)
                                   by_cases k4 : c2 = 44
                                   · rw [if_pos k4] at hRF
                                     obtain rfl : cj = 44 := by rw [hcj, k4]; rfl
                                     have HRF := Lib.hid hRF
                                     clear hcj hRF ks
                                     go_wp2_with (go_at_call 66; refine (Q2.out).mono ?_; rintro e wb ⟨rfl, hb, hf⟩; have BB := Lib.hid hb; have RB2 := Lib.hid (Kd.R_mono (ok' := fun _ => True) (Kd.R_move (w1 := wb) (Kd.R_bound RA1.out) (fun k hk => hf.2 k (by have := hk.2.1; omega) hk.2.2.1)) (fun _ _ => trivial)); have DB := Lib.hid (DA.out.trans hf.1); clear hb hf)
                                     go_roundg gk
                                     case measure => omega
                                     case rel => exact ⟨b2, L1, sla, ⟨HRF.out⟩, ⟨by have := RK.out; omega⟩, ⟨BB.out⟩, ⟨RB2.out⟩, ⟨l2.2, by omega⟩, ⟨DB.out⟩⟩
                                   · rw [if_neg k4] at hRF
                                     obtain rfl := Option.some.inj hRF
                                     have e4 : (cj == 44) = false := beq_eq_false_iff_ne.mpr (by rw [hcj]; exact u8_ne k4 rfl)
                                     have e5 : (cj != 44) = true := bne_iff_ne.mpr (by rw [hcj]; exact u8_ne k4 rfl)
                                     clear hcj ks k4
                                     go_wp2_with (first | (go_at_call 66; refine (Q2.out).mono ?_; rintro e wb ⟨rfl, hb, hf⟩) | (go_at_call 45; refine (give_calls _ _).mono ?_; rintro e w'' ⟨rfl, hw⟩; rw [hw]; clear hw w''))
                                     exact ⟨rfl, rfl, DA.out.trans hf.1⟩
                       · rw [if_neg k91] at hF
                         have e91 : (ci == 91) = false := beq_eq_false_iff_ne.mpr (by rw [hci]; exact u8_ne k91 rfl)
                         obtain rfl := Option.some.inj hF
                         clear k44 k123 k91 hci
                         go_wp2_with (first | (go_at_call 66; refine (Q8.out).mono ?_; rintro e w8 ⟨rfl, hb, hf⟩) | (go_at_call 45; refine (give_calls _ _).mono ?_; rintro e w'' ⟨rfl, hw⟩; rw [hw]; clear hw w''))
                         exact ⟨rfl, rfl, RBB.out.trans hf.1⟩
end Go.Proofs.YtmpnkckaohfflaaDoor.PGiv
end
section
namespace Go.Proofs.YtmpnkckaohfflaaDoor.PGiv
open Go.RowKit Go.Proofs.YtmpnkckaohfflaaDoorW.PrintWords Go.Proofs.YtmpnkckaohfflaaDoorW.PrintLast Go.Proofs.YtmpnkckaohfflaaDoorW.PrintMore Go.Proofs.YtmpnkckaohfflaaDoor.K Go.Proofs.YtmpnkckaohfflaaDoor.Num
set_option linter.unusedVariables false
set_option linter.unusedSimpArgs false
theorem mine (w : World) : (Instr.typeAssert brokenV 20 88 true).run Tryd.prog w = .ok (.tuple #[.agg #[], .bool true]) w := by kernel_rfl
set_option maxHeartbeats 4000000 in
set_option maxRecDepth 100000 in
theorem catch_panicking (pl po : Nat) (x y : Value) (older : List PanicEntry) (w : World) (hl : w.heap[pl]? = some (.cells #[x] 22 (0, 0))) (ho : w.heap[po]? = some (.cells #[y] 4 (0, 0))) (hne : pl ≠ po) :
   CallsD Tryd.prog 43 #[.pointer (some ⟨pl, 0, none⟩), .pointer (some ⟨po, 0, none⟩)] (.panicking ({ v := brokenV, recovered := false } :: older)) w fun e u' w' =>
     e = .returned (.tuple #[]) ∧ u' = .panicking ({ v := brokenV, recovered := true } :: older) ∧ w' = ((w.setCell ⟨pl, 0, none⟩ (.slice none 0 0)).setCell ⟨po, 0, none⟩ (.bool false)).alloc (.cells #[] 88 (0, 0)) := by
 have hm := mine
 refine callsD_of_wpS Tryd.func43 rfl fun c₀ cs hu => ?_
 apply wpS_seq
 apply wpS_region
 simp [wpOpsS, go_sem, recoverD, hu, Tryd.ntmps43, Exit.thenS]
 refine wpS_of_wp ?_
 have hx : w.cell? ⟨pl, 0, none⟩ = some x := (blk_cell hl 0).trans rfl
 have hy : w.cell? ⟨po, 0, none⟩ = some y := (blk_cell ho 0).trans rfl
 have hfx : w.frozen? ⟨pl, 0, none⟩ = false := blk_frozen hl 0
 have hfy : w.frozen? ⟨po, 0, none⟩ = false := blk_frozen ho 0
 have hpl : pl < w.heap.size := blk_lt hl
 have hpo : po < w.heap.size := blk_lt ho
 have hne2 : ¬ po = pl := fun e => hne e.symm
 go_wp2
 exact ⟨rfl, _, rfl, _, results_none rfl _ _ _, rfl, rfl, rfl⟩
set_option maxHeartbeats 4000000 in
set_option maxRecDepth 100000 in
theorem catch_idle (pl po : Addr) (w : World) :
   CallsD Tryd.prog 43 #[.pointer (some pl), .pointer (some po)] .returning w fun e u' w' => e = .returned (.tuple #[]) ∧ u' = .returning ∧ w' = w := by
 refine callsD_of_wpS Tryd.func43 rfl fun c₀ cs hu => ?_
 apply wpS_seq
 apply wpS_region
 simp [wpOpsS, go_sem, recoverD, hu, Tryd.ntmps43, Exit.thenS]
 refine wpS_of_wp ?_
 go_wp2
 cases c₀
 simp_all [bodyPostS, results, Tryd.results43]
def bodyF (s : ByteArray) : Option (Option (List S45)) := (cellR 5000 s 0 [] 0).bind fun r => match r with
 | none => some none
 | some (L, a) => if a = s.size then some (some L) else some none
def BodyPost (w : World) (r : Option (List S45)) (e : Ending) (w' : World) : Prop :=
 match r with
 | none => e = .returned (.tuple #[.slice none 0 0, .bool false]) ∧ Below w.heap.size w w'
 | some L => ∃ v, e = .returned (.tuple #[v, .bool true]) ∧ Kd.R k45 45 w' w.heap.size (fun _ => True) v L ∧ Below w.heap.size w w'
theorem three_new2 (w : World) (a b c : Obj) : (((w.alloc a).alloc b).alloc c).heap[w.heap.size]? = some a ∧ (((w.alloc a).alloc b).alloc c).heap[w.heap.size + 1]? = some b ∧ (((w.alloc a).alloc b).alloc c).heap[w.heap.size + 2]? = some c ∧ (((w.alloc a).alloc b).alloc c).heap.size = w.heap.size + 3 ∧ Below w.heap.size w (((w.alloc a).alloc b).alloc c) := three_new w a b c
theorem door_facts (pl po : Nat) (x y : Value) (w : World) (hl : w.heap[pl]? = some (.cells #[x] 22 (0, 0))) (ho : w.heap[po]? = some (.cells #[y] 4 (0, 0))) (hne : pl ≠ po) :
   (((w.setCell ⟨pl, 0, none⟩ (.slice none 0 0)).setCell ⟨po, 0, none⟩ (.bool false)).alloc (.cells #[] 88 (0, 0))).cell? ⟨pl, 0, none⟩ = some (.slice none 0 0) ∧
   (((w.setCell ⟨pl, 0, none⟩ (.slice none 0 0)).setCell ⟨po, 0, none⟩ (.bool false)).alloc (.cells #[] 88 (0, 0))).cell? ⟨po, 0, none⟩ = some (.bool false) ∧
   ∀ B, B ≤ pl → B ≤ po → B ≤ w.heap.size → Below B w (((w.setCell ⟨pl, 0, none⟩ (.slice none 0 0)).setCell ⟨po, 0, none⟩ (.bool false)).alloc (.cells #[] 88 (0, 0))) := by
 have h1 := blk_put hl 0 (.slice none 0 0) rfl
 have h2 := blk_far h1 (p := ⟨po, 0, none⟩) hne (.bool false)
 have h3 := blk_far ho (p := ⟨pl, 0, none⟩) (fun e => hne e.symm) (.slice none 0 0)
 have h4 := blk_put h3 0 (.bool false) rfl
 refine ⟨cell_alloc ((blk_cell h2 0).trans rfl) _, cell_alloc ((blk_cell h4 0).trans rfl) _, fun B h1 h2 h3 => ?_⟩
 exact ((((Below.refl _ _).setCell (p := ⟨pl, 0, none⟩) h1 _).setCell (p := ⟨po, 0, none⟩) h2 _).alloc (by rw [World.size_setCell, World.size_setCell]; exact h3) _)
set_option maxHeartbeats 8000000 in
set_option maxRecDepth 100000 in
theorem body_calls (s : ByteArray) (r : Option (List S45)) (w : World) (HG : Glb w) (hs : s.size ≤ 1000000) (h : bodyF s = some r) :
   Calls Tryd.prog 30 #[.string s] w fun e w' => BodyPost w r e w' := by
 obtain ⟨q, hq, hr⟩ := Option.bind_eq_some_iff.1 h
 have hmf : ∀ (fn : Fn) (first cap : Array Value) (w : World), (Instr.makeFunc fn first cap).run Tryd.prog w = .ok (.func fn first cap) w := fun _ _ _ _ => rfl
 obtain ⟨N0, N1, N2, N3, N4⟩ := three_new2 w (.cells #[.slice none 0 0] 22 (0, 0)) (.cells #[.bool false] 4 (0, 0)) (.cells #[.string s, .int .i64 0, .slice none 0 0] 86 (0, 0))
 have CC := rcell_calls 5000 (w.heap.size + 2) s 0 (.slice none 0 0) [] 0 q (((w.alloc (.cells #[.slice none 0 0] 22 (0, 0))).alloc (.cells #[.bool false] 4 (0, 0))).alloc (.cells #[.string s, .int .i64 0, .slice none 0 0] 86 (0, 0))) N2 (Kd.R_nil _ _ _ _ _) hs (by omega) (by simp) (fun W hW => Glb.below HG (N4.trans (hW.mono (by omega)))) hq
 have CC := Lib.hid CC
 have NN := Lib.hid (And.intro N0 (And.intro N1 (And.intro N3 N4)))
 clear N0 N1 N2 N3 N4 h hq
 go_enter_defers Tryd.func30, Tryd.ntmps30
 cases q with
 | none =>
   obtain rfl := Option.some.inj hr
   go_wp2_with (go_at_call 44; refine (CC.out).mono ?_; rintro e w1 ⟨rfl, hb⟩; have HB := Lib.hid hb; clear hb)
   have hl : w1.heap[w.heap.size]? = some (.cells #[.slice none 0 0] 22 (0, 0)) := (HB.out.block _ (by omega)).trans NN.out.1
   have ho : w1.heap[w.heap.size + 1]? = some (.cells #[.bool false] 4 (0, 0)) := (HB.out.block _ (by omega)).trans NN.out.2.1
   have hd := door_facts w.heap.size (w.heap.size + 1) _ _ w1 hl ho (by omega)
   refine leaves_cons (f := 43) (args := #[.pointer (some ⟨w.heap.size, 0, none⟩), .pointer (some ⟨w.heap.size + 1, 0, none⟩)]) (by simp) (by simp [go_sem]) ?_
   refine (catch_panicking w.heap.size (w.heap.size + 1) _ _ [] w1 hl ho (by omega)).mono ?_
   rintro e u' w'' ⟨rfl, rfl, hw⟩
   rw [← hw] at hd
   obtain ⟨hd1, hd2, hd3⟩ := hd
   have BW : Below w.heap.size w w'' := (NN.out.2.2.2.trans (HB.out.mono (by omega))).trans (hd3 w.heap.size (Nat.le_refl _) (by omega) (Nat.le_trans NN.out.2.2.2.size (HB.out.mono (B' := w.heap.size) (by omega)).size))
   have HBW := Lib.hid BW
   clear hw hd3 BW hl ho
   simp [Leaves, settle, results, Tryd.results30, go_sem, hd1, hd2]
   exact ⟨rfl, HBW.out⟩
 | some q1 =>
   obtain ⟨L, a⟩ := q1
   simp only at hr
   by_cases ha : a = s.size
   · rw [if_pos ha] at hr
     obtain rfl := Option.some.inj hr
     subst ha
     have hne : ((s.size : Int) != (s.size : Int)) = false := by simp
     go_wp2_with (go_at_call 44; refine (CC.out).mono ?_; rintro e w1 ⟨rfl, sl, hB, hR, hb⟩; obtain ⟨As, cs', rfl⟩ := Kd.R_slice hR; have HB := Lib.hid hb; have RB := Lib.hid hB; have RR := Lib.hid hR; have y1 : w1.cell? ⟨w.heap.size + 1 + 1, 1, none⟩ = some (.int .i64 s.size) := (blk_cell hB 1).trans rfl; have y2 : w1.cell? ⟨w.heap.size + 1 + 1, 2, none⟩ = some (.slice As L.length cs') := (blk_cell hB 2).trans rfl; have hl : w1.heap[w.heap.size]? = some (.cells #[.slice none 0 0] 22 (0, 0)) := (hb.block _ (by omega)).trans NN.out.1; have ho : w1.heap[w.heap.size + 1]? = some (.cells #[.bool false] 4 (0, 0)) := (hb.block _ (by omega)).trans NN.out.2.1; have x1 : w1.cell? ⟨w.heap.size, 0, none⟩ = some (.slice none 0 0) := (blk_cell hl 0).trans rfl; have x2 : w1.frozen? ⟨w.heap.size, 0, none⟩ = false := blk_frozen hl 0; have x3 : w1.cell? ⟨w.heap.size + 1, 0, none⟩ = some (.bool false) := (blk_cell ho 0).trans rfl; have x4 : w1.frozen? ⟨w.heap.size + 1, 0, none⟩ = false := blk_frozen ho 0; have HL := Lib.hid hl; have HO := Lib.hid ho; clear hb hB hR hl ho)
     have h1 := blk_put HL.out 0 (.slice As L.length cs') rfl
     have h2 := blk_far h1 (p := ⟨w.heap.size + 1, 0, none⟩) (show w.heap.size ≠ w.heap.size + 1 by omega) (.bool true)
     have h3 := blk_far HO.out (p := ⟨w.heap.size, 0, none⟩) (show w.heap.size + 1 ≠ w.heap.size by omega) (.slice As L.length cs')
     have h4 := blk_put h3 0 (.bool true) rfl
     have hd1 := (blk_cell h2 0).trans (show _ = some (Value.slice As L.length cs') from rfl)
     have hd2 := (blk_cell h4 0).trans (show _ = some (Value.bool true) from rfl)
     have hR2 := Kd.R_far (p := ⟨w.heap.size + 1, 0, none⟩) (Kd.R_far (p := ⟨w.heap.size, 0, none⟩) (Kd.R_mono (Kd.R_bound RR.out) (fun k hk => (show k ≠ w.heap.size ∧ k ≠ w.heap.size + 1 from ⟨by have := hk.2.1; omega, by have := hk.2.1; omega⟩))) (fun k hk => hk.1) (.slice As L.length cs')) (fun k hk => hk.2) (.bool true)
     have hB2 : Below w.heap.size w ((w1.setCell ⟨w.heap.size, 0, none⟩ (.slice As L.length cs')).setCell ⟨w.heap.size + 1, 0, none⟩ (.bool true)) := ((NN.out.2.2.2.trans (HB.out.mono (by omega))).setCell (p := ⟨w.heap.size, 0, none⟩) (Nat.le_refl _) _).setCell (p := ⟨w.heap.size + 1, 0, none⟩) (Nat.le_succ _) _
     generalize (w1.setCell ⟨w.heap.size, 0, none⟩ (.slice As L.length cs')).setCell ⟨w.heap.size + 1, 0, none⟩ (.bool true) = w2 at hd1 hd2 hR2 hB2 ⊢
     have HR2 := Lib.hid hR2
     have HB2 := Lib.hid hB2
     clear h1 h2 h3 h4 hR2 hB2 x1 x2 x3 x4 y1 y2
     refine leaves_cons (f := 43) (args := #[.pointer (some ⟨w.heap.size, 0, none⟩), .pointer (some ⟨w.heap.size + 1, 0, none⟩)]) (by simp) (by simp [go_sem]) ?_
     refine (catch_idle ⟨w.heap.size, 0, none⟩ ⟨w.heap.size + 1, 0, none⟩ w2).mono ?_
     rintro e u' w'' ⟨rfl, rfl, hw⟩
     rw [hw]
     simp [Leaves, settle, results, Tryd.results30, go_sem, hd1, hd2]
     exact ⟨_, rfl, Kd.R_mono (Kd.R_lower HR2.out (by omega)) (fun _ _ => trivial), HB2.out⟩
   · rw [if_neg ha] at hr
     obtain rfl := Option.some.inj hr
     have hne : ((a : Int) != (s.size : Int)) = true := bne_iff_ne.mpr (by omega)
     have hne2 : (a != s.size) = true := bne_iff_ne.mpr ha
     clear ha
     go_wp2_with (first | (go_at_call 44; refine (CC.out).mono ?_; rintro e w1 ⟨rfl, sl, hB, hR, hb⟩; have HB := Lib.hid hb; have y1 : w1.cell? ⟨w.heap.size + 1 + 1, 1, none⟩ = some (.int .i64 a) := (blk_cell hB 1).trans rfl; clear hb hB hR) | (go_at_call 45; refine (give_calls _ _).mono ?_; rintro e w'' ⟨rfl, hw⟩; rw [hw]; clear hw w''))
     have hl : w1.heap[w.heap.size]? = some (.cells #[.slice none 0 0] 22 (0, 0)) := (HB.out.block _ (by omega)).trans NN.out.1
     have ho : w1.heap[w.heap.size + 1]? = some (.cells #[.bool false] 4 (0, 0)) := (HB.out.block _ (by omega)).trans NN.out.2.1
     have hd := door_facts w.heap.size (w.heap.size + 1) _ _ w1 hl ho (by omega)
     refine leaves_cons (f := 43) (args := #[.pointer (some ⟨w.heap.size, 0, none⟩), .pointer (some ⟨w.heap.size + 1, 0, none⟩)]) (by simp) (by simp [go_sem]) ?_
     refine (catch_panicking w.heap.size (w.heap.size + 1) _ _ [] w1 hl ho (by omega)).mono ?_
     rintro e u' w'' ⟨rfl, rfl, hw⟩
     rw [← hw] at hd
     obtain ⟨hd1, hd2, hd3⟩ := hd
     have BW : Below w.heap.size w w'' := (NN.out.2.2.2.trans (HB.out.mono (by omega))).trans (hd3 w.heap.size (Nat.le_refl _) (by omega) (Nat.le_trans NN.out.2.2.2.size (HB.out.mono (B' := w.heap.size) (by omega)).size))
     have HBW := Lib.hid BW
     clear hw hd3 BW hl ho
     simp [Leaves, settle, results, Tryd.results30, go_sem, hd1, hd2]
     exact ⟨rfl, HBW.out⟩
end Go.Proofs.YtmpnkckaohfflaaDoor.PGiv
end
section
namespace Go.Proofs.YtmpnkckaohfflaaDoor.PGiv
open Go.RowKit Go.Proofs.YtmpnkckaohfflaaDoorW.PrintWords Go.Proofs.YtmpnkckaohfflaaDoorW.PrintLast Go.Proofs.YtmpnkckaohfflaaDoorW.PrintMore Go.Proofs.YtmpnkckaohfflaaDoor.K Go.Proofs.YtmpnkckaohfflaaDoor.Num
set_option linter.unusedVariables false
set_option linter.unusedSimpArgs false
def hexD : ByteArray := ⟨#[48, 49, 50, 51, 52, 53, 54, 55, 56, 57, 97, 98, 99, 100, 101, 102]⟩
def hexAt (s : ByteArray) (i : Nat) : Bool := if h : i < s.size then decide (0 ≤ Lib.indexByte hexD.data.toList s[i]) else false
def hexTo (s : ByteArray) : Nat → Nat → Bool
 | 0, _ => true
 | k + 1, i => hexAt s i && hexTo s k (i + 1)
def tailF (s : ByteArray) : Option (List S45 × Int) := (bodyF (s.extract 5 s.size)).bind fun r => match r with
 | none => some ([], 50)
 | some L => (layout_Check.f L).bind fun e => if e = 0 then some (L, 0) else some ([], e)
def plan_Parse.f (s : ByteArray) : Option (List S45 × Int) :=
 if 2048 < s.size then some ([], 2) else if h : s.size < 5 then some ([], 50) else if s[4]'(by omega) ≠ 44 then some ([], 50) else if hexTo s 4 0 = false then some ([], 50)
 else (E.plan_Sum.f 200000 (s.extract 5 s.size)).bind fun n => (E.plan_four.f n).bind fun q => if (s.extract 0 4).toList = q.toList then tailF s else some ([], 51)
def ParsePost (w : World) (r1 : List S45) (r2 : Int) (e : Ending) (w' : World) : Prop := ∃ v0_ : Value, e = .returned (.tuple #[v0_, .int .i64 r2]) ∧ Kd.R k45 45 w' w.heap.size (fun _ => True) v0_ r1 ∧ Below w.heap.size w w'
theorem ParsePost.nil {w w' : World} {r2 : Int} {e : Ending} (he : e = .returned (.tuple #[.slice none 0 0, .int .i64 r2])) (hb : Below w.heap.size w w') : ParsePost w [] r2 e w' := ⟨_, he, Kd.R_nil _ _ _ _ _, hb⟩
set_option maxHeartbeats 16000000 in
set_option maxRecDepth 100000 in
theorem plan_Parse.calls (a0 : ByteArray) (r1 : List S45) (r2 : Int) (w : World) (HG : Aside0 (Glb w)) (h : plan_Parse.f a0 = some (r1, r2)) :
   Calls Tryd.prog 15 #[.string a0] w fun e w' => ParsePost w r1 r2 e w' := by
 unfold plan_Parse.f at h
 go_enter Tryd.func15, Tryd.ntmps15
 by_cases h1 : 2048 < a0.size
 · rw [if_pos h1] at h
   obtain ⟨rfl, rfl⟩ := Prod.mk.inj (Option.some.inj h)
   have d1 : decide ((2048 : Int) < (a0.size : Int)) = true := decide_eq_true (by omega)
   clear h
   go_wp2
   go_ret2
   exact ParsePost.nil rfl (Below.refl _ _)
 · rw [if_neg h1] at h
   have d1 : decide ((2048 : Int) < (a0.size : Int)) = false := decide_eq_false (by omega)
   by_cases h2 : a0.size < 5
   · rw [dif_pos h2] at h
     obtain ⟨rfl, rfl⟩ := Prod.mk.inj (Option.some.inj h)
     have d2 : decide ((a0.size : Int) < (5 : Int)) = true := decide_eq_true (by omega)
     clear h
     go_wp2
     go_ret2
     exact ParsePost.nil rfl (Below.refl _ _)
   · rw [dif_neg h2] at h
     have d2 : decide ((a0.size : Int) < (5 : Int)) = false := decide_eq_false (by omega)
     have h5 : 4 < a0.size := by omega
     by_cases h3 : a0[4]'h5 = 44
     · rw [if_neg (not_not_intro h3)] at h
       have d3 : (((a0[4]'h5).toNat : Int) != 44) = false := by rw [h3]; rfl
       have d4 : ((a0[4]'h5).toNat != 44) = false := by rw [h3]; rfl
       have HH := Lib.hid h
       clear h
       go_wp2
       obtain ⟨hb, hhb⟩ : ∃ hb : Bool, hexTo a0 4 0 = hb := ⟨_, rfl⟩
       rw [hhb] at HH
       have HHB := Lib.hid hhb
       clear hhb h3 d1 d2 d3 d4
       go_loopg [4] 4 (fun kq iv wr => ∃ i : Nat, iv = .int .i64 (i : Int) ∧ Aside0 (i + kq = 4) ∧ Aside0 (hexTo a0 kq i = hb) ∧ wr = w)
       case atStart => exact ⟨0, rfl, ⟨rfl⟩, ⟨HHB.out⟩, rfl⟩
       case round =>
         obtain ⟨i, rfl, RI, RH, hwr⟩ := hrel
         rw [hwr]
         clear hwr
         cases gk with
         | succ gk =>
           have hi4 : i < 4 := by have := RI.out; omega
           have his : i < a0.size := by omega
           have c1 : decide ((i : Int) < (4 : Int)) = true := decide_eq_true (by omega)
           have c2 : decide (i < 4) = true := decide_eq_true hi4
           have hRH := RH.out
           rw [hexTo] at hRH
           have IX := Tryd.strings_IndexByte hexD ((a0[i].toNat : Nat) : Int) w
           have hcv : ((a0[i].toNat : Nat) : Int).toNat.toUInt8 = a0[i] := by rw [Int.toNat_natCast]; exact UInt8.ofNat_toNat
           rw [hcv] at IX
           have hAt : hexAt a0 i = decide (0 ≤ Lib.indexByte hexD.data.toList a0[i]) := by rw [hexAt, dif_pos his]
           generalize hix : Lib.indexByte hexD.data.toList a0[i] = ix at IX hAt
           have IX := Lib.hid (show Calls Tryd.prog 29 #[.string ⟨#[48, 49, 50, 51, 52, 53, 54, 55, 56, 57, 97, 98, 99, 100, 101, 102]⟩, .int .u8 ((a0[i].toNat : Nat) : Int)] w (fun e w' => e = .returned (.int .i64 ix) ∧ w' = w) from IX)
           clear hcv hix
           by_cases hx : ix < 0
           · have hx' : decide (ix < 0) = true := decide_eq_true hx
             have hf : hb = false := by rw [hAt] at hRH; rw [← hRH]; simp; intro h; omega
             have HH1 := HH.out
             rw [if_pos hf] at HH1
             obtain ⟨e1, e2⟩ := Prod.mk.inj (Option.some.inj HH1)
             have E12 := Lib.hid (And.intro e1 e2)
             clear HH HH1 hRH hAt hx hf RH e1 e2
             go_wp2_with (go_at_call 29; refine (IX.out).mono ?_; rintro e w' ⟨rfl, hw⟩; rw [hw]; clear hw w')
             go_ret2
             rw [← E12.out.1, ← E12.out.2]
             exact ParsePost.nil rfl (Below.refl _ _)
           · have hx' : decide (ix < 0) = false := decide_eq_false hx
             have hf : hexTo a0 gk (i + 1) = hb := by rw [hAt, decide_eq_true (by omega : 0 ≤ ix)] at hRH; simpa using hRH
             have HF := Lib.hid hf
             clear hRH hAt hx hf RH
             go_wp2_with (go_at_call 29; refine (IX.out).mono ?_; rintro e w' ⟨rfl, hw⟩; rw [hw]; clear hw w')
             go_roundg gk
             case measure => omega
             case rel => exact ⟨i + 1, by push_cast; rfl, ⟨by have := RI.out; omega⟩, ⟨HF.out⟩, rfl⟩
         | zero =>
           have hi4 : i = 4 := RI.out
           subst hi4
           have hbt : hb = true := RH.out.symm
           subst hbt
           have HH1 := HH.out
           rw [if_neg (by simp)] at HH1
           obtain ⟨n, hn, HH1⟩ := Option.bind_eq_some_iff.1 HH1
           obtain ⟨q, hq, HH1⟩ := Option.bind_eq_some_iff.1 HH1
           have SU := Lib.hid (show ∀ W, Calls Tryd.prog 25 #[.string (a0.extract 5 a0.size)] W (fun e w' => e = .returned (.int .i64 n) ∧ Below W.heap.size W w') from fun W => (E.plan_Sum.calls 200000 (a0.extract 5 a0.size) n W hn).mono (by rintro e w' ⟨he, m, rfl⟩; exact ⟨he, pw_below_drewN (Below.refl _ _) m⟩))
           have FO := Lib.hid (show ∀ W, Calls Tryd.prog 24 #[.int .i64 n] W (fun e w' => e = .returned (.string q) ∧ Below W.heap.size W w') from fun W => E.plan_four.calls n q W hq)
           have HH2 := Lib.hid HH1
           clear HH HH1 hn hq RH RI
           have g1 : (0 ≤ (a0.size : Int)) = True := eq_true (by omega)
           have g2 : ((4 : Int) ≤ (a0.size : Int)) = True := eq_true (by omega)
           have g3 : ((5 : Int) ≤ (a0.size : Int)) = True := eq_true (by omega)
           have g4 : (4 ≤ a0.size) = True := eq_true (by omega)
           have g5 : (5 ≤ a0.size) = True := eq_true (by omega)
           go_wp2
           have BQ := Lib.hid (show Below w.heap.size w w.drew from (Below.refl _ _).drew)
           go_region_held3 (fun w' => True)
             (first | exact trivial)
             (first
               | (go_at_call 25
                  with_reducible refine (SU.out _).mono ?_
                  rintro e wn ⟨rfl, bn⟩
                  have BQ := Lib.hid (BQ.out.trans (bn.mono BQ.out.size))
                  clear bn)
               | (go_at_call 24
                  with_reducible refine (FO.out _).mono ?_
                  rintro e wn ⟨rfl, bn⟩
                  have BQ := Lib.hid (BQ.out.trans (bn.mono BQ.out.size))
                  clear bn))
           have hsz : (a0.extract 5 a0.size).size ≤ 1000000 := by rw [ByteArray.size_extract]; omega
           generalize hB : (!((a0.extract 0 4).toList == q.toList)) = bq
           cases bq with
           | false =>
             have hq : (a0.extract 0 4).toList = q.toList := by simpa using hB
             clear hB
             have HH3 := HH2.out
             rw [if_pos hq] at HH3
             obtain ⟨r, hr, HH3⟩ := Option.bind_eq_some_iff.1 HH3
             have BC := Lib.hid (body_calls (a0.extract 5 a0.size) r wn (Glb.below HG.out BQ.out) hsz hr)
             have HH4 := Lib.hid HH3
             clear HH2 HH3 hr hq hsz SU FO
             cases r with
             | none =>
               obtain ⟨e1, e2⟩ := Prod.mk.inj (Option.some.inj HH4.out)
               have E12 := Lib.hid (And.intro e1 e2)
               clear e1 e2 HH4
               go_wp2_with (go_at_call 30; refine (BC.out).mono ?_; rintro e wb ⟨rfl, hb⟩; have BB := Lib.hid (BQ.out.trans (hb.mono BQ.out.size)); clear hb)
               go_ret2
               rw [← E12.out.1, ← E12.out.2]
               exact ParsePost.nil rfl BB.out
             | some L =>
               obtain ⟨e, he, HH5⟩ := Option.bind_eq_some_iff.1 (show (layout_Check.f L).bind (fun e => if e = 0 then some (L, (0 : Int)) else some ([], e)) = some (r1, r2) from HH4.out)
               have HE := Lib.hid he
               have HH5 := Lib.hid HH5
               clear HH4 he
               go_wp2_with (go_at_call 30; refine (BC.out).mono ?_; rintro e' wb ⟨v, rfl, hR, hb⟩; obtain ⟨Av, cv, rfl, hlc, hC⟩ := Kd.R_reads hR; have BB := Lib.hid (BQ.out.trans (hb.mono BQ.out.size)); have RB := Lib.hid (Kd.R_lower hR BQ.out.size); have CK := Lib.hid (layout_Check.calls Av cv L e wb hC hlc HE.out); clear hb hR hC)
               by_cases e0 : e = 0
               · have HH6 := HH5.out
                 rw [if_pos e0] at HH6
                 obtain ⟨e1, e2⟩ := Prod.mk.inj (Option.some.inj HH6)
                 have E12 := Lib.hid (And.intro e1 e2)
                 clear e1 e2 HH5 HH6
                 subst e0
                 go_wp2_with (go_at_call 17; refine (CK.out).mono ?_; rintro e' wk ⟨rfl, hb⟩; have BK := Lib.hid (BB.out.trans (hb.mono BB.out.size)); have RK := Lib.hid (Kd.R_below RB.out hb); clear hb)
                 go_ret2
                 rw [← E12.out.1, ← E12.out.2]
                 exact ⟨_, rfl, RK.out, BK.out⟩
               · have HH6 := HH5.out
                 rw [if_neg e0] at HH6
                 obtain ⟨e1, e2⟩ := Prod.mk.inj (Option.some.inj HH6)
                 have E12 := Lib.hid (And.intro e1 e2)
                 have e0' : (e != 0) = true := bne_iff_ne.mpr e0
                 clear e1 e2 HH5 HH6 e0
                 go_wp2_with (go_at_call 17; refine (CK.out).mono ?_; rintro e' wk ⟨rfl, hb⟩; have BK := Lib.hid (BB.out.trans (hb.mono BB.out.size)); clear hb)
                 go_ret2
                 rw [← E12.out.1, ← E12.out.2]
                 exact ParsePost.nil rfl BK.out
           | true =>
             have hq : ¬ (a0.extract 0 4).toList = q.toList := by simpa using hB
             clear hB
             have HH3 := HH2.out
             rw [if_neg hq] at HH3
             obtain ⟨e1, e2⟩ := Prod.mk.inj (Option.some.inj HH3)
             have E12 := Lib.hid (And.intro e1 e2)
             clear HH2 HH3 hq e1 e2
             go_wp2
             go_ret2
             rw [← E12.out.1, ← E12.out.2]
             exact ParsePost.nil rfl BQ.out
     · rw [if_pos h3] at h
       obtain ⟨rfl, rfl⟩ := Prod.mk.inj (Option.some.inj h)
       have d3 : (((a0[4]'h5).toNat : Int) != 44) = true := bne_iff_ne.mpr (u8_ne h3 rfl)
       clear h
       go_wp2
       go_ret2
       exact ParsePost.nil rfl (Below.refl _ _)
end Go.Proofs.YtmpnkckaohfflaaDoor.PGiv
end
section
namespace Go.Proofs.YtmpnkckaohfflaaDoor.L
open Go.Proofs.YtmpnkckaohfflaaDoor.K Go.RowKit Go.Proofs.YtmpnkckaohfflaaDoorW.PrintWords Go.Proofs.YtmpnkckaohfflaaDoorW.PrintLast Go.Proofs.YtmpnkckaohfflaaDoorW.PrintMore
attribute [local go_sem] max2_int min2_int max_two min_two max_three min_three max_four min_four
set_option linter.unusedVariables false
set_option linter.unusedSimpArgs false
mutual
def mullionref04_Ids.l0 : Nat → List Int → Int → Int → Int → Int → Int → List (S72) → Option (List Int)
 | 0, _, _, _, _, _, _, _ => none
 | k + 1, x3, x4, x102000, x102001, x102002, x102003, x102004 => if x4 < (x102004.length : Int) then (if 0 ≤ x4 then ((mullionref04_Ids.f k ((rd_T72 x102004 x4).f0) ((rd_T72 x102004 x4).f1) ((rd_T72 x102004 x4).f2) ((rd_T72 x102004 x4).f3) ((rd_T72 x102004 x4).f4)).bind fun t106 => (if x3.length + t106.length < 17592186044416 then (mullionref04_Ids.l0 k (x3 ++ t106) (wrap64 (x4 + 1)) x102000 x102001 x102002 x102003 x102004) else (none))) else (none)) else (some x3)
def mullionref04_Ids.f : Nat → Int → Int → Int → Int → List (S72) → Option (List Int)
 | 0, _, _, _, _, _ => none
 | k + 1, a0_0, a0_1, a0_2, a0_3, l0_4 => if a0_0 = 1 then (some (([a0_3] : List Int))) else (mullionref04_Ids.l0 k ([] : List Int) 0 a0_0 a0_1 a0_2 a0_3 l0_4)
end
theorem mullionref04_Ids.mono_l : ∀ k, (∀ y0 y1 y2 y3 y4, LeO (mullionref04_Ids.f k y0 y1 y2 y3 y4) (mullionref04_Ids.f (k + 1) y0 y1 y2 y3 y4)) ∧ (∀ y0 y1 y2 y3 y4 y5 y6, LeO (mullionref04_Ids.l0 k y0 y1 y2 y3 y4 y5 y6) (mullionref04_Ids.l0 (k + 1) y0 y1 y2 y3 y4 y5 y6))
 | 0 => ⟨fun _ _ _ _ _ r h => by simp [mullionref04_Ids.f] at h, fun _ _ _ _ _ _ _ r h => by simp [mullionref04_Ids.l0] at h⟩
 | k + 1 => by
   obtain ⟨ih0, ih1⟩ := mullionref04_Ids.mono_l k
   refine ⟨?_, ?_⟩
   · intro y0 y1 y2 y3 y4
     unfold mullionref04_Ids.f
     repeat' first
     | (with_reducible exact ih0 _ _ _ _ _)
     | (with_reducible exact ih1 _ _ _ _ _ _ _)
     | (with_reducible exact LeO.refl _)
     | (with_reducible exact LeO.none _)
     | (with_reducible refine LeO.ite ?_ ?_)
     | (with_reducible refine LeO.bind ?_ (fun _ => ?_))
     | exact ih0 _ _ _ _ _
     | exact ih1 _ _ _ _ _ _ _
     | exact LeO.none _
     | refine LeO.ite ?_ ?_
     | refine LeO.bind ?_ (fun _ => ?_)
   · intro y0 y1 y2 y3 y4 y5 y6
     unfold mullionref04_Ids.l0
     repeat' first
     | (with_reducible exact ih0 _ _ _ _ _)
     | (with_reducible exact ih1 _ _ _ _ _ _ _)
     | (with_reducible exact LeO.refl _)
     | (with_reducible exact LeO.none _)
     | (with_reducible refine LeO.ite ?_ ?_)
     | (with_reducible refine LeO.bind ?_ (fun _ => ?_))
     | exact ih0 _ _ _ _ _
     | exact ih1 _ _ _ _ _ _ _
     | exact LeO.none _
     | refine LeO.ite ?_ ?_
     | refine LeO.bind ?_ (fun _ => ?_)
theorem mullionref04_Ids.mono : ∀ a0 a1 a2 a3 a4 k, LeO (mullionref04_Ids.f k a0 a1 a2 a3 a4) (mullionref04_Ids.f (k + 1) a0 a1 a2 a3 a4) := by
 intro a0 a1 a2 a3 a4 k
 obtain ⟨ih0, ih1⟩ := mullionref04_Ids.mono_l k
 exact ih0 a0 a1 a2 a3 a4
set_option maxHeartbeats 8000000 in
set_option maxRecDepth 100000 in
theorem mullionref04_Ids.calls (k : Nat) : ∀ (a0_0 : Int) (a0_1 : Int) (a0_2 : Int) (a0_3 : Int) (A0_4 : Option Addr) (c0_4 : Nat) (l0_4 : List (S72)) (r : List Int) (w : World) (hr0_4 : Kd.C k72 w A0_4 l0_4.length l0_4) (hc0_4 : l0_4.length ≤ c0_4) (h : mullionref04_Ids.f k a0_0 a0_1 a0_2 a0_3 l0_4 = some r),
   Calls Tryd.prog 55 #[.agg #[.int .i64 a0_0, .int .i64 a0_1, .int .i64 a0_2, .int .i64 a0_3, .slice A0_4 l0_4.length c0_4]] w fun e w' => ∃ v0_ : Value, e = .returned (v0_) ∧ Kd.R (Kd.int .i64) 3 w' w.heap.size (fun _ => True) v0_ r ∧ Below w.heap.size w w' := by
 induction k using Nat.strongRecOn with
 | _ k ih =>
 intro a0_0 a0_1 a0_2 a0_3 A0_4 c0_4 l0_4 r w hr0_4 hc0_4 h
 cases k with
 | zero => exact absurd h (by simp [mullionref04_Ids.f])
 | succ k =>
 simp only [mullionref04_Ids.f] at h
 have hu72 := Tryd.underlying72
 have HR0_4 := Aside0.mk hr0_4
 have HC0_4 := Aside0.mk hc0_4
 clear hr0_4 hc0_4
 have HB := Aside0.mk (Below.refl w.heap.size w)
 have H : (if a0_0 = 1 then (some (([a0_3] : List Int))) else (mullionref04_Ids.l0 k ([] : List Int) 0 a0_0 a0_1 a0_2 a0_3 l0_4)) = some r := h
 clear h
 by_cases c2 : a0_0 = 1
 · rw [if_pos c2] at H
   have c2b0 : (a0_0 == 1) = true := beq_iff_eq.mpr c2
   have c2b1 : (a0_0 != 1) = false := bne_eq_false_iff_eq.mpr c2
   clear c2
   obtain ⟨y102, hy102⟩ : ∃ y_ : List Int, y_ = (([a0_3] : List Int)) := ⟨_, rfl⟩
   replace H : (some y102) = some r := by first | (rw [hy102]; with_reducible exact H) | (have H2_ := (Option.bind_some _ _).symm.trans H; rw [hy102]; with_reducible exact H2_) | (have H2_ := (Option.bind_some _ _).symm.trans H; with_reducible exact H2_) | with_reducible exact H | (rw [hy102]; exact H) | exact H
   have Ny102 := Aside0.mk hy102
   clear hy102
   obtain rfl := Option.some.inj H
   go_enter Tryd.func55, Tryd.ntmps55
   go_wp2_with (first | ((with_reducible refine gate_dst (N := 1) rfl ?_); refine box_event ?hg (N := 1) ?hd (cs := #[.int .i64 a0_0, .int .i64 a0_1, .int .i64 a0_2, .int .i64 a0_3, .slice A0_4 l0_4.length c0_4]) (t := 72) ?hr ?_; (case hd => rfl); (case hg => rfl); (case hr => first | (go_simp; done) | (go_simp; rfl)); intro gb101 hg w3 hbox hb; have n0_ := Aside0.mk (below_step (by repeat (first | (with_reducible first | exact HB.out | apply below_alloc | apply pw_below_drewN | apply below_drew1) | exact HB.out)) hb); have n1_ := Aside0.mk (hbox); have n2_ := Aside0.mk ((by rw [hg]; exact (below_size (by repeat (first | (with_reducible first | exact HB.out | apply below_alloc | apply pw_below_drewN | apply below_drew1) | exact HB.out))) : w.heap.size ≤ gb101)); have n3_ := Aside0.mk ((by rw [hg]; exact (below_size (by repeat (first | (with_reducible first | exact HB.out | apply below_alloc | apply pw_below_drewN | apply below_drew1) | exact HB.out))) : w.heap.size ≤ gb101)); clear HB; have HB := n0_; have BK101 := n1_; have GW101 := n2_; have GE101 := n3_; clear n0_ n1_ n2_ n3_; clear hb hbox hg; have hcz4_0 : w3.cell? ⟨gb101, 0, none⟩ = some (.int .i64 a0_0) := (blk_cell BK101.out 0).trans rfl; have hcz4_1 : w3.cell? ⟨gb101, 1, none⟩ = some (.int .i64 a0_1) := (blk_cell BK101.out 1).trans rfl; have hcz4_2 : w3.cell? ⟨gb101, 2, none⟩ = some (.int .i64 a0_2) := (blk_cell BK101.out 2).trans rfl; have hcz4_3 : w3.cell? ⟨gb101, 3, none⟩ = some (.int .i64 a0_3) := (blk_cell BK101.out 3).trans rfl; have hcz4_4 : w3.cell? ⟨gb101, 4, none⟩ = some (.slice A0_4 l0_4.length c0_4) := (blk_cell BK101.out 4).trans rfl; have hfz4_0 := blk_frozen BK101.out 0; have hfz4_1 := blk_frozen BK101.out 1; have hfz4_2 := blk_frozen BK101.out 2; have hfz4_3 := blk_frozen BK101.out 3; have hfz4_4 := blk_frozen BK101.out 4) | ((with_reducible refine gate_dst (N := 10) rfl ?_); refine Kd.R_lit (Kd.int .i64) _ 3 ?hg (N := 10) ?hd (xs := ([a0_3] : List Int)) (inner := [.int .i64 a0_3]) (ok := fun _ => True) (okp := fun _ => True) ?hr ?hp (fun _ hk => hk) trivial (Below.refl _ _) (Nat.le_refl _) (by simp) ?_; (case hd => rfl); (case hg => rfl); (case hr => first | (go_simp; done) | (go_simp; rfl)); (case hp => exact (Reps.one (show Kd.M (Kd.int .i64) _ _ _ a0_3 [.int .i64 a0_3] from rfl) (Reps.none _ _))); intro v103 w5 ho6 hb hg_ hnew_; clear hg_ hnew_; (first | rw [← Ny102.out] at ho6 | (simp only [Int.reduceToNat] at ho6; rw [← Ny102.out] at ho6)); have n0_ := Aside0.mk (Kd.R_lower ho6 (below_size (by repeat (first | (with_reducible first | exact HB.out | apply below_alloc | apply pw_below_drewN | apply below_drew1 | refine below_set ?_ GE101.out) | exact HB.out)))); have n1_ := Aside0.mk (blk_below (g := gb101) (o := .cells #[.int .i64 a0_0, .int .i64 a0_1, .int .i64 a0_2, .int .i64 a0_3, .slice A0_4 l0_4.length c0_4] 72 (0, 0)) (by (with_reducible repeat (first | refine blk_drewN ?_ _ | refine blk_drew ?_ | refine blk_alloc ?_ _)); exact BK101.out) hb); have n2_ := Aside0.mk (below_step (by repeat (first | (with_reducible first | exact HB.out | apply below_alloc | apply pw_below_drewN | apply below_drew1 | refine below_set ?_ GE101.out) | exact HB.out)) hb); clear BK101; clear HB; have HO104 := n0_; have BK101 := n1_; have HB := n2_; clear n0_ n1_ n2_; clear hb ho6))
   go_ret
   exact ⟨_, by first | rfl | (simp [errW_none, errW_some] <;> rfl) | (simp [*, errW_none, errW_some] <;> rfl), by (with_reducible repeat (first | apply Kd.R_alloc | apply Kd.R_drewN | apply Kd.R_drew)); exact HO104.out, by repeat (first | (with_reducible first | exact HB.out | apply below_alloc | apply pw_below_drewN | apply below_drew1 | refine below_set ?_ GE101.out) | exact HB.out)⟩
 · rw [if_neg c2] at H
   have c2b0 : (a0_0 == 1) = false := beq_eq_false_iff_ne.mpr c2
   have c2b1 : (a0_0 != 1) = true := bne_iff_ne.mpr c2
   have H' := Aside0.mk H
   clear H
   go_enter Tryd.func55, Tryd.ntmps55
   go_wp2_with (first | ((with_reducible refine gate_dst (N := 1) rfl ?_); refine box_event ?hg (N := 1) ?hd (cs := #[.int .i64 a0_0, .int .i64 a0_1, .int .i64 a0_2, .int .i64 a0_3, .slice A0_4 l0_4.length c0_4]) (t := 72) ?hr ?_; (case hd => rfl); (case hg => rfl); (case hr => first | (go_simp; done) | (go_simp; rfl)); intro gb101 hg w7 hbox hb; have n0_ := Aside0.mk (below_step (by repeat (first | (with_reducible first | exact HB.out | apply below_alloc | apply pw_below_drewN | apply below_drew1) | exact HB.out)) hb); have n1_ := Aside0.mk (hbox); have n2_ := Aside0.mk ((by rw [hg]; exact (below_size (by repeat (first | (with_reducible first | exact HB.out | apply below_alloc | apply pw_below_drewN | apply below_drew1) | exact HB.out))) : w.heap.size ≤ gb101)); have n3_ := Aside0.mk ((by rw [hg]; exact (below_size (by repeat (first | (with_reducible first | exact HB.out | apply below_alloc | apply pw_below_drewN | apply below_drew1) | exact HB.out))) : w.heap.size ≤ gb101)); clear HB; have HB := n0_; have BK101 := n1_; have GW101 := n2_; have GE101 := n3_; clear n0_ n1_ n2_ n3_; clear hb hbox hg; have hcz8_0 : w7.cell? ⟨gb101, 0, none⟩ = some (.int .i64 a0_0) := (blk_cell BK101.out 0).trans rfl; have hcz8_1 : w7.cell? ⟨gb101, 1, none⟩ = some (.int .i64 a0_1) := (blk_cell BK101.out 1).trans rfl; have hcz8_2 : w7.cell? ⟨gb101, 2, none⟩ = some (.int .i64 a0_2) := (blk_cell BK101.out 2).trans rfl; have hcz8_3 : w7.cell? ⟨gb101, 3, none⟩ = some (.int .i64 a0_3) := (blk_cell BK101.out 3).trans rfl; have hcz8_4 : w7.cell? ⟨gb101, 4, none⟩ = some (.slice A0_4 l0_4.length c0_4) := (blk_cell BK101.out 4).trans rfl; have hfz8_0 := blk_frozen BK101.out 0; have hfz8_1 := blk_frozen BK101.out 1; have hfz8_2 := blk_frozen BK101.out 2; have hfz8_3 := blk_frozen BK101.out 3; have hfz8_4 := blk_frozen BK101.out 4))
   go_loopg [3, 4] k (fun kq v3 v4 w' => ∃ (x3_1 : List Int) (x4_1 : Int), v4 = .int .i64 x4_1 ∧ Aside0 (mullionref04_Ids.l0 kq x3_1 x4_1 a0_0 a0_1 a0_2 a0_3 l0_4 = some r) ∧ Aside0 (kq ≤ k) ∧ Aside0 (Kd.R (Kd.int .i64) 3 w' w.heap.size (fun _ => True) v3 x3_1) ∧ Aside0 (w'.heap[gb101]? = some (.cells #[.int .i64 a0_0, .int .i64 a0_1, .int .i64 a0_2, .int .i64 a0_3, (.slice A0_4 l0_4.length c0_4)] 72 (0, 0))) ∧ Aside0 (Below w.heap.size w w'))
   case atStart => exact ⟨(([] : List Int)), (0), (by first | rfl | (simp; done) | (simp [*]; done)), H', ⟨Nat.le_refl _⟩, ⟨by first | exact Kd.R_nil _ _ _ _ _ | exact Kd.N_nil _ _ _ _ _ | exact Kd.V_nil _ _ _ _ _ | exact Kd.Q_nil _ _ _ _ _ | exact Kd.S_nil _ _ _ _ _⟩, ⟨by (with_reducible repeat (first | refine blk_drewN ?_ _ | refine blk_drew ?_ | refine blk_alloc ?_ _)); exact BK101.out⟩, ⟨by repeat (first | (with_reducible first | exact HB.out | apply below_alloc | apply pw_below_drewN | apply below_drew1 | refine below_set ?_ GE101.out) | exact HB.out)⟩⟩
   case round =>
     clear H'
     try clear c2
     try clear c2b0
     try clear c2b1
     try clear p2
     try clear c5
     try clear hcz4_0
     try clear hcz4_1
     try clear hcz4_2
     try clear hcz4_3
     try clear hcz4_4
     try clear hcz8_0
     try clear hcz8_1
     try clear hcz8_2
     try clear hcz8_3
     try clear hcz8_4
     try clear hfz4_0
     try clear hfz4_1
     try clear hfz4_2
     try clear hfz4_3
     try clear hfz4_4
     try clear hfz8_0
     try clear hfz8_1
     try clear hfz8_2
     try clear hfz8_3
     try clear hfz8_4
     obtain ⟨x3_1, x4_1, rfl, HA, HK1, HO_3, BK101, HB⟩ := hrel
     cases gk with
     | zero => exact absurd HA.out (by simp [mullionref04_Ids.l0])
     | succ k1 =>
       have H := HA.out
       clear HA
       simp only [mullionref04_Ids.l0] at H
       by_cases c9 : x4_1 < (l0_4.length : Int)
       · rw [if_pos c9] at H
         have c9b0 : decide (x4_1 < (l0_4.length : Int)) = true := decide_eq_true c9
         clear c9
         by_cases c10 : 0 ≤ x4_1
         · rw [if_pos c10] at H
           have c10b0 : decide (0 ≤ x4_1) = true := decide_eq_true c10
           clear c10
           replace H := Option.bind_eq_some_iff.mp H
           obtain ⟨t106, A110, H⟩ := H
           replace H : (if x3_1.length + t106.length < 17592186044416 then (mullionref04_Ids.l0 k1 (x3_1 ++ t106) (wrap64 (x4_1 + 1)) a0_0 a0_1 a0_2 a0_3 l0_4) else (none)) = some r := H
           have A11 := Aside0.mk A110
           clear A110
           by_cases c12 : x3_1.length + t106.length < 17592186044416
           · rw [if_pos c12] at H
             have LMc12 := Aside0.mk c12
             clear c12
             obtain ⟨y109, hy109⟩ : ∃ y_ : List Int, y_ = (x3_1 ++ t106) := ⟨_, rfl⟩
             replace H : (mullionref04_Ids.l0 k1 y109 (wrap64 (x4_1 + 1)) a0_0 a0_1 a0_2 a0_3 l0_4) = some r := by first | (rw [hy109]; with_reducible exact H) | (have H2_ := (Option.bind_some _ _).symm.trans H; rw [hy109]; with_reducible exact H2_) | (have H2_ := (Option.bind_some _ _).symm.trans H; with_reducible exact H2_) | with_reducible exact H | (rw [hy109]; exact H) | exact H
             have Ny109 := Aside0.mk hy109
             clear hy109
             have H' := Aside0.mk H
             clear H
             have hcz13_0 : wr.cell? ⟨gb101, 0, none⟩ = some (.int .i64 a0_0) := (blk_cell BK101.out 0).trans rfl
             have hcz13_1 : wr.cell? ⟨gb101, 1, none⟩ = some (.int .i64 a0_1) := (blk_cell BK101.out 1).trans rfl
             have hcz13_2 : wr.cell? ⟨gb101, 2, none⟩ = some (.int .i64 a0_2) := (blk_cell BK101.out 2).trans rfl
             have hcz13_3 : wr.cell? ⟨gb101, 3, none⟩ = some (.int .i64 a0_3) := (blk_cell BK101.out 3).trans rfl
             have hcz13_4 : wr.cell? ⟨gb101, 4, none⟩ = some (.slice A0_4 l0_4.length c0_4) := (blk_cell BK101.out 4).trans rfl
             have hfz13_0 := blk_frozen BK101.out 0
             have hfz13_1 := blk_frozen BK101.out 1
             have hfz13_2 := blk_frozen BK101.out 2
             have hfz13_3 := blk_frozen BK101.out 3
             have hfz13_4 := blk_frozen BK101.out 4
             have p105 : 0 ≤ (x4_1 : Int) := of_decide_eq_true (by first | (with_reducible assumption) | assumption)
             have q105 : x4_1 < (l0_4.length : Int) := of_decide_eq_true (by first | (with_reducible assumption) | assumption)
             obtain ⟨ad105, A105_4, c105_4, e105, hx105_0, hx105_1, hx105_2, hx105_3, hx105_4, hl105_4, hi105_4⟩ := at_T72 HR0_4.out x4_1 p105 q105
             cases e105
             replace hx105_0 := (HB.out.cell (World.block_lt_of_cell? w _ hx105_0)).trans hx105_0
             replace hx105_1 := (HB.out.cell (World.block_lt_of_cell? w _ hx105_1)).trans hx105_1
             replace hx105_2 := (HB.out.cell (World.block_lt_of_cell? w _ hx105_2)).trans hx105_2
             replace hx105_3 := (HB.out.cell (World.block_lt_of_cell? w _ hx105_3)).trans hx105_3
             replace hx105_4 := (HB.out.cell (World.block_lt_of_cell? w _ hx105_4)).trans hx105_4
             have HR105_4 := Aside0.mk hi105_4
             have HC105_4 := Aside0.mk hl105_4
             clear hi105_4 hl105_4
             replace p105 := eq_true p105
             replace q105 := eq_true q105
             go_wp2_with (first | ((with_reducible refine gate_callee (f := 55) rfl ?_); refine goesL_ (some 24) rfl rfl Tryd.func55 (by kernel_rfl) rfl #[.agg #[.int .i64 ((rd_T72 l0_4 x4_1).f0), .int .i64 ((rd_T72 l0_4 x4_1).f1), .int .i64 ((rd_T72 l0_4 x4_1).f2), .int .i64 ((rd_T72 l0_4 x4_1).f3), .slice A105_4 ((rd_T72 l0_4 x4_1).f4).length c105_4]] rfl (by (try simp only [List.map_toArray, List.map_cons, List.map_nil]); first | done | rfl | (simp only [List.length_drop, List.length_take]; rfl)) ?_; (with_reducible refine (ih k1 (by have := HK1.out; omega) ((rd_T72 l0_4 x4_1).f0) ((rd_T72 l0_4 x4_1).f1) ((rd_T72 l0_4 x4_1).f2) ((rd_T72 l0_4 x4_1).f3) _ _ ((rd_T72 l0_4 x4_1).f4) t106 _ ?side1 ?side2 A11.out).mono ?_); (case side1 => repeat (first | exact (Kd.C_below HR105_4.out HB.out) | (with_reducible refine Kd.C_alloc ?_ _) | (with_reducible refine Kd.C_drewN ?_ _) | (with_reducible refine Kd.C_drew ?_))); (case side2 => exact HC105_4.out); rintro e w14 ⟨v107, rfl, ho0, hb⟩; refine ⟨_, rfl, ?_⟩; have n0_ := Aside0.mk (Kd.R_elder' (by (with_reducible repeat (first | apply Kd.R_alloc | apply Kd.R_drewN | apply Kd.R_drew)); exact HO_3.out) (Kd.R_base ho0) hb); have n1_ := Aside0.mk (Kd.R_lower (Kd.R_new' ho0 (Kd.R_lt (by (with_reducible repeat (first | apply Kd.R_alloc | apply Kd.R_drewN | apply Kd.R_drew)); exact HO_3.out))) (below_size (by repeat (first | (with_reducible first | exact HB.out | apply below_alloc | apply pw_below_drewN | apply below_drew1 | refine below_set ?_ GE101.out) | exact HB.out)))); have n2_ := Aside0.mk (blk_below (g := gb101) (o := .cells #[.int .i64 a0_0, .int .i64 a0_1, .int .i64 a0_2, .int .i64 a0_3, .slice (some ad105) l0_4.length c0_4] 72 (0, 0)) (by (with_reducible repeat (first | refine blk_drewN ?_ _ | refine blk_drew ?_ | refine blk_alloc ?_ _)); exact BK101.out) hb); have n3_ := Aside0.mk (below_step (by repeat (first | (with_reducible first | exact HB.out | apply below_alloc | apply pw_below_drewN | apply below_drew1 | refine below_set ?_ GE101.out) | exact HB.out)) hb); clear HO_3; clear BK101; clear HB; have HO_3 := n0_; have HO108 := n1_; have BK101 := n2_; have HB := n3_; clear n0_ n1_ n2_ n3_; (try clear hb); (try clear hb2); (try clear hk); (try clear hi); (try clear ho0); obtain ⟨Ao16, co16, eo16⟩ := Kd.R_slice HO108.out; subst eo16) | ((with_reducible refine gate_builtin (b := .append) (xs := #[.tmp 18, .tmp 24]) rfl ?_); at_builtin; refine Kd.R_append_rows (Kd.int .i64) (w0 := w) w.heap.size rfl (.tmp 18) (.tmp 24) 39 3 (.int .i64 0) 8 rfl Tryd.underlying39 info3 rfl (by decide) (by omega) u3 x3_1 t106 _ _ _ (fun k_ => some k_ ≠ (.slice Ao16 t106.length co16 : Value).ownBlock) (fun _ => False) rfl rfl ?aO ?aR (fun _ _ h => h) (fun _ h => h.elim) ?aF ?aB ?aS ?aL ?_; (case aR => repeat (first | exact (Kd.R_reads' HO108.out).2.2 | (with_reducible refine Kd.C_alloc ?_ _) | (with_reducible refine Kd.C_drewN ?_ _) | (with_reducible refine Kd.C_drew ?_))); (case aB => exact (by repeat (first | (with_reducible first | exact HB.out | apply below_alloc | apply pw_below_drewN | apply below_drew1 | refine below_set ?_ GE101.out) | exact HB.out))); (case aF => exact (fun k_ hk => Kd.fresh' (Kd.R_lt (by (with_reducible repeat (first | apply Kd.R_alloc | apply Kd.R_drewN | apply Kd.R_drew)); exact HO108.out)) k_ hk)); (case aO => exact (by (with_reducible repeat (first | apply Kd.R_alloc | apply Kd.R_drewN | apply Kd.R_drew)); exact Kd.R_mono HO_3.out (fun _ hk => hk.2))); (case aS => exact (below_size (by repeat (first | (with_reducible first | exact HB.out | apply below_alloc | apply pw_below_drewN | apply below_drew1 | refine below_set ?_ GE101.out) | exact HB.out)))); (case aL => have := LMc12.out; omega); intro v110 w15 ho hb hg hat; rw [← Ny109.out] at ho; have n0_ := Aside0.mk (blk_grown (g := gb101) (o := .cells #[.int .i64 a0_0, .int .i64 a0_1, .int .i64 a0_2, .int .i64 a0_3, .slice (some ad105) l0_4.length c0_4] 72 (0, 0)) (by (with_reducible repeat (first | refine blk_drewN ?_ _ | refine blk_drew ?_ | refine blk_alloc ?_ _)); exact BK101.out) hg (Kd.R_ne HO_3.out BK101.out (by decide))); have n1_ := Aside0.mk (Kd.R_after (ok := (fun _ => True)) (by (with_reducible repeat (first | apply Kd.R_alloc | apply Kd.R_drewN | apply Kd.R_drew)); exact HO108.out) hg hat); have n2_ := Aside0.mk (hb); have n3_ := Aside0.mk (ho); clear BK101; clear HO108; clear HB; clear HO_3; have BK101 := n0_; have HO108 := n1_; have HB := n2_; have HO111 := n3_; clear n0_ n1_ n2_ n3_; clear ho hb hg hat))
             go_roundg k1
             case measure => have := HK1.out; omega
             case rel => exact ⟨(y109), (wrap64 (x4_1 + 1)), (by first | rfl | (simp; done) | (simp [*]; done)), H', ⟨by have := HK1.out; omega⟩, ⟨by (with_reducible repeat (first | apply Kd.R_alloc | apply Kd.R_drewN | apply Kd.R_drew)); exact Kd.R_mono HO111.out (fun _ hk => trivial)⟩, ⟨by (with_reducible repeat (first | refine blk_drewN ?_ _ | refine blk_drew ?_ | refine blk_alloc ?_ _)); exact BK101.out⟩, ⟨by repeat (first | (with_reducible first | exact HB.out | apply below_alloc | apply pw_below_drewN | apply below_drew1 | refine below_set ?_ GE101.out) | exact HB.out)⟩⟩
           · rw [if_neg c12] at H
             exact absurd H (by simp)
         · rw [if_neg c10] at H
           exact absurd H (by simp)
       · rw [if_neg c9] at H
         have c9b0 : decide (x4_1 < (l0_4.length : Int)) = false := decide_eq_false c9
         clear c9
         obtain rfl := Option.some.inj H
         have hcz17_0 : wr.cell? ⟨gb101, 0, none⟩ = some (.int .i64 a0_0) := (blk_cell BK101.out 0).trans rfl
         have hcz17_1 : wr.cell? ⟨gb101, 1, none⟩ = some (.int .i64 a0_1) := (blk_cell BK101.out 1).trans rfl
         have hcz17_2 : wr.cell? ⟨gb101, 2, none⟩ = some (.int .i64 a0_2) := (blk_cell BK101.out 2).trans rfl
         have hcz17_3 : wr.cell? ⟨gb101, 3, none⟩ = some (.int .i64 a0_3) := (blk_cell BK101.out 3).trans rfl
         have hcz17_4 : wr.cell? ⟨gb101, 4, none⟩ = some (.slice A0_4 l0_4.length c0_4) := (blk_cell BK101.out 4).trans rfl
         have hfz17_0 := blk_frozen BK101.out 0
         have hfz17_1 := blk_frozen BK101.out 1
         have hfz17_2 := blk_frozen BK101.out 2
         have hfz17_3 := blk_frozen BK101.out 3
         have hfz17_4 := blk_frozen BK101.out 4
         go_wp2
         go_ret
         exact ⟨_, by first | rfl | (simp [errW_none, errW_some] <;> rfl) | (simp [*, errW_none, errW_some] <;> rfl), by (with_reducible repeat (first | apply Kd.R_alloc | apply Kd.R_drewN | apply Kd.R_drew)); exact HO_3.out, by repeat (first | (with_reducible first | exact HB.out | apply below_alloc | apply pw_below_drewN | apply below_drew1 | refine below_set ?_ GE101.out) | exact HB.out)⟩
mutual
def mullionref04_grown.l0 : Nat → List (S45) → Int → Int → Int → Int → Int → Int → Int → Int → Int → Int → Int → Int → List (S72) → Option (Int × Int × Int × Int × (List (S72)) × Int)
 | 0, _, _, _, _, _, _, _, _, _, _, _, _, _, _ => none
 | k + 1, x0, x8, x115000, x115001, x115002, x115003, x115004, x115005, x115006, x116000, x116001, x116002, x116003, x116004 => if x8 < (x0.length : Int) then (if 0 ≤ x8 then (if ((rd_T45 x0 x8).f0) > x115000 then ((mullionref04_grown.f k x0 x8).bind fun bt117 => (if x116004.length < 2513169434916 then (mullionref04_grown.l0 k x0 bt117.2.2.2.2.2 x115000 x115001 x115002 x115003 x115004 x115005 x115006 x116000 x116001 x116002 x116003 (x116004 ++ [(⟨bt117.1, bt117.2.1, bt117.2.2.1, bt117.2.2.2.1, bt117.2.2.2.2.1⟩ : S72)])) else (none))) else (some (x116000, x116001, x116002, x116003, x116004, x8))) else (none)) else (some (x116000, x116001, x116002, x116003, x116004, x8))
def mullionref04_grown.f : Nat → List (S45) → Int → Option (Int × Int × Int × Int × (List (S72)) × Int)
 | 0, _, _ => none
 | k + 1, l0, a1 => if 0 ≤ a1 then (if a1 < (l0.length : Int) then (mullionref04_grown.l0 k l0 (wrap64 (a1 + 1)) ((rd_T45 l0 a1).f0) ((rd_T45 l0 a1).f1) ((rd_T45 l0 a1).f2) ((rd_T45 l0 a1).f3) ((rd_T45 l0 a1).f4) ((rd_T45 l0 a1).f5) ((rd_T45 l0 a1).f6) ((rd_T45 l0 a1).f1) ((rd_T45 l0 a1).f4) ((rd_T45 l0 a1).f5) ((rd_T45 l0 a1).f6) ([] : List (S72))) else (none)) else (none)
end
theorem mullionref04_grown.mono_l : ∀ k, (∀ y0 y1, LeO (mullionref04_grown.f k y0 y1) (mullionref04_grown.f (k + 1) y0 y1)) ∧ (∀ y0 y1 y2 y3 y4 y5 y6 y7 y8 y9 y10 y11 y12 y13, LeO (mullionref04_grown.l0 k y0 y1 y2 y3 y4 y5 y6 y7 y8 y9 y10 y11 y12 y13) (mullionref04_grown.l0 (k + 1) y0 y1 y2 y3 y4 y5 y6 y7 y8 y9 y10 y11 y12 y13))
 | 0 => ⟨fun _ _ r h => by simp [mullionref04_grown.f] at h, fun _ _ _ _ _ _ _ _ _ _ _ _ _ _ r h => by simp [mullionref04_grown.l0] at h⟩
 | k + 1 => by
   obtain ⟨ih0, ih1⟩ := mullionref04_grown.mono_l k
   refine ⟨?_, ?_⟩
   · intro y0 y1
     unfold mullionref04_grown.f
     repeat' first
     | (with_reducible exact ih0 _ _)
     | (with_reducible exact ih1 _ _ _ _ _ _ _ _ _ _ _ _ _ _)
     | (with_reducible exact LeO.refl _)
     | (with_reducible exact LeO.none _)
     | (with_reducible refine LeO.ite ?_ ?_)
     | (with_reducible refine LeO.bind ?_ (fun _ => ?_))
     | exact ih0 _ _
     | exact ih1 _ _ _ _ _ _ _ _ _ _ _ _ _ _
     | exact LeO.none _
     | refine LeO.ite ?_ ?_
     | refine LeO.bind ?_ (fun _ => ?_)
   · intro y0 y1 y2 y3 y4 y5 y6 y7 y8 y9 y10 y11 y12 y13
     unfold mullionref04_grown.l0
     repeat' first
     | (with_reducible exact ih0 _ _)
     | (with_reducible exact ih1 _ _ _ _ _ _ _ _ _ _ _ _ _ _)
     | (with_reducible exact LeO.refl _)
     | (with_reducible exact LeO.none _)
     | (with_reducible refine LeO.ite ?_ ?_)
     | (with_reducible refine LeO.bind ?_ (fun _ => ?_))
     | exact ih0 _ _
     | exact ih1 _ _ _ _ _ _ _ _ _ _ _ _ _ _
     | exact LeO.none _
     | refine LeO.ite ?_ ?_
     | refine LeO.bind ?_ (fun _ => ?_)
theorem mullionref04_grown.mono : ∀ a0 a1 k, LeO (mullionref04_grown.f k a0 a1) (mullionref04_grown.f (k + 1) a0 a1) := by
 intro a0 a1 k
 obtain ⟨ih0, ih1⟩ := mullionref04_grown.mono_l k
 exact ih0 a0 a1
set_option maxHeartbeats 8000000 in
set_option maxRecDepth 100000 in
theorem mullionref04_grown.calls (k : Nat) : ∀ (A0 : Option Addr) (c0 : Nat) (l0 : List (S45)) (a1 : Int) (r1 : Int) (r2 : Int) (r3 : Int) (r4 : Int) (r5 : List (S72)) (r6 : Int) (w : World) (hr0 : Kd.C k45 w A0 l0.length l0) (hc0 : l0.length ≤ c0) (h : mullionref04_grown.f k l0 a1 = some (r1, r2, r3, r4, r5, r6)),
   Calls Tryd.prog 57 #[.slice A0 l0.length c0, .int .i64 a1] w fun e w' => ∃ v4_ : Value, e = .returned (.tuple #[.agg #[.int .i64 r1, .int .i64 r2, .int .i64 r3, .int .i64 r4, v4_], .int .i64 r6]) ∧ Kd.R k72 72 w' w.heap.size (fun _ => True) v4_ r5 ∧ Below w.heap.size w w' := by
 induction k using Nat.strongRecOn with
 | _ k ih =>
 intro A0 c0 l0 a1 r1 r2 r3 r4 r5 r6 w hr0 hc0 h
 cases k with
 | zero => exact absurd h (by simp [mullionref04_grown.f])
 | succ k =>
 simp only [mullionref04_grown.f] at h
 have hu72 := Tryd.underlying72
 have hu45 := Tryd.underlying45
 have HR0 := Aside0.mk hr0
 have HC0 := Aside0.mk hc0
 clear hr0 hc0
 have HB := Aside0.mk (Below.refl w.heap.size w)
 have H : (if 0 ≤ a1 then (if a1 < (l0.length : Int) then (mullionref04_grown.l0 k l0 (wrap64 (a1 + 1)) ((rd_T45 l0 a1).f0) ((rd_T45 l0 a1).f1) ((rd_T45 l0 a1).f2) ((rd_T45 l0 a1).f3) ((rd_T45 l0 a1).f4) ((rd_T45 l0 a1).f5) ((rd_T45 l0 a1).f6) ((rd_T45 l0 a1).f1) ((rd_T45 l0 a1).f4) ((rd_T45 l0 a1).f5) ((rd_T45 l0 a1).f6) ([] : List (S72))) else (none)) else (none)) = some (r1, r2, r3, r4, r5, r6) := h
 clear h
 by_cases c3 : 0 ≤ a1
 · rw [if_pos c3] at H
   have c3b0 : decide (0 ≤ a1) = true := decide_eq_true c3
   clear c3
   by_cases c4 : a1 < (l0.length : Int)
   · rw [if_pos c4] at H
     have c4b0 : decide (a1 < (l0.length : Int)) = true := decide_eq_true c4
     clear c4
     have H' := Aside0.mk H
     clear H
     go_enter Tryd.func57, Tryd.ntmps57
     go_wp2_with (first | ((with_reducible refine gate_dst (N := 4) rfl ?_); refine box_event ?hg (N := 4) ?hd (cs := #[.int .i64 0, .int .i64 0, .int .i64 0, .int .i64 0, .slice none 0 0]) (t := 72) ?hr ?_; (case hd => rfl); (case hg => rfl); (case hr => first | (go_simp; done) | (go_simp; rfl)); intro gb112 hg w5 hbox hb; have n0_ := Aside0.mk (below_step (by repeat (first | (with_reducible first | exact HB.out | apply below_alloc | apply pw_below_drewN | apply below_drew1) | exact HB.out)) hb); have n1_ := Aside0.mk (hbox); have n2_ := Aside0.mk ((by rw [hg]; exact (below_size (by repeat (first | (with_reducible first | exact HB.out | apply below_alloc | apply pw_below_drewN | apply below_drew1) | exact HB.out))) : w.heap.size ≤ gb112)); have n3_ := Aside0.mk ((by rw [hg]; exact (below_size (by repeat (first | (with_reducible first | exact HB.out | apply below_alloc | apply pw_below_drewN | apply below_drew1) | exact HB.out))) : w.heap.size ≤ gb112)); clear HB; have HB := n0_; have BK112 := n1_; have GW112 := n2_; have GE112 := n3_; clear n0_ n1_ n2_ n3_; clear hb hbox hg; have p113 : 0 ≤ (a1 : Int) := of_decide_eq_true (by first | (with_reducible assumption) | assumption); have q113 : a1 < (l0.length : Int) := of_decide_eq_true (by first | (with_reducible assumption) | assumption); obtain ⟨ad113, e113, hx113_0, hx113_1, hx113_2, hx113_3, hx113_4, hx113_5, hx113_6⟩ := at_T45 HR0.out a1 p113 q113; cases e113; replace hx113_0 := (HB.out.cell (World.block_lt_of_cell? w _ hx113_0)).trans hx113_0; replace hx113_1 := (HB.out.cell (World.block_lt_of_cell? w _ hx113_1)).trans hx113_1; replace hx113_2 := (HB.out.cell (World.block_lt_of_cell? w _ hx113_2)).trans hx113_2; replace hx113_3 := (HB.out.cell (World.block_lt_of_cell? w _ hx113_3)).trans hx113_3; replace hx113_4 := (HB.out.cell (World.block_lt_of_cell? w _ hx113_4)).trans hx113_4; replace hx113_5 := (HB.out.cell (World.block_lt_of_cell? w _ hx113_5)).trans hx113_5; replace hx113_6 := (HB.out.cell (World.block_lt_of_cell? w _ hx113_6)).trans hx113_6; replace p113 := eq_true p113; replace q113 := eq_true q113) | ((with_reducible refine gate_dst (N := 6) rfl ?_); refine box_event ?hg (N := 6) ?hd (cs := #[.int .i64 0, .int .i64 0, .int .i64 0, .int .i64 0, .int .i64 0, .int .i64 0, .int .i64 0]) (t := 45) ?hr ?_; (case hd => rfl); (case hg => rfl); (case hr => first | (go_simp; done) | (go_simp; rfl)); intro gb114 hg w6 hbox hb; have n0_ := Aside0.mk (blk_below (g := gb112) (o := .cells #[.int .i64 0, .int .i64 0, .int .i64 0, .int .i64 0, .slice none 0 0] 72 (0, 0)) (by (with_reducible repeat (first | refine blk_drewN ?_ _ | refine blk_drew ?_ | refine blk_alloc ?_ _)); exact BK112.out) hb); have n1_ := Aside0.mk (below_step (by repeat (first | (with_reducible first | exact HB.out | apply below_alloc | apply pw_below_drewN | apply below_drew1 | refine below_set ?_ GE112.out) | exact HB.out)) hb); have n2_ := Aside0.mk (hbox); have n3_ := Aside0.mk ((by rw [hg]; exact (below_size (by repeat (first | (with_reducible first | exact HB.out | apply below_alloc | apply pw_below_drewN | apply below_drew1 | refine below_set ?_ GE112.out) | exact HB.out))) : w.heap.size ≤ gb114)); have n4_ := Aside0.mk ((by rw [hg]; exact (below_size (by repeat (first | (with_reducible first | exact HB.out | apply below_alloc | apply pw_below_drewN | apply below_drew1 | refine below_set ?_ GE112.out) | exact HB.out))) : w.heap.size ≤ gb114)); have n5_ := Aside0.mk ((by rw [hg]; exact Nat.ne_of_lt (blk_lt (g := gb112) (o := .cells #[.int .i64 0, .int .i64 0, .int .i64 0, .int .i64 0, .slice none 0 0] 72 (0, 0)) (by (with_reducible repeat (first | refine blk_drewN ?_ _ | refine blk_drew ?_ | refine blk_alloc ?_ _)); exact BK112.out)) : gb112 ≠ gb114)); have n6_ := Aside0.mk ((by rw [hg]; exact Nat.ne_of_gt (blk_lt (g := gb112) (o := .cells #[.int .i64 0, .int .i64 0, .int .i64 0, .int .i64 0, .slice none 0 0] 72 (0, 0)) (by (with_reducible repeat (first | refine blk_drewN ?_ _ | refine blk_drew ?_ | refine blk_alloc ?_ _)); exact BK112.out)) : gb114 ≠ gb112)); clear BK112; clear HB; have BK112 := n0_; have HB := n1_; have BK114 := n2_; have GW114 := n3_; have GE114 := n4_; have NB112_114 := n5_; have NB114_112 := n6_; clear n0_ n1_ n2_ n3_ n4_ n5_ n6_; clear hb hbox hg; have hnb7 := NB114_112.out; have hnc7 := NB112_114.out; have hcz8_0 : w6.cell? ⟨gb114, 0, none⟩ = some (.int .i64 0) := (blk_cell BK114.out 0).trans rfl; have hcz8_1 : w6.cell? ⟨gb114, 1, none⟩ = some (.int .i64 0) := (blk_cell BK114.out 1).trans rfl; have hcz8_2 : w6.cell? ⟨gb114, 2, none⟩ = some (.int .i64 0) := (blk_cell BK114.out 2).trans rfl; have hcz8_3 : w6.cell? ⟨gb114, 3, none⟩ = some (.int .i64 0) := (blk_cell BK114.out 3).trans rfl; have hcz8_4 : w6.cell? ⟨gb114, 4, none⟩ = some (.int .i64 0) := (blk_cell BK114.out 4).trans rfl; have hcz8_5 : w6.cell? ⟨gb114, 5, none⟩ = some (.int .i64 0) := (blk_cell BK114.out 5).trans rfl; have hcz8_6 : w6.cell? ⟨gb114, 6, none⟩ = some (.int .i64 0) := (blk_cell BK114.out 6).trans rfl; have hfz8_0 := blk_frozen BK114.out 0; have hfz8_1 := blk_frozen BK114.out 1; have hfz8_2 := blk_frozen BK114.out 2; have hfz8_3 := blk_frozen BK114.out 3; have hfz8_4 := blk_frozen BK114.out 4; have hfz8_5 := blk_frozen BK114.out 5; have hfz8_6 := blk_frozen BK114.out 6) | ((with_reducible refine gate_dst (N := 7) rfl ?_); refine box_event ?hg (N := 7) ?hd (cs := #[.int .i64 0, .int .i64 0, .int .i64 0, .int .i64 0, .slice none 0 0]) (t := 72) ?hr ?_; (case hd => rfl); (case hg => rfl); (case hr => first | (go_simp; done) | (go_simp; rfl)); intro gb115 hg w9 hbox hb; have n0_ := Aside0.mk (blk_below (g := gb112) (o := .cells #[.int .i64 0, .int .i64 0, .int .i64 0, .int .i64 0, .slice none 0 0] 72 (0, 0)) (by (with_reducible repeat (first | refine blk_drewN ?_ _ | refine blk_drew ?_ | refine blk_alloc ?_ _)); refine blk_far ?_ NB112_114.out _; (with_reducible repeat (first | refine blk_drewN ?_ _ | refine blk_drew ?_ | refine blk_alloc ?_ _)); refine blk_far ?_ NB112_114.out _; (with_reducible repeat (first | refine blk_drewN ?_ _ | refine blk_drew ?_ | refine blk_alloc ?_ _)); refine blk_far ?_ NB112_114.out _; (with_reducible repeat (first | refine blk_drewN ?_ _ | refine blk_drew ?_ | refine blk_alloc ?_ _)); refine blk_far ?_ NB112_114.out _; (with_reducible repeat (first | refine blk_drewN ?_ _ | refine blk_drew ?_ | refine blk_alloc ?_ _)); refine blk_far ?_ NB112_114.out _; (with_reducible repeat (first | refine blk_drewN ?_ _ | refine blk_drew ?_ | refine blk_alloc ?_ _)); refine blk_far ?_ NB112_114.out _; (with_reducible repeat (first | refine blk_drewN ?_ _ | refine blk_drew ?_ | refine blk_alloc ?_ _)); refine blk_far ?_ NB112_114.out _; (with_reducible repeat (first | refine blk_drewN ?_ _ | refine blk_drew ?_ | refine blk_alloc ?_ _)); exact BK112.out) hb); have n1_ := Aside0.mk (blk_below (g := gb114) (o := .cells #[.int .i64 ((rd_T45 l0 a1).f0), .int .i64 ((rd_T45 l0 a1).f1), .int .i64 ((rd_T45 l0 a1).f2), .int .i64 ((rd_T45 l0 a1).f3), .int .i64 ((rd_T45 l0 a1).f4), .int .i64 ((rd_T45 l0 a1).f5), .int .i64 ((rd_T45 l0 a1).f6)] 45 (0, 0)) (by (with_reducible repeat (first | refine blk_drewN ?_ _ | refine blk_drew ?_ | refine blk_alloc ?_ _)); refine blk_put (cs := #[.int .i64 ((rd_T45 l0 a1).f0), .int .i64 ((rd_T45 l0 a1).f1), .int .i64 ((rd_T45 l0 a1).f2), .int .i64 ((rd_T45 l0 a1).f3), .int .i64 ((rd_T45 l0 a1).f4), .int .i64 ((rd_T45 l0 a1).f5), .int .i64 0]) ?_ 6 _ rfl; (with_reducible repeat (first | refine blk_drewN ?_ _ | refine blk_drew ?_ | refine blk_alloc ?_ _)); refine blk_put (cs := #[.int .i64 ((rd_T45 l0 a1).f0), .int .i64 ((rd_T45 l0 a1).f1), .int .i64 ((rd_T45 l0 a1).f2), .int .i64 ((rd_T45 l0 a1).f3), .int .i64 ((rd_T45 l0 a1).f4), .int .i64 0, .int .i64 0]) ?_ 5 _ rfl; (with_reducible repeat (first | refine blk_drewN ?_ _ | refine blk_drew ?_ | refine blk_alloc ?_ _)); refine blk_put (cs := #[.int .i64 ((rd_T45 l0 a1).f0), .int .i64 ((rd_T45 l0 a1).f1), .int .i64 ((rd_T45 l0 a1).f2), .int .i64 ((rd_T45 l0 a1).f3), .int .i64 0, .int .i64 0, .int .i64 0]) ?_ 4 _ rfl; (with_reducible repeat (first | refine blk_drewN ?_ _ | refine blk_drew ?_ | refine blk_alloc ?_ _)); refine blk_put (cs := #[.int .i64 ((rd_T45 l0 a1).f0), .int .i64 ((rd_T45 l0 a1).f1), .int .i64 ((rd_T45 l0 a1).f2), .int .i64 0, .int .i64 0, .int .i64 0, .int .i64 0]) ?_ 3 _ rfl; (with_reducible repeat (first | refine blk_drewN ?_ _ | refine blk_drew ?_ | refine blk_alloc ?_ _)); refine blk_put (cs := #[.int .i64 ((rd_T45 l0 a1).f0), .int .i64 ((rd_T45 l0 a1).f1), .int .i64 0, .int .i64 0, .int .i64 0, .int .i64 0, .int .i64 0]) ?_ 2 _ rfl; (with_reducible repeat (first | refine blk_drewN ?_ _ | refine blk_drew ?_ | refine blk_alloc ?_ _)); refine blk_put (cs := #[.int .i64 ((rd_T45 l0 a1).f0), .int .i64 0, .int .i64 0, .int .i64 0, .int .i64 0, .int .i64 0, .int .i64 0]) ?_ 1 _ rfl; (with_reducible repeat (first | refine blk_drewN ?_ _ | refine blk_drew ?_ | refine blk_alloc ?_ _)); refine blk_put (cs := #[.int .i64 0, .int .i64 0, .int .i64 0, .int .i64 0, .int .i64 0, .int .i64 0, .int .i64 0]) ?_ 0 _ rfl; (with_reducible repeat (first | refine blk_drewN ?_ _ | refine blk_drew ?_ | refine blk_alloc ?_ _)); exact BK114.out) hb); have n2_ := Aside0.mk (below_step (by repeat (first | (with_reducible first | exact HB.out | apply below_alloc | apply pw_below_drewN | apply below_drew1 | refine below_set ?_ GE112.out | refine below_set ?_ GE114.out) | exact HB.out)) hb); have n3_ := Aside0.mk (hbox); have n4_ := Aside0.mk ((by rw [hg]; exact (below_size (by repeat (first | (with_reducible first | exact HB.out | apply below_alloc | apply pw_below_drewN | apply below_drew1 | refine below_set ?_ GE112.out | refine below_set ?_ GE114.out) | exact HB.out))) : w.heap.size ≤ gb115)); have n5_ := Aside0.mk ((by rw [hg]; exact (below_size (by repeat (first | (with_reducible first | exact HB.out | apply below_alloc | apply pw_below_drewN | apply below_drew1 | refine below_set ?_ GE112.out | refine below_set ?_ GE114.out) | exact HB.out))) : w.heap.size ≤ gb115)); have n6_ := Aside0.mk ((by rw [hg]; exact Nat.ne_of_lt (blk_lt (g := gb112) (o := .cells #[.int .i64 0, .int .i64 0, .int .i64 0, .int .i64 0, .slice none 0 0] 72 (0, 0)) (by (with_reducible repeat (first | refine blk_drewN ?_ _ | refine blk_drew ?_ | refine blk_alloc ?_ _)); refine blk_far ?_ NB112_114.out _; (with_reducible repeat (first | refine blk_drewN ?_ _ | refine blk_drew ?_ | refine blk_alloc ?_ _)); refine blk_far ?_ NB112_114.out _; (with_reducible repeat (first | refine blk_drewN ?_ _ | refine blk_drew ?_ | refine blk_alloc ?_ _)); refine blk_far ?_ NB112_114.out _; (with_reducible repeat (first | refine blk_drewN ?_ _ | refine blk_drew ?_ | refine blk_alloc ?_ _)); refine blk_far ?_ NB112_114.out _; (with_reducible repeat (first | refine blk_drewN ?_ _ | refine blk_drew ?_ | refine blk_alloc ?_ _)); refine blk_far ?_ NB112_114.out _; (with_reducible repeat (first | refine blk_drewN ?_ _ | refine blk_drew ?_ | refine blk_alloc ?_ _)); refine blk_far ?_ NB112_114.out _; (with_reducible repeat (first | refine blk_drewN ?_ _ | refine blk_drew ?_ | refine blk_alloc ?_ _)); refine blk_far ?_ NB112_114.out _; (with_reducible repeat (first | refine blk_drewN ?_ _ | refine blk_drew ?_ | refine blk_alloc ?_ _)); exact BK112.out)) : gb112 ≠ gb115)); have n7_ := Aside0.mk ((by rw [hg]; exact Nat.ne_of_gt (blk_lt (g := gb112) (o := .cells #[.int .i64 0, .int .i64 0, .int .i64 0, .int .i64 0, .slice none 0 0] 72 (0, 0)) (by (with_reducible repeat (first | refine blk_drewN ?_ _ | refine blk_drew ?_ | refine blk_alloc ?_ _)); refine blk_far ?_ NB112_114.out _; (with_reducible repeat (first | refine blk_drewN ?_ _ | refine blk_drew ?_ | refine blk_alloc ?_ _)); refine blk_far ?_ NB112_114.out _; (with_reducible repeat (first | refine blk_drewN ?_ _ | refine blk_drew ?_ | refine blk_alloc ?_ _)); refine blk_far ?_ NB112_114.out _; (with_reducible repeat (first | refine blk_drewN ?_ _ | refine blk_drew ?_ | refine blk_alloc ?_ _)); refine blk_far ?_ NB112_114.out _; (with_reducible repeat (first | refine blk_drewN ?_ _ | refine blk_drew ?_ | refine blk_alloc ?_ _)); refine blk_far ?_ NB112_114.out _; (with_reducible repeat (first | refine blk_drewN ?_ _ | refine blk_drew ?_ | refine blk_alloc ?_ _)); refine blk_far ?_ NB112_114.out _; (with_reducible repeat (first | refine blk_drewN ?_ _ | refine blk_drew ?_ | refine blk_alloc ?_ _)); refine blk_far ?_ NB112_114.out _; (with_reducible repeat (first | refine blk_drewN ?_ _ | refine blk_drew ?_ | refine blk_alloc ?_ _)); exact BK112.out)) : gb115 ≠ gb112)); have n8_ := Aside0.mk ((by rw [hg]; exact Nat.ne_of_lt (blk_lt (g := gb114) (o := .cells #[.int .i64 ((rd_T45 l0 a1).f0), .int .i64 ((rd_T45 l0 a1).f1), .int .i64 ((rd_T45 l0 a1).f2), .int .i64 ((rd_T45 l0 a1).f3), .int .i64 ((rd_T45 l0 a1).f4), .int .i64 ((rd_T45 l0 a1).f5), .int .i64 ((rd_T45 l0 a1).f6)] 45 (0, 0)) (by (with_reducible repeat (first | refine blk_drewN ?_ _ | refine blk_drew ?_ | refine blk_alloc ?_ _)); refine blk_put (cs := #[.int .i64 ((rd_T45 l0 a1).f0), .int .i64 ((rd_T45 l0 a1).f1), .int .i64 ((rd_T45 l0 a1).f2), .int .i64 ((rd_T45 l0 a1).f3), .int .i64 ((rd_T45 l0 a1).f4), .int .i64 ((rd_T45 l0 a1).f5), .int .i64 0]) ?_ 6 _ rfl; (with_reducible repeat (first | refine blk_drewN ?_ _ | refine blk_drew ?_ | refine blk_alloc ?_ _)); refine blk_put (cs := #[.int .i64 ((rd_T45 l0 a1).f0), .int .i64 ((rd_T45 l0 a1).f1), .int .i64 ((rd_T45 l0 a1).f2), .int .i64 ((rd_T45 l0 a1).f3), .int .i64 ((rd_T45 l0 a1).f4), .int .i64 0, .int .i64 0]) ?_ 5 _ rfl; (with_reducible repeat (first | refine blk_drewN ?_ _ | refine blk_drew ?_ | refine blk_alloc ?_ _)); refine blk_put (cs := #[.int .i64 ((rd_T45 l0 a1).f0), .int .i64 ((rd_T45 l0 a1).f1), .int .i64 ((rd_T45 l0 a1).f2), .int .i64 ((rd_T45 l0 a1).f3), .int .i64 0, .int .i64 0, .int .i64 0]) ?_ 4 _ rfl; (with_reducible repeat (first | refine blk_drewN ?_ _ | refine blk_drew ?_ | refine blk_alloc ?_ _)); refine blk_put (cs := #[.int .i64 ((rd_T45 l0 a1).f0), .int .i64 ((rd_T45 l0 a1).f1), .int .i64 ((rd_T45 l0 a1).f2), .int .i64 0, .int .i64 0, .int .i64 0, .int .i64 0]) ?_ 3 _ rfl; (with_reducible repeat (first | refine blk_drewN ?_ _ | refine blk_drew ?_ | refine blk_alloc ?_ _)); refine blk_put (cs := #[.int .i64 ((rd_T45 l0 a1).f0), .int .i64 ((rd_T45 l0 a1).f1), .int .i64 0, .int .i64 0, .int .i64 0, .int .i64 0, .int .i64 0]) ?_ 2 _ rfl; (with_reducible repeat (first | refine blk_drewN ?_ _ | refine blk_drew ?_ | refine blk_alloc ?_ _)); refine blk_put (cs := #[.int .i64 ((rd_T45 l0 a1).f0), .int .i64 0, .int .i64 0, .int .i64 0, .int .i64 0, .int .i64 0, .int .i64 0]) ?_ 1 _ rfl; (with_reducible repeat (first | refine blk_drewN ?_ _ | refine blk_drew ?_ | refine blk_alloc ?_ _)); refine blk_put (cs := #[.int .i64 0, .int .i64 0, .int .i64 0, .int .i64 0, .int .i64 0, .int .i64 0, .int .i64 0]) ?_ 0 _ rfl; (with_reducible repeat (first | refine blk_drewN ?_ _ | refine blk_drew ?_ | refine blk_alloc ?_ _)); exact BK114.out)) : gb114 ≠ gb115)); have n9_ := Aside0.mk ((by rw [hg]; exact Nat.ne_of_gt (blk_lt (g := gb114) (o := .cells #[.int .i64 ((rd_T45 l0 a1).f0), .int .i64 ((rd_T45 l0 a1).f1), .int .i64 ((rd_T45 l0 a1).f2), .int .i64 ((rd_T45 l0 a1).f3), .int .i64 ((rd_T45 l0 a1).f4), .int .i64 ((rd_T45 l0 a1).f5), .int .i64 ((rd_T45 l0 a1).f6)] 45 (0, 0)) (by (with_reducible repeat (first | refine blk_drewN ?_ _ | refine blk_drew ?_ | refine blk_alloc ?_ _)); refine blk_put (cs := #[.int .i64 ((rd_T45 l0 a1).f0), .int .i64 ((rd_T45 l0 a1).f1), .int .i64 ((rd_T45 l0 a1).f2), .int .i64 ((rd_T45 l0 a1).f3), .int .i64 ((rd_T45 l0 a1).f4), .int .i64 ((rd_T45 l0 a1).f5), .int .i64 0]) ?_ 6 _ rfl; (with_reducible repeat (first | refine blk_drewN ?_ _ | refine blk_drew ?_ | refine blk_alloc ?_ _)); refine blk_put (cs := #[.int .i64 ((rd_T45 l0 a1).f0), .int .i64 ((rd_T45 l0 a1).f1), .int .i64 ((rd_T45 l0 a1).f2), .int .i64 ((rd_T45 l0 a1).f3), .int .i64 ((rd_T45 l0 a1).f4), .int .i64 0, .int .i64 0]) ?_ 5 _ rfl; (with_reducible repeat (first | refine blk_drewN ?_ _ | refine blk_drew ?_ | refine blk_alloc ?_ _)); refine blk_put (cs := #[.int .i64 ((rd_T45 l0 a1).f0), .int .i64 ((rd_T45 l0 a1).f1), .int .i64 ((rd_T45 l0 a1).f2), .int .i64 ((rd_T45 l0 a1).f3), .int .i64 0, .int .i64 0, .int .i64 0]) ?_ 4 _ rfl; (with_reducible repeat (first | refine blk_drewN ?_ _ | refine blk_drew ?_ | refine blk_alloc ?_ _)); refine blk_put (cs := #[.int .i64 ((rd_T45 l0 a1).f0), .int .i64 ((rd_T45 l0 a1).f1), .int .i64 ((rd_T45 l0 a1).f2), .int .i64 0, .int .i64 0, .int .i64 0, .int .i64 0]) ?_ 3 _ rfl; (with_reducible repeat (first | refine blk_drewN ?_ _ | refine blk_drew ?_ | refine blk_alloc ?_ _)); refine blk_put (cs := #[.int .i64 ((rd_T45 l0 a1).f0), .int .i64 ((rd_T45 l0 a1).f1), .int .i64 0, .int .i64 0, .int .i64 0, .int .i64 0, .int .i64 0]) ?_ 2 _ rfl; (with_reducible repeat (first | refine blk_drewN ?_ _ | refine blk_drew ?_ | refine blk_alloc ?_ _)); refine blk_put (cs := #[.int .i64 ((rd_T45 l0 a1).f0), .int .i64 0, .int .i64 0, .int .i64 0, .int .i64 0, .int .i64 0, .int .i64 0]) ?_ 1 _ rfl; (with_reducible repeat (first | refine blk_drewN ?_ _ | refine blk_drew ?_ | refine blk_alloc ?_ _)); refine blk_put (cs := #[.int .i64 0, .int .i64 0, .int .i64 0, .int .i64 0, .int .i64 0, .int .i64 0, .int .i64 0]) ?_ 0 _ rfl; (with_reducible repeat (first | refine blk_drewN ?_ _ | refine blk_drew ?_ | refine blk_alloc ?_ _)); exact BK114.out)) : gb115 ≠ gb114)); clear BK112; clear BK114; clear HB; have BK112 := n0_; have BK114 := n1_; have HB := n2_; have BK115 := n3_; have GW115 := n4_; have GE115 := n5_; have NB112_115 := n6_; have NB115_112 := n7_; have NB114_115 := n8_; have NB115_114 := n9_; clear n0_ n1_ n2_ n3_ n4_ n5_ n6_ n7_ n8_ n9_; clear hb hbox hg; have hnb10 := NB115_112.out; have hnc10 := NB112_115.out; have hnb11 := NB115_114.out; have hnc11 := NB114_115.out; have hcz12_0 : w9.cell? ⟨gb115, 0, none⟩ = some (.int .i64 0) := (blk_cell BK115.out 0).trans rfl; have hcz12_1 : w9.cell? ⟨gb115, 1, none⟩ = some (.int .i64 0) := (blk_cell BK115.out 1).trans rfl; have hcz12_2 : w9.cell? ⟨gb115, 2, none⟩ = some (.int .i64 0) := (blk_cell BK115.out 2).trans rfl; have hcz12_3 : w9.cell? ⟨gb115, 3, none⟩ = some (.int .i64 0) := (blk_cell BK115.out 3).trans rfl; have hcz12_4 : w9.cell? ⟨gb115, 4, none⟩ = some (.slice none 0 0) := (blk_cell BK115.out 4).trans rfl; have hfz12_0 := blk_frozen BK115.out 0; have hfz12_1 := blk_frozen BK115.out 1; have hfz12_2 := blk_frozen BK115.out 2; have hfz12_3 := blk_frozen BK115.out 3; have hfz12_4 := blk_frozen BK115.out 4))
     repeat (go_quiet (fail); try go_wp2)
     go_loopg [8] k (fun kq v8 w' => ∃ (x8_1 : Int) (x116004_1 : List (S72)) (u116004 : Value), v8 = .int .i64 x8_1 ∧ Aside0 (mullionref04_grown.l0 kq l0 x8_1 ((rd_T45 l0 a1).f0) ((rd_T45 l0 a1).f1) ((rd_T45 l0 a1).f2) ((rd_T45 l0 a1).f3) ((rd_T45 l0 a1).f4) ((rd_T45 l0 a1).f5) ((rd_T45 l0 a1).f6) ((rd_T45 l0 a1).f1) ((rd_T45 l0 a1).f4) ((rd_T45 l0 a1).f5) ((rd_T45 l0 a1).f6) x116004_1 = some (r1, r2, r3, r4, r5, r6)) ∧ Aside0 (kq ≤ k) ∧ Aside0 (Kd.R k72 72 w' w.heap.size (fun k_ => k_ ≠ gb112 ∧ k_ ≠ gb115) u116004 x116004_1) ∧ Aside0 (w'.heap[gb112]? = some (.cells #[.int .i64 0, .int .i64 0, .int .i64 0, .int .i64 0, (.slice none 0 0)] 72 (0, 0))) ∧ Aside0 (w'.heap[gb114]? = some (.cells #[.int .i64 ((rd_T45 l0 a1).f0), .int .i64 ((rd_T45 l0 a1).f1), .int .i64 ((rd_T45 l0 a1).f2), .int .i64 ((rd_T45 l0 a1).f3), .int .i64 ((rd_T45 l0 a1).f4), .int .i64 ((rd_T45 l0 a1).f5), .int .i64 ((rd_T45 l0 a1).f6)] 45 (0, 0))) ∧ Aside0 (w'.heap[gb115]? = some (.cells #[.int .i64 ((rd_T45 l0 a1).f1), .int .i64 ((rd_T45 l0 a1).f4), .int .i64 ((rd_T45 l0 a1).f5), .int .i64 ((rd_T45 l0 a1).f6), u116004] 72 (0, 0))) ∧ Aside0 (Below w.heap.size w w'))
     case atStart => exact ⟨(wrap64 (a1 + 1)), (([] : List (S72))), (.slice none 0 0), (by first | rfl | (simp; done) | (simp [*]; done)), H', ⟨Nat.le_refl _⟩, ⟨by first | exact Kd.R_nil _ _ _ _ _ | exact Kd.N_nil _ _ _ _ _ | exact Kd.V_nil _ _ _ _ _ | exact Kd.Q_nil _ _ _ _ _ | exact Kd.S_nil _ _ _ _ _⟩, ⟨by (with_reducible repeat (first | refine blk_drewN ?_ _ | refine blk_drew ?_ | refine blk_alloc ?_ _)); refine blk_far ?_ NB112_115.out _; (with_reducible repeat (first | refine blk_drewN ?_ _ | refine blk_drew ?_ | refine blk_alloc ?_ _)); refine blk_far ?_ NB112_115.out _; (with_reducible repeat (first | refine blk_drewN ?_ _ | refine blk_drew ?_ | refine blk_alloc ?_ _)); refine blk_far ?_ NB112_115.out _; (with_reducible repeat (first | refine blk_drewN ?_ _ | refine blk_drew ?_ | refine blk_alloc ?_ _)); refine blk_far ?_ NB112_115.out _; (with_reducible repeat (first | refine blk_drewN ?_ _ | refine blk_drew ?_ | refine blk_alloc ?_ _)); refine blk_far ?_ NB112_115.out _; (with_reducible repeat (first | refine blk_drewN ?_ _ | refine blk_drew ?_ | refine blk_alloc ?_ _)); exact BK112.out⟩, ⟨by (with_reducible repeat (first | refine blk_drewN ?_ _ | refine blk_drew ?_ | refine blk_alloc ?_ _)); refine blk_far ?_ NB114_115.out _; (with_reducible repeat (first | refine blk_drewN ?_ _ | refine blk_drew ?_ | refine blk_alloc ?_ _)); refine blk_far ?_ NB114_115.out _; (with_reducible repeat (first | refine blk_drewN ?_ _ | refine blk_drew ?_ | refine blk_alloc ?_ _)); refine blk_far ?_ NB114_115.out _; (with_reducible repeat (first | refine blk_drewN ?_ _ | refine blk_drew ?_ | refine blk_alloc ?_ _)); refine blk_far ?_ NB114_115.out _; (with_reducible repeat (first | refine blk_drewN ?_ _ | refine blk_drew ?_ | refine blk_alloc ?_ _)); refine blk_far ?_ NB114_115.out _; (with_reducible repeat (first | refine blk_drewN ?_ _ | refine blk_drew ?_ | refine blk_alloc ?_ _)); exact BK114.out⟩, ⟨by (with_reducible repeat (first | refine blk_drewN ?_ _ | refine blk_drew ?_ | refine blk_alloc ?_ _)); refine blk_put (cs := #[.int .i64 ((rd_T45 l0 a1).f1), .int .i64 ((rd_T45 l0 a1).f4), .int .i64 ((rd_T45 l0 a1).f5), .int .i64 ((rd_T45 l0 a1).f6), .slice none 0 0]) ?_ 4 _ rfl; (with_reducible repeat (first | refine blk_drewN ?_ _ | refine blk_drew ?_ | refine blk_alloc ?_ _)); refine blk_put (cs := #[.int .i64 ((rd_T45 l0 a1).f1), .int .i64 ((rd_T45 l0 a1).f4), .int .i64 ((rd_T45 l0 a1).f5), .int .i64 0, .slice none 0 0]) ?_ 3 _ rfl; (with_reducible repeat (first | refine blk_drewN ?_ _ | refine blk_drew ?_ | refine blk_alloc ?_ _)); refine blk_put (cs := #[.int .i64 ((rd_T45 l0 a1).f1), .int .i64 ((rd_T45 l0 a1).f4), .int .i64 0, .int .i64 0, .slice none 0 0]) ?_ 2 _ rfl; (with_reducible repeat (first | refine blk_drewN ?_ _ | refine blk_drew ?_ | refine blk_alloc ?_ _)); refine blk_put (cs := #[.int .i64 ((rd_T45 l0 a1).f1), .int .i64 0, .int .i64 0, .int .i64 0, .slice none 0 0]) ?_ 1 _ rfl; (with_reducible repeat (first | refine blk_drewN ?_ _ | refine blk_drew ?_ | refine blk_alloc ?_ _)); refine blk_put (cs := #[.int .i64 0, .int .i64 0, .int .i64 0, .int .i64 0, .slice none 0 0]) ?_ 0 _ rfl; (with_reducible repeat (first | refine blk_drewN ?_ _ | refine blk_drew ?_ | refine blk_alloc ?_ _)); exact BK115.out⟩, ⟨by repeat (first | (with_reducible first | exact HB.out | apply below_alloc | apply pw_below_drewN | apply below_drew1 | refine below_set ?_ GE112.out | refine below_set ?_ GE114.out | refine below_set ?_ GE115.out) | exact HB.out)⟩⟩
     case round =>
       clear H'
       try clear c1
       try clear p1
       try clear q1
       try clear hx1
       try clear p2
       try clear c3
       try clear c3b0
       try clear c4
       try clear c4b0
       try clear c5
       try clear p6
       try clear c7
       try clear c10
       try clear c11
       try clear p11
       try clear q11
       try clear hx11
       try clear hcz12_0
       try clear hcz12_1
       try clear hcz12_2
       try clear hcz12_3
       try clear hcz12_4
       try clear hcz8_0
       try clear hcz8_1
       try clear hcz8_2
       try clear hcz8_3
       try clear hcz8_4
       try clear hcz8_5
       try clear hcz8_6
       try clear hfz12_0
       try clear hfz12_1
       try clear hfz12_2
       try clear hfz12_3
       try clear hfz12_4
       try clear hfz8_0
       try clear hfz8_1
       try clear hfz8_2
       try clear hfz8_3
       try clear hfz8_4
       try clear hfz8_5
       try clear hfz8_6
       try clear hx113_0
       try clear hx113_1
       try clear hx113_2
       try clear hx113_3
       try clear hx113_4
       try clear hx113_5
       try clear hx113_6
       try clear p113
       try clear q113
       obtain ⟨x8_1, x116004_1, u116004, rfl, HA, HK1, HO_116004, BK112, BK114, BK115, HB⟩ := hrel
       cases gk with
       | zero => exact absurd HA.out (by simp [mullionref04_grown.l0])
       | succ k1 =>
         have H := HA.out
         clear HA
         simp only [mullionref04_grown.l0] at H
         by_cases c13 : x8_1 < (l0.length : Int)
         · rw [if_pos c13] at H
           have c13b0 : decide (x8_1 < (l0.length : Int)) = true := decide_eq_true c13
           clear c13
           by_cases c14 : 0 ≤ x8_1
           · rw [if_pos c14] at H
             have c14b0 : decide (0 ≤ x8_1) = true := decide_eq_true c14
             clear c14
             by_cases c15 : ((rd_T45 l0 x8_1).f0) > ((rd_T45 l0 a1).f0)
             · rw [if_pos c15] at H
               have c15b0 : decide (((rd_T45 l0 a1).f0) < ((rd_T45 l0 x8_1).f0)) = true := decide_eq_true c15
               clear c15
               replace H := Option.bind_eq_some_iff.mp H
               obtain ⟨⟨t117, t118, t119, t120, t121, t124⟩, A160, H⟩ := H
               replace H : (if x116004_1.length < 2513169434916 then (mullionref04_grown.l0 k1 l0 t124 ((rd_T45 l0 a1).f0) ((rd_T45 l0 a1).f1) ((rd_T45 l0 a1).f2) ((rd_T45 l0 a1).f3) ((rd_T45 l0 a1).f4) ((rd_T45 l0 a1).f5) ((rd_T45 l0 a1).f6) ((rd_T45 l0 a1).f1) ((rd_T45 l0 a1).f4) ((rd_T45 l0 a1).f5) ((rd_T45 l0 a1).f6) (x116004_1 ++ [(⟨t117, t118, t119, t120, t121⟩ : S72)])) else (none)) = some (r1, r2, r3, r4, r5, r6) := H
               have A16 := Aside0.mk A160
               clear A160
               by_cases c17 : x116004_1.length < 2513169434916
               · rw [if_pos c17] at H
                 have LMc17 := Aside0.mk c17
                 clear c17
                 obtain ⟨y126, hy126⟩ : ∃ y_ : List (S72), y_ = (x116004_1 ++ [(⟨t117, t118, t119, t120, t121⟩ : S72)]) := ⟨_, rfl⟩
                 replace H : (mullionref04_grown.l0 k1 l0 t124 ((rd_T45 l0 a1).f0) ((rd_T45 l0 a1).f1) ((rd_T45 l0 a1).f2) ((rd_T45 l0 a1).f3) ((rd_T45 l0 a1).f4) ((rd_T45 l0 a1).f5) ((rd_T45 l0 a1).f6) ((rd_T45 l0 a1).f1) ((rd_T45 l0 a1).f4) ((rd_T45 l0 a1).f5) ((rd_T45 l0 a1).f6) y126) = some (r1, r2, r3, r4, r5, r6) := by first | (rw [hy126]; with_reducible exact H) | (have H2_ := (Option.bind_some _ _).symm.trans H; rw [hy126]; with_reducible exact H2_) | (have H2_ := (Option.bind_some _ _).symm.trans H; with_reducible exact H2_) | with_reducible exact H | (rw [hy126]; exact H) | exact H
                 have Ny126 := Aside0.mk hy126
                 clear hy126
                 have H' := Aside0.mk H
                 clear H
                 have p116 : 0 ≤ (x8_1 : Int) := of_decide_eq_true (by first | (with_reducible assumption) | assumption)
                 have q116 : x8_1 < (l0.length : Int) := of_decide_eq_true (by first | (with_reducible assumption) | assumption)
                 obtain ⟨ad116, e116, hx116_0, hx116_1, hx116_2, hx116_3, hx116_4, hx116_5, hx116_6⟩ := at_T45 HR0.out x8_1 p116 q116
                 obtain rfl : ad113 = ad116 := (by injection e116)
                 replace hx116_0 := (HB.out.cell (World.block_lt_of_cell? w _ hx116_0)).trans hx116_0
                 replace hx116_1 := (HB.out.cell (World.block_lt_of_cell? w _ hx116_1)).trans hx116_1
                 replace hx116_2 := (HB.out.cell (World.block_lt_of_cell? w _ hx116_2)).trans hx116_2
                 replace hx116_3 := (HB.out.cell (World.block_lt_of_cell? w _ hx116_3)).trans hx116_3
                 replace hx116_4 := (HB.out.cell (World.block_lt_of_cell? w _ hx116_4)).trans hx116_4
                 replace hx116_5 := (HB.out.cell (World.block_lt_of_cell? w _ hx116_5)).trans hx116_5
                 replace hx116_6 := (HB.out.cell (World.block_lt_of_cell? w _ hx116_6)).trans hx116_6
                 replace p116 := eq_true p116
                 replace q116 := eq_true q116
                 have hnb18 := NB114_112.out
                 have hnc18 := NB112_114.out
                 have hnb19 := NB114_115.out
                 have hnc19 := NB115_114.out
                 have hcz20_0 : wr.cell? ⟨gb114, 0, none⟩ = some (.int .i64 ((rd_T45 l0 a1).f0)) := (blk_cell BK114.out 0).trans rfl
                 have hcz20_1 : wr.cell? ⟨gb114, 1, none⟩ = some (.int .i64 ((rd_T45 l0 a1).f1)) := (blk_cell BK114.out 1).trans rfl
                 have hcz20_2 : wr.cell? ⟨gb114, 2, none⟩ = some (.int .i64 ((rd_T45 l0 a1).f2)) := (blk_cell BK114.out 2).trans rfl
                 have hcz20_3 : wr.cell? ⟨gb114, 3, none⟩ = some (.int .i64 ((rd_T45 l0 a1).f3)) := (blk_cell BK114.out 3).trans rfl
                 have hcz20_4 : wr.cell? ⟨gb114, 4, none⟩ = some (.int .i64 ((rd_T45 l0 a1).f4)) := (blk_cell BK114.out 4).trans rfl
                 have hcz20_5 : wr.cell? ⟨gb114, 5, none⟩ = some (.int .i64 ((rd_T45 l0 a1).f5)) := (blk_cell BK114.out 5).trans rfl
                 have hcz20_6 : wr.cell? ⟨gb114, 6, none⟩ = some (.int .i64 ((rd_T45 l0 a1).f6)) := (blk_cell BK114.out 6).trans rfl
                 have hfz20_0 := blk_frozen BK114.out 0
                 have hfz20_1 := blk_frozen BK114.out 1
                 have hfz20_2 := blk_frozen BK114.out 2
                 have hfz20_3 := blk_frozen BK114.out 3
                 have hfz20_4 := blk_frozen BK114.out 4
                 have hfz20_5 := blk_frozen BK114.out 5
                 have hfz20_6 := blk_frozen BK114.out 6
                 go_wp2_with (first | (go_at_call 57; (with_reducible refine (ih k1 (by have := HK1.out; omega) _ _ l0 x8_1 t117 t118 t119 t120 t121 t124 _ ?side1 ?side2 A16.out).mono ?_); (case side1 => repeat (first | exact (Kd.C_below HR0.out HB.out) | (with_reducible refine Kd.C_alloc ?_ _) | (with_reducible refine Kd.C_drewN ?_ _) | (with_reducible refine Kd.C_drew ?_))); (case side2 => exact HC0.out); rintro e w21 ⟨v122, rfl, ho0, hb⟩; have n0_ := Aside0.mk (Kd.R_elder' (by (with_reducible repeat (first | apply Kd.R_alloc | apply Kd.R_drewN | apply Kd.R_drew)); exact HO_116004.out) (Kd.R_base ho0) hb); have n1_ := Aside0.mk (Kd.R_lower (Kd.R_newB (Kd.R_newB (Kd.R_new' ho0 (Kd.R_lt (by (with_reducible repeat (first | apply Kd.R_alloc | apply Kd.R_drewN | apply Kd.R_drew)); exact HO_116004.out))) (g := gb112) (o := .cells #[.int .i64 0, .int .i64 0, .int .i64 0, .int .i64 0, .slice none 0 0] 72 (0, 0)) (by (with_reducible repeat (first | refine blk_drewN ?_ _ | refine blk_drew ?_ | refine blk_alloc ?_ _)); exact BK112.out)) (g := gb115) (o := .cells #[.int .i64 ((rd_T45 l0 a1).f1), .int .i64 ((rd_T45 l0 a1).f4), .int .i64 ((rd_T45 l0 a1).f5), .int .i64 ((rd_T45 l0 a1).f6), u116004] 72 (0, 0)) (by (with_reducible repeat (first | refine blk_drewN ?_ _ | refine blk_drew ?_ | refine blk_alloc ?_ _)); exact BK115.out)) (below_size (by repeat (first | (with_reducible first | exact HB.out | apply below_alloc | apply pw_below_drewN | apply below_drew1 | refine below_set ?_ GE112.out | refine below_set ?_ GE114.out | refine below_set ?_ GE115.out) | exact HB.out)))); have n2_ := Aside0.mk (blk_below (g := gb112) (o := .cells #[.int .i64 0, .int .i64 0, .int .i64 0, .int .i64 0, .slice none 0 0] 72 (0, 0)) (by (with_reducible repeat (first | refine blk_drewN ?_ _ | refine blk_drew ?_ | refine blk_alloc ?_ _)); exact BK112.out) hb); have n3_ := Aside0.mk (blk_below (g := gb114) (o := .cells #[.int .i64 ((rd_T45 l0 a1).f0), .int .i64 ((rd_T45 l0 a1).f1), .int .i64 ((rd_T45 l0 a1).f2), .int .i64 ((rd_T45 l0 a1).f3), .int .i64 ((rd_T45 l0 a1).f4), .int .i64 ((rd_T45 l0 a1).f5), .int .i64 ((rd_T45 l0 a1).f6)] 45 (0, 0)) (by (with_reducible repeat (first | refine blk_drewN ?_ _ | refine blk_drew ?_ | refine blk_alloc ?_ _)); exact BK114.out) hb); have n4_ := Aside0.mk (blk_below (g := gb115) (o := .cells #[.int .i64 ((rd_T45 l0 a1).f1), .int .i64 ((rd_T45 l0 a1).f4), .int .i64 ((rd_T45 l0 a1).f5), .int .i64 ((rd_T45 l0 a1).f6), u116004] 72 (0, 0)) (by (with_reducible repeat (first | refine blk_drewN ?_ _ | refine blk_drew ?_ | refine blk_alloc ?_ _)); exact BK115.out) hb); have n5_ := Aside0.mk (below_step (by repeat (first | (with_reducible first | exact HB.out | apply below_alloc | apply pw_below_drewN | apply below_drew1 | refine below_set ?_ GE112.out | refine below_set ?_ GE114.out | refine below_set ?_ GE115.out) | exact HB.out)) hb); clear HO_116004; clear BK112; clear BK114; clear BK115; clear HB; have HO_116004 := n0_; have HO123 := n1_; have BK112 := n2_; have BK114 := n3_; have BK115 := n4_; have HB := n5_; clear n0_ n1_ n2_ n3_ n4_ n5_; (try clear hb); (try clear hb2); (try clear hk); (try clear hi); (try clear ho0)) | ((with_reducible refine gate_dst (N := 9) rfl ?_); refine box_event ?hg (N := 9) ?hd (cs := #[.int .i64 0, .int .i64 0, .int .i64 0, .int .i64 0, .slice none 0 0]) (t := 72) ?hr ?_; (case hd => rfl); (case hg => rfl); (case hr => first | (go_simp; done) | (go_simp; rfl)); intro gb125 hg w22 hbox hb; have n0_ := Aside0.mk (Kd.R_below (Kd.R_elderB (by (with_reducible repeat (first | apply Kd.R_alloc | apply Kd.R_drewN | apply Kd.R_drew)); exact HO_116004.out) gb125 (Nat.le_of_eq hg.symm)) hb); have n1_ := Aside0.mk (Kd.R_below (Kd.R_elderB (by (with_reducible repeat (first | apply Kd.R_alloc | apply Kd.R_drewN | apply Kd.R_drew)); exact HO123.out) gb125 (Nat.le_of_eq hg.symm)) hb); have n2_ := Aside0.mk (blk_below (g := gb112) (o := .cells #[.int .i64 0, .int .i64 0, .int .i64 0, .int .i64 0, .slice none 0 0] 72 (0, 0)) (by (with_reducible repeat (first | refine blk_drewN ?_ _ | refine blk_drew ?_ | refine blk_alloc ?_ _)); exact BK112.out) hb); have n3_ := Aside0.mk (blk_below (g := gb114) (o := .cells #[.int .i64 ((rd_T45 l0 a1).f0), .int .i64 ((rd_T45 l0 a1).f1), .int .i64 ((rd_T45 l0 a1).f2), .int .i64 ((rd_T45 l0 a1).f3), .int .i64 ((rd_T45 l0 a1).f4), .int .i64 ((rd_T45 l0 a1).f5), .int .i64 ((rd_T45 l0 a1).f6)] 45 (0, 0)) (by (with_reducible repeat (first | refine blk_drewN ?_ _ | refine blk_drew ?_ | refine blk_alloc ?_ _)); exact BK114.out) hb); have n4_ := Aside0.mk (blk_below (g := gb115) (o := .cells #[.int .i64 ((rd_T45 l0 a1).f1), .int .i64 ((rd_T45 l0 a1).f4), .int .i64 ((rd_T45 l0 a1).f5), .int .i64 ((rd_T45 l0 a1).f6), u116004] 72 (0, 0)) (by (with_reducible repeat (first | refine blk_drewN ?_ _ | refine blk_drew ?_ | refine blk_alloc ?_ _)); exact BK115.out) hb); have n5_ := Aside0.mk (below_step (by repeat (first | (with_reducible first | exact HB.out | apply below_alloc | apply pw_below_drewN | apply below_drew1 | refine below_set ?_ GE112.out | refine below_set ?_ GE114.out | refine below_set ?_ GE115.out) | exact HB.out)) hb); have n6_ := Aside0.mk (hbox); have n7_ := Aside0.mk ((by rw [hg]; exact (below_size (by repeat (first | (with_reducible first | exact HB.out | apply below_alloc | apply pw_below_drewN | apply below_drew1 | refine below_set ?_ GE112.out | refine below_set ?_ GE114.out | refine below_set ?_ GE115.out) | exact HB.out))) : w.heap.size ≤ gb125)); have n8_ := Aside0.mk ((by rw [hg]; exact (below_size (by repeat (first | (with_reducible first | exact HB.out | apply below_alloc | apply pw_below_drewN | apply below_drew1 | refine below_set ?_ GE112.out | refine below_set ?_ GE114.out | refine below_set ?_ GE115.out) | exact HB.out))) : w.heap.size ≤ gb125)); have n9_ := Aside0.mk ((by rw [hg]; exact Nat.ne_of_lt (blk_lt (g := gb112) (o := .cells #[.int .i64 0, .int .i64 0, .int .i64 0, .int .i64 0, .slice none 0 0] 72 (0, 0)) (by (with_reducible repeat (first | refine blk_drewN ?_ _ | refine blk_drew ?_ | refine blk_alloc ?_ _)); exact BK112.out)) : gb112 ≠ gb125)); have n10_ := Aside0.mk ((by rw [hg]; exact Nat.ne_of_gt (blk_lt (g := gb112) (o := .cells #[.int .i64 0, .int .i64 0, .int .i64 0, .int .i64 0, .slice none 0 0] 72 (0, 0)) (by (with_reducible repeat (first | refine blk_drewN ?_ _ | refine blk_drew ?_ | refine blk_alloc ?_ _)); exact BK112.out)) : gb125 ≠ gb112)); have n11_ := Aside0.mk ((by rw [hg]; exact Nat.ne_of_lt (blk_lt (g := gb114) (o := .cells #[.int .i64 ((rd_T45 l0 a1).f0), .int .i64 ((rd_T45 l0 a1).f1), .int .i64 ((rd_T45 l0 a1).f2), .int .i64 ((rd_T45 l0 a1).f3), .int .i64 ((rd_T45 l0 a1).f4), .int .i64 ((rd_T45 l0 a1).f5), .int .i64 ((rd_T45 l0 a1).f6)] 45 (0, 0)) (by (with_reducible repeat (first | refine blk_drewN ?_ _ | refine blk_drew ?_ | refine blk_alloc ?_ _)); exact BK114.out)) : gb114 ≠ gb125)); have n12_ := Aside0.mk ((by rw [hg]; exact Nat.ne_of_gt (blk_lt (g := gb114) (o := .cells #[.int .i64 ((rd_T45 l0 a1).f0), .int .i64 ((rd_T45 l0 a1).f1), .int .i64 ((rd_T45 l0 a1).f2), .int .i64 ((rd_T45 l0 a1).f3), .int .i64 ((rd_T45 l0 a1).f4), .int .i64 ((rd_T45 l0 a1).f5), .int .i64 ((rd_T45 l0 a1).f6)] 45 (0, 0)) (by (with_reducible repeat (first | refine blk_drewN ?_ _ | refine blk_drew ?_ | refine blk_alloc ?_ _)); exact BK114.out)) : gb125 ≠ gb114)); have n13_ := Aside0.mk ((by rw [hg]; exact Nat.ne_of_lt (blk_lt (g := gb115) (o := .cells #[.int .i64 ((rd_T45 l0 a1).f1), .int .i64 ((rd_T45 l0 a1).f4), .int .i64 ((rd_T45 l0 a1).f5), .int .i64 ((rd_T45 l0 a1).f6), u116004] 72 (0, 0)) (by (with_reducible repeat (first | refine blk_drewN ?_ _ | refine blk_drew ?_ | refine blk_alloc ?_ _)); exact BK115.out)) : gb115 ≠ gb125)); have n14_ := Aside0.mk ((by rw [hg]; exact Nat.ne_of_gt (blk_lt (g := gb115) (o := .cells #[.int .i64 ((rd_T45 l0 a1).f1), .int .i64 ((rd_T45 l0 a1).f4), .int .i64 ((rd_T45 l0 a1).f5), .int .i64 ((rd_T45 l0 a1).f6), u116004] 72 (0, 0)) (by (with_reducible repeat (first | refine blk_drewN ?_ _ | refine blk_drew ?_ | refine blk_alloc ?_ _)); exact BK115.out)) : gb125 ≠ gb115)); clear HO_116004; clear HO123; clear BK112; clear BK114; clear BK115; clear HB; have HO_116004 := n0_; have HO123 := n1_; have BK112 := n2_; have BK114 := n3_; have BK115 := n4_; have HB := n5_; have BK125 := n6_; have GW125 := n7_; have GE125 := n8_; have NB112_125 := n9_; have NB125_112 := n10_; have NB114_125 := n11_; have NB125_114 := n12_; have NB115_125 := n13_; have NB125_115 := n14_; clear n0_ n1_ n2_ n3_ n4_ n5_ n6_ n7_ n8_ n9_ n10_ n11_ n12_ n13_ n14_; clear hb hbox hg; have hnb23 := NB125_112.out; have hnc23 := NB112_125.out; have hnb24 := NB125_114.out; have hnc24 := NB114_125.out; have hnb25 := NB125_115.out; have hnc25 := NB115_125.out; have hcz26_0 : w22.cell? ⟨gb125, 0, none⟩ = some (.int .i64 0) := (blk_cell BK125.out 0).trans rfl; have hcz26_1 : w22.cell? ⟨gb125, 1, none⟩ = some (.int .i64 0) := (blk_cell BK125.out 1).trans rfl; have hcz26_2 : w22.cell? ⟨gb125, 2, none⟩ = some (.int .i64 0) := (blk_cell BK125.out 2).trans rfl; have hcz26_3 : w22.cell? ⟨gb125, 3, none⟩ = some (.int .i64 0) := (blk_cell BK125.out 3).trans rfl; have hcz26_4 : w22.cell? ⟨gb125, 4, none⟩ = some (.slice none 0 0) := (blk_cell BK125.out 4).trans rfl; have hfz26_0 := blk_frozen BK125.out 0; have hfz26_1 := blk_frozen BK125.out 1; have hfz26_2 := blk_frozen BK125.out 2; have hfz26_3 := blk_frozen BK125.out 3; have hfz26_4 := blk_frozen BK125.out 4; obtain ⟨Ao27, co27, eo27⟩ := Kd.R_slice HO123.out; subst eo27) | ((with_reducible refine gate_store (t := 72) (p := 9) rfl ?_); (try (rw [drewN_self w22]; generalize hq_ : World.drewN w22 _ = w22; have n0_ := Aside0.mk (Kd.R_at hq_ HO_116004.out); have n1_ := Aside0.mk (Kd.R_at hq_ HO123.out); have n2_ := Aside0.mk (blk_at hq_ BK112.out); have n3_ := Aside0.mk (blk_at hq_ BK114.out); have n4_ := Aside0.mk (blk_at hq_ BK115.out); have n5_ := Aside0.mk (blk_at hq_ BK125.out); have n6_ := Aside0.mk (below_at hq_ HB.out); clear hq_ HO_116004 HO123 BK112 BK114 BK115 BK125 HB; have HO_116004 := n0_; have HO123 := n1_; have BK112 := n2_; have BK114 := n3_; have BK115 := n4_; have BK125 := n5_; have HB := n6_; clear n0_ n1_ n2_ n3_ n4_ n5_ n6_)); refine store_event (t := 72) (p := 9) (v := ?vo_w28) (w1 := (((((w22.setCell ⟨gb125, 0, none⟩ (.int .i64 t117)).setCell ⟨gb125, 1, none⟩ (.int .i64 t118)).setCell ⟨gb125, 2, none⟩ (.int .i64 t119)).setCell ⟨gb125, 3, none⟩ (.int .i64 t120)).setCell ⟨gb125, 4, none⟩ (.slice Ao27 t121.length co27))) ?hg ?ho ?hn ?hr ?_; (case ho => rfl); (case hg => rfl); (case hn => rfl); (case hr => first | (go_simp; done) | (go_simp; rfl)); intro w28 hw; have n0_ : Aside0 (Kd.R k72 72 w28 w.heap.size (fun k_ => some k_ ≠ (.slice Ao27 t121.length co27 : Value).ownBlock ∧ k_ ≠ gb112 ∧ k_ ≠ gb115 ∧ k_ ≠ gb125) u116004 x116004_1) := ⟨(by rw [hw]; exact (by (with_reducible repeat (first | apply Kd.R_alloc | apply Kd.R_drewN | apply Kd.R_drew)); exact Kd.R_mono (Kd.R_far (p := ⟨gb125, 4, none⟩) (Kd.R_far (p := ⟨gb125, 3, none⟩) (Kd.R_far (p := ⟨gb125, 2, none⟩) (Kd.R_far (p := ⟨gb125, 1, none⟩) (Kd.R_far (p := ⟨gb125, 0, none⟩) (Kd.R_mono HO_116004.out (fun k_ hk => (⟨hk, hk.2⟩ : _ ∧ k_ ≠ gb125))) (fun _ hk => hk.2) (.int .i64 t117)) (fun _ hk => hk.2) (.int .i64 t118)) (fun _ hk => hk.2) (.int .i64 t119)) (fun _ hk => hk.2) (.int .i64 t120)) (fun _ hk => hk.2) (.slice Ao27 t121.length co27)) (fun _ hk => ⟨hk.1.1.2, ⟨hk.1.1.1.1, ⟨hk.1.1.1.2, hk.1.2⟩⟩⟩)))⟩; have n1_ : Aside0 (Kd.R k72 72 w28 w.heap.size (fun k_ => some k_ ≠ (u116004 : Value).ownBlock ∧ k_ ≠ gb112 ∧ k_ ≠ gb115 ∧ k_ ≠ gb125) (.slice Ao27 t121.length co27) t121) := ⟨(by rw [hw]; exact (by (with_reducible repeat (first | apply Kd.R_alloc | apply Kd.R_drewN | apply Kd.R_drew)); exact Kd.R_mono (Kd.R_far (p := ⟨gb125, 4, none⟩) (Kd.R_far (p := ⟨gb125, 3, none⟩) (Kd.R_far (p := ⟨gb125, 2, none⟩) (Kd.R_far (p := ⟨gb125, 1, none⟩) (Kd.R_far (p := ⟨gb125, 0, none⟩) (Kd.R_mono HO123.out (fun k_ hk => (⟨hk, hk.2⟩ : _ ∧ k_ ≠ gb125))) (fun _ hk => hk.2) (.int .i64 t117)) (fun _ hk => hk.2) (.int .i64 t118)) (fun _ hk => hk.2) (.int .i64 t119)) (fun _ hk => hk.2) (.int .i64 t120)) (fun _ hk => hk.2) (.slice Ao27 t121.length co27)) (fun _ hk => ⟨hk.1.1.1.1.2, ⟨hk.1.1.1.2, ⟨hk.1.1.2, hk.1.2⟩⟩⟩)))⟩; have n2_ : Aside0 (w28.heap[gb112]? = some (.cells #[.int .i64 0, .int .i64 0, .int .i64 0, .int .i64 0, .slice none 0 0] 72 (0, 0))) := ⟨(by rw [hw]; exact (by (with_reducible repeat (first | refine blk_drewN ?_ _ | refine blk_drew ?_ | refine blk_alloc ?_ _)); refine blk_far ?_ NB112_125.out _; (with_reducible repeat (first | refine blk_drewN ?_ _ | refine blk_drew ?_ | refine blk_alloc ?_ _)); refine blk_far ?_ NB112_125.out _; (with_reducible repeat (first | refine blk_drewN ?_ _ | refine blk_drew ?_ | refine blk_alloc ?_ _)); refine blk_far ?_ NB112_125.out _; (with_reducible repeat (first | refine blk_drewN ?_ _ | refine blk_drew ?_ | refine blk_alloc ?_ _)); refine blk_far ?_ NB112_125.out _; (with_reducible repeat (first | refine blk_drewN ?_ _ | refine blk_drew ?_ | refine blk_alloc ?_ _)); refine blk_far ?_ NB112_125.out _; (with_reducible repeat (first | refine blk_drewN ?_ _ | refine blk_drew ?_ | refine blk_alloc ?_ _)); exact BK112.out))⟩; have n3_ : Aside0 (w28.heap[gb114]? = some (.cells #[.int .i64 ((rd_T45 l0 a1).f0), .int .i64 ((rd_T45 l0 a1).f1), .int .i64 ((rd_T45 l0 a1).f2), .int .i64 ((rd_T45 l0 a1).f3), .int .i64 ((rd_T45 l0 a1).f4), .int .i64 ((rd_T45 l0 a1).f5), .int .i64 ((rd_T45 l0 a1).f6)] 45 (0, 0))) := ⟨(by rw [hw]; exact (by (with_reducible repeat (first | refine blk_drewN ?_ _ | refine blk_drew ?_ | refine blk_alloc ?_ _)); refine blk_far ?_ NB114_125.out _; (with_reducible repeat (first | refine blk_drewN ?_ _ | refine blk_drew ?_ | refine blk_alloc ?_ _)); refine blk_far ?_ NB114_125.out _; (with_reducible repeat (first | refine blk_drewN ?_ _ | refine blk_drew ?_ | refine blk_alloc ?_ _)); refine blk_far ?_ NB114_125.out _; (with_reducible repeat (first | refine blk_drewN ?_ _ | refine blk_drew ?_ | refine blk_alloc ?_ _)); refine blk_far ?_ NB114_125.out _; (with_reducible repeat (first | refine blk_drewN ?_ _ | refine blk_drew ?_ | refine blk_alloc ?_ _)); refine blk_far ?_ NB114_125.out _; (with_reducible repeat (first | refine blk_drewN ?_ _ | refine blk_drew ?_ | refine blk_alloc ?_ _)); exact BK114.out))⟩; have n4_ : Aside0 (w28.heap[gb115]? = some (.cells #[.int .i64 ((rd_T45 l0 a1).f1), .int .i64 ((rd_T45 l0 a1).f4), .int .i64 ((rd_T45 l0 a1).f5), .int .i64 ((rd_T45 l0 a1).f6), u116004] 72 (0, 0))) := ⟨(by rw [hw]; exact (by (with_reducible repeat (first | refine blk_drewN ?_ _ | refine blk_drew ?_ | refine blk_alloc ?_ _)); refine blk_far ?_ NB115_125.out _; (with_reducible repeat (first | refine blk_drewN ?_ _ | refine blk_drew ?_ | refine blk_alloc ?_ _)); refine blk_far ?_ NB115_125.out _; (with_reducible repeat (first | refine blk_drewN ?_ _ | refine blk_drew ?_ | refine blk_alloc ?_ _)); refine blk_far ?_ NB115_125.out _; (with_reducible repeat (first | refine blk_drewN ?_ _ | refine blk_drew ?_ | refine blk_alloc ?_ _)); refine blk_far ?_ NB115_125.out _; (with_reducible repeat (first | refine blk_drewN ?_ _ | refine blk_drew ?_ | refine blk_alloc ?_ _)); refine blk_far ?_ NB115_125.out _; (with_reducible repeat (first | refine blk_drewN ?_ _ | refine blk_drew ?_ | refine blk_alloc ?_ _)); exact BK115.out))⟩; have n5_ : Aside0 (w28.heap[gb125]? = some (.cells #[.int .i64 t117, .int .i64 t118, .int .i64 t119, .int .i64 t120, .slice Ao27 t121.length co27] 72 (0, 0))) := ⟨(by rw [hw]; exact (by (with_reducible repeat (first | refine blk_drewN ?_ _ | refine blk_drew ?_ | refine blk_alloc ?_ _)); refine blk_put (cs := #[.int .i64 t117, .int .i64 t118, .int .i64 t119, .int .i64 t120, .slice none 0 0]) ?_ 4 _ rfl; (with_reducible repeat (first | refine blk_drewN ?_ _ | refine blk_drew ?_ | refine blk_alloc ?_ _)); refine blk_put (cs := #[.int .i64 t117, .int .i64 t118, .int .i64 t119, .int .i64 0, .slice none 0 0]) ?_ 3 _ rfl; (with_reducible repeat (first | refine blk_drewN ?_ _ | refine blk_drew ?_ | refine blk_alloc ?_ _)); refine blk_put (cs := #[.int .i64 t117, .int .i64 t118, .int .i64 0, .int .i64 0, .slice none 0 0]) ?_ 2 _ rfl; (with_reducible repeat (first | refine blk_drewN ?_ _ | refine blk_drew ?_ | refine blk_alloc ?_ _)); refine blk_put (cs := #[.int .i64 t117, .int .i64 0, .int .i64 0, .int .i64 0, .slice none 0 0]) ?_ 1 _ rfl; (with_reducible repeat (first | refine blk_drewN ?_ _ | refine blk_drew ?_ | refine blk_alloc ?_ _)); refine blk_put (cs := #[.int .i64 0, .int .i64 0, .int .i64 0, .int .i64 0, .slice none 0 0]) ?_ 0 _ rfl; (with_reducible repeat (first | refine blk_drewN ?_ _ | refine blk_drew ?_ | refine blk_alloc ?_ _)); exact BK125.out))⟩; have n6_ : Aside0 (Below w.heap.size w w28) := ⟨(by rw [hw]; exact (by repeat (first | (with_reducible first | exact HB.out | apply below_alloc | apply pw_below_drewN | apply below_drew1 | refine below_set ?_ GE112.out | refine below_set ?_ GE114.out | refine below_set ?_ GE115.out | refine below_set ?_ GE125.out) | exact HB.out)))⟩; clear hw; clear HO_116004; clear HO123; clear BK112; clear BK114; clear BK115; clear BK125; clear HB; have HO_116004 := n0_; have HO123 := n1_; have BK112 := n2_; have BK114 := n3_; have BK115 := n4_; have BK125 := n5_; have HB := n6_; clear n0_ n1_ n2_ n3_ n4_ n5_ n6_; have hnb29 := NB115_112.out; have hnc29 := NB112_115.out; have hcz30_0 : w28.cell? ⟨gb115, 0, none⟩ = some (.int .i64 ((rd_T45 l0 a1).f1)) := (blk_cell BK115.out 0).trans rfl; have hcz30_1 : w28.cell? ⟨gb115, 1, none⟩ = some (.int .i64 ((rd_T45 l0 a1).f4)) := (blk_cell BK115.out 1).trans rfl; have hcz30_2 : w28.cell? ⟨gb115, 2, none⟩ = some (.int .i64 ((rd_T45 l0 a1).f5)) := (blk_cell BK115.out 2).trans rfl; have hcz30_3 : w28.cell? ⟨gb115, 3, none⟩ = some (.int .i64 ((rd_T45 l0 a1).f6)) := (blk_cell BK115.out 3).trans rfl; have hcz30_4 : w28.cell? ⟨gb115, 4, none⟩ = some (u116004) := (blk_cell BK115.out 4).trans rfl; have hfz30_0 := blk_frozen BK115.out 0; have hfz30_1 := blk_frozen BK115.out 1; have hfz30_2 := blk_frozen BK115.out 2; have hfz30_3 := blk_frozen BK115.out 3; have hfz30_4 := blk_frozen BK115.out 4; have hcz31_0 : w28.cell? ⟨gb125, 0, none⟩ = some (.int .i64 t117) := (blk_cell BK125.out 0).trans rfl; have hcz31_1 : w28.cell? ⟨gb125, 1, none⟩ = some (.int .i64 t118) := (blk_cell BK125.out 1).trans rfl; have hcz31_2 : w28.cell? ⟨gb125, 2, none⟩ = some (.int .i64 t119) := (blk_cell BK125.out 2).trans rfl; have hcz31_3 : w28.cell? ⟨gb125, 3, none⟩ = some (.int .i64 t120) := (blk_cell BK125.out 3).trans rfl; have hcz31_4 : w28.cell? ⟨gb125, 4, none⟩ = some (.slice Ao27 t121.length co27) := (blk_cell BK125.out 4).trans rfl; have hfz31_0 := blk_frozen BK125.out 0; have hfz31_1 := blk_frozen BK125.out 1; have hfz31_2 := blk_frozen BK125.out 2; have hfz31_3 := blk_frozen BK125.out 3; have hfz31_4 := blk_frozen BK125.out 4) | ((with_reducible refine gate_builtin (b := .append) (xs := #[.tmp 47, .tmp 49]) rfl ?_); at_builtin; refine Kd.R_append k72 (w0 := w) w.heap.size rfl (.tmp 47) (.tmp 49) 70 72 (.agg #[(.int .i64 0), (.int .i64 0), (.int .i64 0), (.int .i64 0), (.slice none 0 0)]) 56 rfl Tryd.underlying70 info72 rfl (by decide) (by omega) u116004 x116004_1 (⟨t117, t118, t119, t120, t121⟩ : S72) [.int .i64 t117, .int .i64 t118, .int .i64 t119, .int .i64 t120, .slice Ao27 t121.length co27] (fun k_ => k_ ≠ gb112 ∧ k_ ≠ gb115 ∧ k_ ≠ gb125) (fun k_ => ((fun k_ => k_ ≠ gb112 ∧ k_ ≠ gb115 ∧ k_ ≠ gb125)) k_ ∧ some k_ ≠ (u116004 : Value).ownBlock) rfl rfl ?aP (fun _ hk => hk) ?aF ?aO ?aB ?aS ?aL ?_; (case aP => exact k72_mkM _ _ _ (⟨t117, t118, t119, t120, t121⟩ : S72) (Kd.R_mono (HO123.out) (fun k_ hk => ⟨⟨hk.2.1, ⟨hk.2.2.1, hk.2.2.2⟩⟩, hk.1⟩))); (case aB => exact (by repeat (first | (with_reducible first | exact HB.out | apply below_alloc | apply pw_below_drewN | apply below_drew1 | refine below_set ?_ GE112.out | refine below_set ?_ GE114.out | refine below_set ?_ GE115.out | refine below_set ?_ GE125.out) | exact HB.out))); (case aF => exact (fun k_ hk => ⟨Kd.freshB (g := gb112) (o := .cells #[.int .i64 0, .int .i64 0, .int .i64 0, .int .i64 0, .slice none 0 0] 72 (0, 0)) (by (with_reducible repeat (first | refine blk_drewN ?_ _ | refine blk_drew ?_ | refine blk_alloc ?_ _)); exact BK112.out) k_ hk, Kd.freshB (g := gb115) (o := .cells #[.int .i64 ((rd_T45 l0 a1).f1), .int .i64 ((rd_T45 l0 a1).f4), .int .i64 ((rd_T45 l0 a1).f5), .int .i64 ((rd_T45 l0 a1).f6), u116004] 72 (0, 0)) (by (with_reducible repeat (first | refine blk_drewN ?_ _ | refine blk_drew ?_ | refine blk_alloc ?_ _)); exact BK115.out) k_ hk, Kd.freshB (g := gb125) (o := .cells #[.int .i64 t117, .int .i64 t118, .int .i64 t119, .int .i64 t120, .slice Ao27 t121.length co27] 72 (0, 0)) (by (with_reducible repeat (first | refine blk_drewN ?_ _ | refine blk_drew ?_ | refine blk_alloc ?_ _)); exact BK125.out) k_ hk⟩)); (case aO => exact (by (with_reducible repeat (first | apply Kd.R_alloc | apply Kd.R_drewN | apply Kd.R_drew)); exact Kd.R_mono HO_116004.out (fun _ hk => ⟨hk.2.1, ⟨hk.2.2.1, hk.2.2.2⟩⟩))); (case aS => exact (below_size (by repeat (first | (with_reducible first | exact HB.out | apply below_alloc | apply pw_below_drewN | apply below_drew1 | refine below_set ?_ GE112.out | refine below_set ?_ GE114.out | refine below_set ?_ GE115.out | refine below_set ?_ GE125.out) | exact HB.out)))); (case aL => have := LMc17.out; omega); intro v127 w32 ho hb hg hat; rw [← Ny126.out] at ho; have n0_ := Aside0.mk (blk_grown (g := gb112) (o := .cells #[.int .i64 0, .int .i64 0, .int .i64 0, .int .i64 0, .slice none 0 0] 72 (0, 0)) (by (with_reducible repeat (first | refine blk_drewN ?_ _ | refine blk_drew ?_ | refine blk_alloc ?_ _)); exact BK112.out) hg (Kd.R_away HO_116004.out (fun _ hk => hk.2.1))); have n1_ := Aside0.mk (blk_grown (g := gb114) (o := .cells #[.int .i64 ((rd_T45 l0 a1).f0), .int .i64 ((rd_T45 l0 a1).f1), .int .i64 ((rd_T45 l0 a1).f2), .int .i64 ((rd_T45 l0 a1).f3), .int .i64 ((rd_T45 l0 a1).f4), .int .i64 ((rd_T45 l0 a1).f5), .int .i64 ((rd_T45 l0 a1).f6)] 45 (0, 0)) (by (with_reducible repeat (first | refine blk_drewN ?_ _ | refine blk_drew ?_ | refine blk_alloc ?_ _)); exact BK114.out) hg (Kd.R_ne HO_116004.out BK114.out (by decide))); have n2_ := Aside0.mk (blk_grown (g := gb115) (o := .cells #[.int .i64 ((rd_T45 l0 a1).f1), .int .i64 ((rd_T45 l0 a1).f4), .int .i64 ((rd_T45 l0 a1).f5), .int .i64 ((rd_T45 l0 a1).f6), u116004] 72 (0, 0)) (by (with_reducible repeat (first | refine blk_drewN ?_ _ | refine blk_drew ?_ | refine blk_alloc ?_ _)); exact BK115.out) hg (Kd.R_away HO_116004.out (fun _ hk => hk.2.2.1))); have n3_ := Aside0.mk (blk_grown (g := gb125) (o := .cells #[.int .i64 t117, .int .i64 t118, .int .i64 t119, .int .i64 t120, .slice Ao27 t121.length co27] 72 (0, 0)) (by (with_reducible repeat (first | refine blk_drewN ?_ _ | refine blk_drew ?_ | refine blk_alloc ?_ _)); exact BK125.out) hg (Kd.R_away HO_116004.out (fun _ hk => hk.2.2.2))); have n4_ := Aside0.mk (hb); have n5_ := Aside0.mk (ho); clear BK112; clear BK114; clear BK115; clear BK125; clear HB; clear HO_116004; clear HO123; have BK112 := n0_; have BK114 := n1_; have BK115 := n2_; have BK125 := n3_; have HB := n4_; have HO128 := n5_; clear n0_ n1_ n2_ n3_ n4_ n5_; clear ho hb hg hat; obtain ⟨Ao33, co33, eo33⟩ := Kd.R_slice HO128.out; subst eo33; have hcz34_0 : w32.cell? ⟨gb115, 0, none⟩ = some (.int .i64 ((rd_T45 l0 a1).f1)) := (blk_cell BK115.out 0).trans rfl; have hcz34_1 : w32.cell? ⟨gb115, 1, none⟩ = some (.int .i64 ((rd_T45 l0 a1).f4)) := (blk_cell BK115.out 1).trans rfl; have hcz34_2 : w32.cell? ⟨gb115, 2, none⟩ = some (.int .i64 ((rd_T45 l0 a1).f5)) := (blk_cell BK115.out 2).trans rfl; have hcz34_3 : w32.cell? ⟨gb115, 3, none⟩ = some (.int .i64 ((rd_T45 l0 a1).f6)) := (blk_cell BK115.out 3).trans rfl; have hcz34_4 : w32.cell? ⟨gb115, 4, none⟩ = some (u116004) := (blk_cell BK115.out 4).trans rfl; have hfz34_0 := blk_frozen BK115.out 0; have hfz34_1 := blk_frozen BK115.out 1; have hfz34_2 := blk_frozen BK115.out 2; have hfz34_3 := blk_frozen BK115.out 3; have hfz34_4 := blk_frozen BK115.out 4))
                 repeat (go_quiet (fail); try go_wp2_with (first | (go_at_call 57; (with_reducible refine (ih k1 (by have := HK1.out; omega) _ _ l0 x8_1 t117 t118 t119 t120 t121 t124 _ ?side1 ?side2 A16.out).mono ?_); (case side1 => repeat (first | exact (Kd.C_below HR0.out HB.out) | (with_reducible refine Kd.C_alloc ?_ _) | (with_reducible refine Kd.C_drewN ?_ _) | (with_reducible refine Kd.C_drew ?_))); (case side2 => exact HC0.out); rintro e w21 ⟨v122, rfl, ho0, hb⟩; have n0_ := Aside0.mk (Kd.R_elder' (by (with_reducible repeat (first | apply Kd.R_alloc | apply Kd.R_drewN | apply Kd.R_drew)); exact HO_116004.out) (Kd.R_base ho0) hb); have n1_ := Aside0.mk (Kd.R_lower (Kd.R_newB (Kd.R_newB (Kd.R_new' ho0 (Kd.R_lt (by (with_reducible repeat (first | apply Kd.R_alloc | apply Kd.R_drewN | apply Kd.R_drew)); exact HO_116004.out))) (g := gb112) (o := .cells #[.int .i64 0, .int .i64 0, .int .i64 0, .int .i64 0, .slice none 0 0] 72 (0, 0)) (by (with_reducible repeat (first | refine blk_drewN ?_ _ | refine blk_drew ?_ | refine blk_alloc ?_ _)); exact BK112.out)) (g := gb115) (o := .cells #[.int .i64 ((rd_T45 l0 a1).f1), .int .i64 ((rd_T45 l0 a1).f4), .int .i64 ((rd_T45 l0 a1).f5), .int .i64 ((rd_T45 l0 a1).f6), u116004] 72 (0, 0)) (by (with_reducible repeat (first | refine blk_drewN ?_ _ | refine blk_drew ?_ | refine blk_alloc ?_ _)); exact BK115.out)) (below_size (by repeat (first | (with_reducible first | exact HB.out | apply below_alloc | apply pw_below_drewN | apply below_drew1 | refine below_set ?_ GE112.out | refine below_set ?_ GE114.out | refine below_set ?_ GE115.out) | exact HB.out)))); have n2_ := Aside0.mk (blk_below (g := gb112) (o := .cells #[.int .i64 0, .int .i64 0, .int .i64 0, .int .i64 0, .slice none 0 0] 72 (0, 0)) (by (with_reducible repeat (first | refine blk_drewN ?_ _ | refine blk_drew ?_ | refine blk_alloc ?_ _)); exact BK112.out) hb); have n3_ := Aside0.mk (blk_below (g := gb114) (o := .cells #[.int .i64 ((rd_T45 l0 a1).f0), .int .i64 ((rd_T45 l0 a1).f1), .int .i64 ((rd_T45 l0 a1).f2), .int .i64 ((rd_T45 l0 a1).f3), .int .i64 ((rd_T45 l0 a1).f4), .int .i64 ((rd_T45 l0 a1).f5), .int .i64 ((rd_T45 l0 a1).f6)] 45 (0, 0)) (by (with_reducible repeat (first | refine blk_drewN ?_ _ | refine blk_drew ?_ | refine blk_alloc ?_ _)); exact BK114.out) hb); have n4_ := Aside0.mk (blk_below (g := gb115) (o := .cells #[.int .i64 ((rd_T45 l0 a1).f1), .int .i64 ((rd_T45 l0 a1).f4), .int .i64 ((rd_T45 l0 a1).f5), .int .i64 ((rd_T45 l0 a1).f6), u116004] 72 (0, 0)) (by (with_reducible repeat (first | refine blk_drewN ?_ _ | refine blk_drew ?_ | refine blk_alloc ?_ _)); exact BK115.out) hb); have n5_ := Aside0.mk (below_step (by repeat (first | (with_reducible first | exact HB.out | apply below_alloc | apply pw_below_drewN | apply below_drew1 | refine below_set ?_ GE112.out | refine below_set ?_ GE114.out | refine below_set ?_ GE115.out) | exact HB.out)) hb); clear HO_116004; clear BK112; clear BK114; clear BK115; clear HB; have HO_116004 := n0_; have HO123 := n1_; have BK112 := n2_; have BK114 := n3_; have BK115 := n4_; have HB := n5_; clear n0_ n1_ n2_ n3_ n4_ n5_; (try clear hb); (try clear hb2); (try clear hk); (try clear hi); (try clear ho0)) | ((with_reducible refine gate_dst (N := 9) rfl ?_); refine box_event ?hg (N := 9) ?hd (cs := #[.int .i64 0, .int .i64 0, .int .i64 0, .int .i64 0, .slice none 0 0]) (t := 72) ?hr ?_; (case hd => rfl); (case hg => rfl); (case hr => first | (go_simp; done) | (go_simp; rfl)); intro gb125 hg w22 hbox hb; have n0_ := Aside0.mk (Kd.R_below (Kd.R_elderB (by (with_reducible repeat (first | apply Kd.R_alloc | apply Kd.R_drewN | apply Kd.R_drew)); exact HO_116004.out) gb125 (Nat.le_of_eq hg.symm)) hb); have n1_ := Aside0.mk (Kd.R_below (Kd.R_elderB (by (with_reducible repeat (first | apply Kd.R_alloc | apply Kd.R_drewN | apply Kd.R_drew)); exact HO123.out) gb125 (Nat.le_of_eq hg.symm)) hb); have n2_ := Aside0.mk (blk_below (g := gb112) (o := .cells #[.int .i64 0, .int .i64 0, .int .i64 0, .int .i64 0, .slice none 0 0] 72 (0, 0)) (by (with_reducible repeat (first | refine blk_drewN ?_ _ | refine blk_drew ?_ | refine blk_alloc ?_ _)); exact BK112.out) hb); have n3_ := Aside0.mk (blk_below (g := gb114) (o := .cells #[.int .i64 ((rd_T45 l0 a1).f0), .int .i64 ((rd_T45 l0 a1).f1), .int .i64 ((rd_T45 l0 a1).f2), .int .i64 ((rd_T45 l0 a1).f3), .int .i64 ((rd_T45 l0 a1).f4), .int .i64 ((rd_T45 l0 a1).f5), .int .i64 ((rd_T45 l0 a1).f6)] 45 (0, 0)) (by (with_reducible repeat (first | refine blk_drewN ?_ _ | refine blk_drew ?_ | refine blk_alloc ?_ _)); exact BK114.out) hb); have n4_ := Aside0.mk (blk_below (g := gb115) (o := .cells #[.int .i64 ((rd_T45 l0 a1).f1), .int .i64 ((rd_T45 l0 a1).f4), .int .i64 ((rd_T45 l0 a1).f5), .int .i64 ((rd_T45 l0 a1).f6), u116004] 72 (0, 0)) (by (with_reducible repeat (first | refine blk_drewN ?_ _ | refine blk_drew ?_ | refine blk_alloc ?_ _)); exact BK115.out) hb); have n5_ := Aside0.mk (below_step (by repeat (first | (with_reducible first | exact HB.out | apply below_alloc | apply pw_below_drewN | apply below_drew1 | refine below_set ?_ GE112.out | refine below_set ?_ GE114.out | refine below_set ?_ GE115.out) | exact HB.out)) hb); have n6_ := Aside0.mk (hbox); have n7_ := Aside0.mk ((by rw [hg]; exact (below_size (by repeat (first | (with_reducible first | exact HB.out | apply below_alloc | apply pw_below_drewN | apply below_drew1 | refine below_set ?_ GE112.out | refine below_set ?_ GE114.out | refine below_set ?_ GE115.out) | exact HB.out))) : w.heap.size ≤ gb125)); have n8_ := Aside0.mk ((by rw [hg]; exact (below_size (by repeat (first | (with_reducible first | exact HB.out | apply below_alloc | apply pw_below_drewN | apply below_drew1 | refine below_set ?_ GE112.out | refine below_set ?_ GE114.out | refine below_set ?_ GE115.out) | exact HB.out))) : w.heap.size ≤ gb125)); have n9_ := Aside0.mk ((by rw [hg]; exact Nat.ne_of_lt (blk_lt (g := gb112) (o := .cells #[.int .i64 0, .int .i64 0, .int .i64 0, .int .i64 0, .slice none 0 0] 72 (0, 0)) (by (with_reducible repeat (first | refine blk_drewN ?_ _ | refine blk_drew ?_ | refine blk_alloc ?_ _)); exact BK112.out)) : gb112 ≠ gb125)); have n10_ := Aside0.mk ((by rw [hg]; exact Nat.ne_of_gt (blk_lt (g := gb112) (o := .cells #[.int .i64 0, .int .i64 0, .int .i64 0, .int .i64 0, .slice none 0 0] 72 (0, 0)) (by (with_reducible repeat (first | refine blk_drewN ?_ _ | refine blk_drew ?_ | refine blk_alloc ?_ _)); exact BK112.out)) : gb125 ≠ gb112)); have n11_ := Aside0.mk ((by rw [hg]; exact Nat.ne_of_lt (blk_lt (g := gb114) (o := .cells #[.int .i64 ((rd_T45 l0 a1).f0), .int .i64 ((rd_T45 l0 a1).f1), .int .i64 ((rd_T45 l0 a1).f2), .int .i64 ((rd_T45 l0 a1).f3), .int .i64 ((rd_T45 l0 a1).f4), .int .i64 ((rd_T45 l0 a1).f5), .int .i64 ((rd_T45 l0 a1).f6)] 45 (0, 0)) (by (with_reducible repeat (first | refine blk_drewN ?_ _ | refine blk_drew ?_ | refine blk_alloc ?_ _)); exact BK114.out)) : gb114 ≠ gb125)); have n12_ := Aside0.mk ((by rw [hg]; exact Nat.ne_of_gt (blk_lt (g := gb114) (o := .cells #[.int .i64 ((rd_T45 l0 a1).f0), .int .i64 ((rd_T45 l0 a1).f1), .int .i64 ((rd_T45 l0 a1).f2), .int .i64 ((rd_T45 l0 a1).f3), .int .i64 ((rd_T45 l0 a1).f4), .int .i64 ((rd_T45 l0 a1).f5), .int .i64 ((rd_T45 l0 a1).f6)] 45 (0, 0)) (by (with_reducible repeat (first | refine blk_drewN ?_ _ | refine blk_drew ?_ | refine blk_alloc ?_ _)); exact BK114.out)) : gb125 ≠ gb114)); have n13_ := Aside0.mk ((by rw [hg]; exact Nat.ne_of_lt (blk_lt (g := gb115) (o := .cells #[.int .i64 ((rd_T45 l0 a1).f1), .int .i64 ((rd_T45 l0 a1).f4), .int .i64 ((rd_T45 l0 a1).f5), .int .i64 ((rd_T45 l0 a1).f6), u116004] 72 (0, 0)) (by (with_reducible repeat (first | refine blk_drewN ?_ _ | refine blk_drew ?_ | refine blk_alloc ?_ _)); exact BK115.out)) : gb115 ≠ gb125)); have n14_ := Aside0.mk ((by rw [hg]; exact Nat.ne_of_gt (blk_lt (g := gb115) (o := .cells #[.int .i64 ((rd_T45 l0 a1).f1), .int .i64 ((rd_T45 l0 a1).f4), .int .i64 ((rd_T45 l0 a1).f5), .int .i64 ((rd_T45 l0 a1).f6), u116004] 72 (0, 0)) (by (with_reducible repeat (first | refine blk_drewN ?_ _ | refine blk_drew ?_ | refine blk_alloc ?_ _)); exact BK115.out)) : gb125 ≠ gb115)); clear HO_116004; clear HO123; clear BK112; clear BK114; clear BK115; clear HB; have HO_116004 := n0_; have HO123 := n1_; have BK112 := n2_; have BK114 := n3_; have BK115 := n4_; have HB := n5_; have BK125 := n6_; have GW125 := n7_; have GE125 := n8_; have NB112_125 := n9_; have NB125_112 := n10_; have NB114_125 := n11_; have NB125_114 := n12_; have NB115_125 := n13_; have NB125_115 := n14_; clear n0_ n1_ n2_ n3_ n4_ n5_ n6_ n7_ n8_ n9_ n10_ n11_ n12_ n13_ n14_; clear hb hbox hg; have hnb23 := NB125_112.out; have hnc23 := NB112_125.out; have hnb24 := NB125_114.out; have hnc24 := NB114_125.out; have hnb25 := NB125_115.out; have hnc25 := NB115_125.out; have hcz26_0 : w22.cell? ⟨gb125, 0, none⟩ = some (.int .i64 0) := (blk_cell BK125.out 0).trans rfl; have hcz26_1 : w22.cell? ⟨gb125, 1, none⟩ = some (.int .i64 0) := (blk_cell BK125.out 1).trans rfl; have hcz26_2 : w22.cell? ⟨gb125, 2, none⟩ = some (.int .i64 0) := (blk_cell BK125.out 2).trans rfl; have hcz26_3 : w22.cell? ⟨gb125, 3, none⟩ = some (.int .i64 0) := (blk_cell BK125.out 3).trans rfl; have hcz26_4 : w22.cell? ⟨gb125, 4, none⟩ = some (.slice none 0 0) := (blk_cell BK125.out 4).trans rfl; have hfz26_0 := blk_frozen BK125.out 0; have hfz26_1 := blk_frozen BK125.out 1; have hfz26_2 := blk_frozen BK125.out 2; have hfz26_3 := blk_frozen BK125.out 3; have hfz26_4 := blk_frozen BK125.out 4; obtain ⟨Ao27, co27, eo27⟩ := Kd.R_slice HO123.out; subst eo27) | ((with_reducible refine gate_store (t := 72) (p := 9) rfl ?_); (try (rw [drewN_self w22]; generalize hq_ : World.drewN w22 _ = w22; have n0_ := Aside0.mk (Kd.R_at hq_ HO_116004.out); have n1_ := Aside0.mk (Kd.R_at hq_ HO123.out); have n2_ := Aside0.mk (blk_at hq_ BK112.out); have n3_ := Aside0.mk (blk_at hq_ BK114.out); have n4_ := Aside0.mk (blk_at hq_ BK115.out); have n5_ := Aside0.mk (blk_at hq_ BK125.out); have n6_ := Aside0.mk (below_at hq_ HB.out); clear hq_ HO_116004 HO123 BK112 BK114 BK115 BK125 HB; have HO_116004 := n0_; have HO123 := n1_; have BK112 := n2_; have BK114 := n3_; have BK115 := n4_; have BK125 := n5_; have HB := n6_; clear n0_ n1_ n2_ n3_ n4_ n5_ n6_)); refine store_event (t := 72) (p := 9) (v := ?vo_w28) (w1 := (((((w22.setCell ⟨gb125, 0, none⟩ (.int .i64 t117)).setCell ⟨gb125, 1, none⟩ (.int .i64 t118)).setCell ⟨gb125, 2, none⟩ (.int .i64 t119)).setCell ⟨gb125, 3, none⟩ (.int .i64 t120)).setCell ⟨gb125, 4, none⟩ (.slice Ao27 t121.length co27))) ?hg ?ho ?hn ?hr ?_; (case ho => rfl); (case hg => rfl); (case hn => rfl); (case hr => first | (go_simp; done) | (go_simp; rfl)); intro w28 hw; have n0_ : Aside0 (Kd.R k72 72 w28 w.heap.size (fun k_ => some k_ ≠ (.slice Ao27 t121.length co27 : Value).ownBlock ∧ k_ ≠ gb112 ∧ k_ ≠ gb115 ∧ k_ ≠ gb125) u116004 x116004_1) := ⟨(by rw [hw]; exact (by (with_reducible repeat (first | apply Kd.R_alloc | apply Kd.R_drewN | apply Kd.R_drew)); exact Kd.R_mono (Kd.R_far (p := ⟨gb125, 4, none⟩) (Kd.R_far (p := ⟨gb125, 3, none⟩) (Kd.R_far (p := ⟨gb125, 2, none⟩) (Kd.R_far (p := ⟨gb125, 1, none⟩) (Kd.R_far (p := ⟨gb125, 0, none⟩) (Kd.R_mono HO_116004.out (fun k_ hk => (⟨hk, hk.2⟩ : _ ∧ k_ ≠ gb125))) (fun _ hk => hk.2) (.int .i64 t117)) (fun _ hk => hk.2) (.int .i64 t118)) (fun _ hk => hk.2) (.int .i64 t119)) (fun _ hk => hk.2) (.int .i64 t120)) (fun _ hk => hk.2) (.slice Ao27 t121.length co27)) (fun _ hk => ⟨hk.1.1.2, ⟨hk.1.1.1.1, ⟨hk.1.1.1.2, hk.1.2⟩⟩⟩)))⟩; have n1_ : Aside0 (Kd.R k72 72 w28 w.heap.size (fun k_ => some k_ ≠ (u116004 : Value).ownBlock ∧ k_ ≠ gb112 ∧ k_ ≠ gb115 ∧ k_ ≠ gb125) (.slice Ao27 t121.length co27) t121) := ⟨(by rw [hw]; exact (by (with_reducible repeat (first | apply Kd.R_alloc | apply Kd.R_drewN | apply Kd.R_drew)); exact Kd.R_mono (Kd.R_far (p := ⟨gb125, 4, none⟩) (Kd.R_far (p := ⟨gb125, 3, none⟩) (Kd.R_far (p := ⟨gb125, 2, none⟩) (Kd.R_far (p := ⟨gb125, 1, none⟩) (Kd.R_far (p := ⟨gb125, 0, none⟩) (Kd.R_mono HO123.out (fun k_ hk => (⟨hk, hk.2⟩ : _ ∧ k_ ≠ gb125))) (fun _ hk => hk.2) (.int .i64 t117)) (fun _ hk => hk.2) (.int .i64 t118)) (fun _ hk => hk.2) (.int .i64 t119)) (fun _ hk => hk.2) (.int .i64 t120)) (fun _ hk => hk.2) (.slice Ao27 t121.length co27)) (fun _ hk => ⟨hk.1.1.1.1.2, ⟨hk.1.1.1.2, ⟨hk.1.1.2, hk.1.2⟩⟩⟩)))⟩; have n2_ : Aside0 (w28.heap[gb112]? = some (.cells #[.int .i64 0, .int .i64 0, .int .i64 0, .int .i64 0, .slice none 0 0] 72 (0, 0))) := ⟨(by rw [hw]; exact (by (with_reducible repeat (first | refine blk_drewN ?_ _ | refine blk_drew ?_ | refine blk_alloc ?_ _)); refine blk_far ?_ NB112_125.out _; (with_reducible repeat (first | refine blk_drewN ?_ _ | refine blk_drew ?_ | refine blk_alloc ?_ _)); refine blk_far ?_ NB112_125.out _; (with_reducible repeat (first | refine blk_drewN ?_ _ | refine blk_drew ?_ | refine blk_alloc ?_ _)); refine blk_far ?_ NB112_125.out _; (with_reducible repeat (first | refine blk_drewN ?_ _ | refine blk_drew ?_ | refine blk_alloc ?_ _)); refine blk_far ?_ NB112_125.out _; (with_reducible repeat (first | refine blk_drewN ?_ _ | refine blk_drew ?_ | refine blk_alloc ?_ _)); refine blk_far ?_ NB112_125.out _; (with_reducible repeat (first | refine blk_drewN ?_ _ | refine blk_drew ?_ | refine blk_alloc ?_ _)); exact BK112.out))⟩; have n3_ : Aside0 (w28.heap[gb114]? = some (.cells #[.int .i64 ((rd_T45 l0 a1).f0), .int .i64 ((rd_T45 l0 a1).f1), .int .i64 ((rd_T45 l0 a1).f2), .int .i64 ((rd_T45 l0 a1).f3), .int .i64 ((rd_T45 l0 a1).f4), .int .i64 ((rd_T45 l0 a1).f5), .int .i64 ((rd_T45 l0 a1).f6)] 45 (0, 0))) := ⟨(by rw [hw]; exact (by (with_reducible repeat (first | refine blk_drewN ?_ _ | refine blk_drew ?_ | refine blk_alloc ?_ _)); refine blk_far ?_ NB114_125.out _; (with_reducible repeat (first | refine blk_drewN ?_ _ | refine blk_drew ?_ | refine blk_alloc ?_ _)); refine blk_far ?_ NB114_125.out _; (with_reducible repeat (first | refine blk_drewN ?_ _ | refine blk_drew ?_ | refine blk_alloc ?_ _)); refine blk_far ?_ NB114_125.out _; (with_reducible repeat (first | refine blk_drewN ?_ _ | refine blk_drew ?_ | refine blk_alloc ?_ _)); refine blk_far ?_ NB114_125.out _; (with_reducible repeat (first | refine blk_drewN ?_ _ | refine blk_drew ?_ | refine blk_alloc ?_ _)); refine blk_far ?_ NB114_125.out _; (with_reducible repeat (first | refine blk_drewN ?_ _ | refine blk_drew ?_ | refine blk_alloc ?_ _)); exact BK114.out))⟩; have n4_ : Aside0 (w28.heap[gb115]? = some (.cells #[.int .i64 ((rd_T45 l0 a1).f1), .int .i64 ((rd_T45 l0 a1).f4), .int .i64 ((rd_T45 l0 a1).f5), .int .i64 ((rd_T45 l0 a1).f6), u116004] 72 (0, 0))) := ⟨(by rw [hw]; exact (by (with_reducible repeat (first | refine blk_drewN ?_ _ | refine blk_drew ?_ | refine blk_alloc ?_ _)); refine blk_far ?_ NB115_125.out _; (with_reducible repeat (first | refine blk_drewN ?_ _ | refine blk_drew ?_ | refine blk_alloc ?_ _)); refine blk_far ?_ NB115_125.out _; (with_reducible repeat (first | refine blk_drewN ?_ _ | refine blk_drew ?_ | refine blk_alloc ?_ _)); refine blk_far ?_ NB115_125.out _; (with_reducible repeat (first | refine blk_drewN ?_ _ | refine blk_drew ?_ | refine blk_alloc ?_ _)); refine blk_far ?_ NB115_125.out _; (with_reducible repeat (first | refine blk_drewN ?_ _ | refine blk_drew ?_ | refine blk_alloc ?_ _)); refine blk_far ?_ NB115_125.out _; (with_reducible repeat (first | refine blk_drewN ?_ _ | refine blk_drew ?_ | refine blk_alloc ?_ _)); exact BK115.out))⟩; have n5_ : Aside0 (w28.heap[gb125]? = some (.cells #[.int .i64 t117, .int .i64 t118, .int .i64 t119, .int .i64 t120, .slice Ao27 t121.length co27] 72 (0, 0))) := ⟨(by rw [hw]; exact (by (with_reducible repeat (first | refine blk_drewN ?_ _ | refine blk_drew ?_ | refine blk_alloc ?_ _)); refine blk_put (cs := #[.int .i64 t117, .int .i64 t118, .int .i64 t119, .int .i64 t120, .slice none 0 0]) ?_ 4 _ rfl; (with_reducible repeat (first | refine blk_drewN ?_ _ | refine blk_drew ?_ | refine blk_alloc ?_ _)); refine blk_put (cs := #[.int .i64 t117, .int .i64 t118, .int .i64 t119, .int .i64 0, .slice none 0 0]) ?_ 3 _ rfl; (with_reducible repeat (first | refine blk_drewN ?_ _ | refine blk_drew ?_ | refine blk_alloc ?_ _)); refine blk_put (cs := #[.int .i64 t117, .int .i64 t118, .int .i64 0, .int .i64 0, .slice none 0 0]) ?_ 2 _ rfl; (with_reducible repeat (first | refine blk_drewN ?_ _ | refine blk_drew ?_ | refine blk_alloc ?_ _)); refine blk_put (cs := #[.int .i64 t117, .int .i64 0, .int .i64 0, .int .i64 0, .slice none 0 0]) ?_ 1 _ rfl; (with_reducible repeat (first | refine blk_drewN ?_ _ | refine blk_drew ?_ | refine blk_alloc ?_ _)); refine blk_put (cs := #[.int .i64 0, .int .i64 0, .int .i64 0, .int .i64 0, .slice none 0 0]) ?_ 0 _ rfl; (with_reducible repeat (first | refine blk_drewN ?_ _ | refine blk_drew ?_ | refine blk_alloc ?_ _)); exact BK125.out))⟩; have n6_ : Aside0 (Below w.heap.size w w28) := ⟨(by rw [hw]; exact (by repeat (first | (with_reducible first | exact HB.out | apply below_alloc | apply pw_below_drewN | apply below_drew1 | refine below_set ?_ GE112.out | refine below_set ?_ GE114.out | refine below_set ?_ GE115.out | refine below_set ?_ GE125.out) | exact HB.out)))⟩; clear hw; clear HO_116004; clear HO123; clear BK112; clear BK114; clear BK115; clear BK125; clear HB; have HO_116004 := n0_; have HO123 := n1_; have BK112 := n2_; have BK114 := n3_; have BK115 := n4_; have BK125 := n5_; have HB := n6_; clear n0_ n1_ n2_ n3_ n4_ n5_ n6_; have hnb29 := NB115_112.out; have hnc29 := NB112_115.out; have hcz30_0 : w28.cell? ⟨gb115, 0, none⟩ = some (.int .i64 ((rd_T45 l0 a1).f1)) := (blk_cell BK115.out 0).trans rfl; have hcz30_1 : w28.cell? ⟨gb115, 1, none⟩ = some (.int .i64 ((rd_T45 l0 a1).f4)) := (blk_cell BK115.out 1).trans rfl; have hcz30_2 : w28.cell? ⟨gb115, 2, none⟩ = some (.int .i64 ((rd_T45 l0 a1).f5)) := (blk_cell BK115.out 2).trans rfl; have hcz30_3 : w28.cell? ⟨gb115, 3, none⟩ = some (.int .i64 ((rd_T45 l0 a1).f6)) := (blk_cell BK115.out 3).trans rfl; have hcz30_4 : w28.cell? ⟨gb115, 4, none⟩ = some (u116004) := (blk_cell BK115.out 4).trans rfl; have hfz30_0 := blk_frozen BK115.out 0; have hfz30_1 := blk_frozen BK115.out 1; have hfz30_2 := blk_frozen BK115.out 2; have hfz30_3 := blk_frozen BK115.out 3; have hfz30_4 := blk_frozen BK115.out 4; have hcz31_0 : w28.cell? ⟨gb125, 0, none⟩ = some (.int .i64 t117) := (blk_cell BK125.out 0).trans rfl; have hcz31_1 : w28.cell? ⟨gb125, 1, none⟩ = some (.int .i64 t118) := (blk_cell BK125.out 1).trans rfl; have hcz31_2 : w28.cell? ⟨gb125, 2, none⟩ = some (.int .i64 t119) := (blk_cell BK125.out 2).trans rfl; have hcz31_3 : w28.cell? ⟨gb125, 3, none⟩ = some (.int .i64 t120) := (blk_cell BK125.out 3).trans rfl; have hcz31_4 : w28.cell? ⟨gb125, 4, none⟩ = some (.slice Ao27 t121.length co27) := (blk_cell BK125.out 4).trans rfl; have hfz31_0 := blk_frozen BK125.out 0; have hfz31_1 := blk_frozen BK125.out 1; have hfz31_2 := blk_frozen BK125.out 2; have hfz31_3 := blk_frozen BK125.out 3; have hfz31_4 := blk_frozen BK125.out 4) | ((with_reducible refine gate_builtin (b := .append) (xs := #[.tmp 47, .tmp 49]) rfl ?_); at_builtin; refine Kd.R_append k72 (w0 := w) w.heap.size rfl (.tmp 47) (.tmp 49) 70 72 (.agg #[(.int .i64 0), (.int .i64 0), (.int .i64 0), (.int .i64 0), (.slice none 0 0)]) 56 rfl Tryd.underlying70 info72 rfl (by decide) (by omega) u116004 x116004_1 (⟨t117, t118, t119, t120, t121⟩ : S72) [.int .i64 t117, .int .i64 t118, .int .i64 t119, .int .i64 t120, .slice Ao27 t121.length co27] (fun k_ => k_ ≠ gb112 ∧ k_ ≠ gb115 ∧ k_ ≠ gb125) (fun k_ => ((fun k_ => k_ ≠ gb112 ∧ k_ ≠ gb115 ∧ k_ ≠ gb125)) k_ ∧ some k_ ≠ (u116004 : Value).ownBlock) rfl rfl ?aP (fun _ hk => hk) ?aF ?aO ?aB ?aS ?aL ?_; (case aP => exact k72_mkM _ _ _ (⟨t117, t118, t119, t120, t121⟩ : S72) (Kd.R_mono (HO123.out) (fun k_ hk => ⟨⟨hk.2.1, ⟨hk.2.2.1, hk.2.2.2⟩⟩, hk.1⟩))); (case aB => exact (by repeat (first | (with_reducible first | exact HB.out | apply below_alloc | apply pw_below_drewN | apply below_drew1 | refine below_set ?_ GE112.out | refine below_set ?_ GE114.out | refine below_set ?_ GE115.out | refine below_set ?_ GE125.out) | exact HB.out))); (case aF => exact (fun k_ hk => ⟨Kd.freshB (g := gb112) (o := .cells #[.int .i64 0, .int .i64 0, .int .i64 0, .int .i64 0, .slice none 0 0] 72 (0, 0)) (by (with_reducible repeat (first | refine blk_drewN ?_ _ | refine blk_drew ?_ | refine blk_alloc ?_ _)); exact BK112.out) k_ hk, Kd.freshB (g := gb115) (o := .cells #[.int .i64 ((rd_T45 l0 a1).f1), .int .i64 ((rd_T45 l0 a1).f4), .int .i64 ((rd_T45 l0 a1).f5), .int .i64 ((rd_T45 l0 a1).f6), u116004] 72 (0, 0)) (by (with_reducible repeat (first | refine blk_drewN ?_ _ | refine blk_drew ?_ | refine blk_alloc ?_ _)); exact BK115.out) k_ hk, Kd.freshB (g := gb125) (o := .cells #[.int .i64 t117, .int .i64 t118, .int .i64 t119, .int .i64 t120, .slice Ao27 t121.length co27] 72 (0, 0)) (by (with_reducible repeat (first | refine blk_drewN ?_ _ | refine blk_drew ?_ | refine blk_alloc ?_ _)); exact BK125.out) k_ hk⟩)); (case aO => exact (by (with_reducible repeat (first | apply Kd.R_alloc | apply Kd.R_drewN | apply Kd.R_drew)); exact Kd.R_mono HO_116004.out (fun _ hk => ⟨hk.2.1, ⟨hk.2.2.1, hk.2.2.2⟩⟩))); (case aS => exact (below_size (by repeat (first | (with_reducible first | exact HB.out | apply below_alloc | apply pw_below_drewN | apply below_drew1 | refine below_set ?_ GE112.out | refine below_set ?_ GE114.out | refine below_set ?_ GE115.out | refine below_set ?_ GE125.out) | exact HB.out)))); (case aL => have := LMc17.out; omega); intro v127 w32 ho hb hg hat; rw [← Ny126.out] at ho; have n0_ := Aside0.mk (blk_grown (g := gb112) (o := .cells #[.int .i64 0, .int .i64 0, .int .i64 0, .int .i64 0, .slice none 0 0] 72 (0, 0)) (by (with_reducible repeat (first | refine blk_drewN ?_ _ | refine blk_drew ?_ | refine blk_alloc ?_ _)); exact BK112.out) hg (Kd.R_away HO_116004.out (fun _ hk => hk.2.1))); have n1_ := Aside0.mk (blk_grown (g := gb114) (o := .cells #[.int .i64 ((rd_T45 l0 a1).f0), .int .i64 ((rd_T45 l0 a1).f1), .int .i64 ((rd_T45 l0 a1).f2), .int .i64 ((rd_T45 l0 a1).f3), .int .i64 ((rd_T45 l0 a1).f4), .int .i64 ((rd_T45 l0 a1).f5), .int .i64 ((rd_T45 l0 a1).f6)] 45 (0, 0)) (by (with_reducible repeat (first | refine blk_drewN ?_ _ | refine blk_drew ?_ | refine blk_alloc ?_ _)); exact BK114.out) hg (Kd.R_ne HO_116004.out BK114.out (by decide))); have n2_ := Aside0.mk (blk_grown (g := gb115) (o := .cells #[.int .i64 ((rd_T45 l0 a1).f1), .int .i64 ((rd_T45 l0 a1).f4), .int .i64 ((rd_T45 l0 a1).f5), .int .i64 ((rd_T45 l0 a1).f6), u116004] 72 (0, 0)) (by (with_reducible repeat (first | refine blk_drewN ?_ _ | refine blk_drew ?_ | refine blk_alloc ?_ _)); exact BK115.out) hg (Kd.R_away HO_116004.out (fun _ hk => hk.2.2.1))); have n3_ := Aside0.mk (blk_grown (g := gb125) (o := .cells #[.int .i64 t117, .int .i64 t118, .int .i64 t119, .int .i64 t120, .slice Ao27 t121.length co27] 72 (0, 0)) (by (with_reducible repeat (first | refine blk_drewN ?_ _ | refine blk_drew ?_ | refine blk_alloc ?_ _)); exact BK125.out) hg (Kd.R_away HO_116004.out (fun _ hk => hk.2.2.2))); have n4_ := Aside0.mk (hb); have n5_ := Aside0.mk (ho); clear BK112; clear BK114; clear BK115; clear BK125; clear HB; clear HO_116004; clear HO123; have BK112 := n0_; have BK114 := n1_; have BK115 := n2_; have BK125 := n3_; have HB := n4_; have HO128 := n5_; clear n0_ n1_ n2_ n3_ n4_ n5_; clear ho hb hg hat; obtain ⟨Ao33, co33, eo33⟩ := Kd.R_slice HO128.out; subst eo33; have hcz34_0 : w32.cell? ⟨gb115, 0, none⟩ = some (.int .i64 ((rd_T45 l0 a1).f1)) := (blk_cell BK115.out 0).trans rfl; have hcz34_1 : w32.cell? ⟨gb115, 1, none⟩ = some (.int .i64 ((rd_T45 l0 a1).f4)) := (blk_cell BK115.out 1).trans rfl; have hcz34_2 : w32.cell? ⟨gb115, 2, none⟩ = some (.int .i64 ((rd_T45 l0 a1).f5)) := (blk_cell BK115.out 2).trans rfl; have hcz34_3 : w32.cell? ⟨gb115, 3, none⟩ = some (.int .i64 ((rd_T45 l0 a1).f6)) := (blk_cell BK115.out 3).trans rfl; have hcz34_4 : w32.cell? ⟨gb115, 4, none⟩ = some (u116004) := (blk_cell BK115.out 4).trans rfl; have hfz34_0 := blk_frozen BK115.out 0; have hfz34_1 := blk_frozen BK115.out 1; have hfz34_2 := blk_frozen BK115.out 2; have hfz34_3 := blk_frozen BK115.out 3; have hfz34_4 := blk_frozen BK115.out 4)))
                 go_roundg k1
                 case measure => have := HK1.out; omega
                 case rel => exact ⟨(t124), (y126), (.slice Ao33 y126.length co33), (by first | rfl | (simp; done) | (simp [*]; done)), H', ⟨by have := HK1.out; omega⟩, ⟨by (with_reducible repeat (first | apply Kd.R_alloc | apply Kd.R_drewN | apply Kd.R_drew)); exact Kd.R_mono (Kd.R_far (p := ⟨gb115, 4, none⟩) (Kd.R_mono HO128.out (fun k_ hk => (⟨hk, hk.2.1⟩ : _ ∧ k_ ≠ gb115))) (fun _ hk => hk.2) (.slice Ao33 y126.length co33)) (fun _ hk => ⟨hk.1.1, hk.1.2.1⟩)⟩, ⟨by (with_reducible repeat (first | refine blk_drewN ?_ _ | refine blk_drew ?_ | refine blk_alloc ?_ _)); refine blk_far ?_ NB112_115.out _; (with_reducible repeat (first | refine blk_drewN ?_ _ | refine blk_drew ?_ | refine blk_alloc ?_ _)); exact BK112.out⟩, ⟨by (with_reducible repeat (first | refine blk_drewN ?_ _ | refine blk_drew ?_ | refine blk_alloc ?_ _)); refine blk_far ?_ NB114_115.out _; (with_reducible repeat (first | refine blk_drewN ?_ _ | refine blk_drew ?_ | refine blk_alloc ?_ _)); exact BK114.out⟩, ⟨by (with_reducible repeat (first | refine blk_drewN ?_ _ | refine blk_drew ?_ | refine blk_alloc ?_ _)); refine blk_put (cs := #[.int .i64 ((rd_T45 l0 a1).f1), .int .i64 ((rd_T45 l0 a1).f4), .int .i64 ((rd_T45 l0 a1).f5), .int .i64 ((rd_T45 l0 a1).f6), u116004]) ?_ 4 _ rfl; (with_reducible repeat (first | refine blk_drewN ?_ _ | refine blk_drew ?_ | refine blk_alloc ?_ _)); exact BK115.out⟩, ⟨by repeat (first | (with_reducible first | exact HB.out | apply below_alloc | apply pw_below_drewN | apply below_drew1 | refine below_set ?_ GE112.out | refine below_set ?_ GE114.out | refine below_set ?_ GE115.out | refine below_set ?_ GE125.out) | exact HB.out)⟩⟩
               · rw [if_neg c17] at H
                 exact absurd H (by simp)
             · rw [if_neg c15] at H
               have c15b0 : decide (((rd_T45 l0 a1).f0) < ((rd_T45 l0 x8_1).f0)) = false := decide_eq_false c15
               clear c15
               simp only [Option.some.injEq, Prod.mk.injEq] at H
               obtain ⟨rfl, rfl, rfl, rfl, rfl, rfl⟩ := H
               have p116 : 0 ≤ (x8_1 : Int) := of_decide_eq_true (by first | (with_reducible assumption) | assumption)
               have q116 : x8_1 < (l0.length : Int) := of_decide_eq_true (by first | (with_reducible assumption) | assumption)
               obtain ⟨ad116, e116, hx116_0, hx116_1, hx116_2, hx116_3, hx116_4, hx116_5, hx116_6⟩ := at_T45 HR0.out x8_1 p116 q116
               obtain rfl : ad113 = ad116 := (by injection e116)
               replace hx116_0 := (HB.out.cell (World.block_lt_of_cell? w _ hx116_0)).trans hx116_0
               replace hx116_1 := (HB.out.cell (World.block_lt_of_cell? w _ hx116_1)).trans hx116_1
               replace hx116_2 := (HB.out.cell (World.block_lt_of_cell? w _ hx116_2)).trans hx116_2
               replace hx116_3 := (HB.out.cell (World.block_lt_of_cell? w _ hx116_3)).trans hx116_3
               replace hx116_4 := (HB.out.cell (World.block_lt_of_cell? w _ hx116_4)).trans hx116_4
               replace hx116_5 := (HB.out.cell (World.block_lt_of_cell? w _ hx116_5)).trans hx116_5
               replace hx116_6 := (HB.out.cell (World.block_lt_of_cell? w _ hx116_6)).trans hx116_6
               replace p116 := eq_true p116
               replace q116 := eq_true q116
               have hnb35 := NB114_112.out
               have hnc35 := NB112_114.out
               have hnb36 := NB114_115.out
               have hnc36 := NB115_114.out
               have hcz37_0 : wr.cell? ⟨gb114, 0, none⟩ = some (.int .i64 ((rd_T45 l0 a1).f0)) := (blk_cell BK114.out 0).trans rfl
               have hcz37_1 : wr.cell? ⟨gb114, 1, none⟩ = some (.int .i64 ((rd_T45 l0 a1).f1)) := (blk_cell BK114.out 1).trans rfl
               have hcz37_2 : wr.cell? ⟨gb114, 2, none⟩ = some (.int .i64 ((rd_T45 l0 a1).f2)) := (blk_cell BK114.out 2).trans rfl
               have hcz37_3 : wr.cell? ⟨gb114, 3, none⟩ = some (.int .i64 ((rd_T45 l0 a1).f3)) := (blk_cell BK114.out 3).trans rfl
               have hcz37_4 : wr.cell? ⟨gb114, 4, none⟩ = some (.int .i64 ((rd_T45 l0 a1).f4)) := (blk_cell BK114.out 4).trans rfl
               have hcz37_5 : wr.cell? ⟨gb114, 5, none⟩ = some (.int .i64 ((rd_T45 l0 a1).f5)) := (blk_cell BK114.out 5).trans rfl
               have hcz37_6 : wr.cell? ⟨gb114, 6, none⟩ = some (.int .i64 ((rd_T45 l0 a1).f6)) := (blk_cell BK114.out 6).trans rfl
               have hfz37_0 := blk_frozen BK114.out 0
               have hfz37_1 := blk_frozen BK114.out 1
               have hfz37_2 := blk_frozen BK114.out 2
               have hfz37_3 := blk_frozen BK114.out 3
               have hfz37_4 := blk_frozen BK114.out 4
               have hfz37_5 := blk_frozen BK114.out 5
               have hfz37_6 := blk_frozen BK114.out 6
               have hnb38 := NB115_112.out
               have hnc38 := NB112_115.out
               have hcz39_0 : wr.cell? ⟨gb115, 0, none⟩ = some (.int .i64 ((rd_T45 l0 a1).f1)) := (blk_cell BK115.out 0).trans rfl
               have hcz39_1 : wr.cell? ⟨gb115, 1, none⟩ = some (.int .i64 ((rd_T45 l0 a1).f4)) := (blk_cell BK115.out 1).trans rfl
               have hcz39_2 : wr.cell? ⟨gb115, 2, none⟩ = some (.int .i64 ((rd_T45 l0 a1).f5)) := (blk_cell BK115.out 2).trans rfl
               have hcz39_3 : wr.cell? ⟨gb115, 3, none⟩ = some (.int .i64 ((rd_T45 l0 a1).f6)) := (blk_cell BK115.out 3).trans rfl
               have hcz39_4 : wr.cell? ⟨gb115, 4, none⟩ = some (u116004) := (blk_cell BK115.out 4).trans rfl
               have hfz39_0 := blk_frozen BK115.out 0
               have hfz39_1 := blk_frozen BK115.out 1
               have hfz39_2 := blk_frozen BK115.out 2
               have hfz39_3 := blk_frozen BK115.out 3
               have hfz39_4 := blk_frozen BK115.out 4
               have hcz40_0 : wr.cell? ⟨gb112, 0, none⟩ = some (.int .i64 0) := (blk_cell BK112.out 0).trans rfl
               have hcz40_1 : wr.cell? ⟨gb112, 1, none⟩ = some (.int .i64 0) := (blk_cell BK112.out 1).trans rfl
               have hcz40_2 : wr.cell? ⟨gb112, 2, none⟩ = some (.int .i64 0) := (blk_cell BK112.out 2).trans rfl
               have hcz40_3 : wr.cell? ⟨gb112, 3, none⟩ = some (.int .i64 0) := (blk_cell BK112.out 3).trans rfl
               have hcz40_4 : wr.cell? ⟨gb112, 4, none⟩ = some (.slice none 0 0) := (blk_cell BK112.out 4).trans rfl
               have hfz40_0 := blk_frozen BK112.out 0
               have hfz40_1 := blk_frozen BK112.out 1
               have hfz40_2 := blk_frozen BK112.out 2
               have hfz40_3 := blk_frozen BK112.out 3
               have hfz40_4 := blk_frozen BK112.out 4
               obtain ⟨Ao41, co41, eo41⟩ := Kd.R_slice HO_116004.out
               subst eo41
               go_wp2
               repeat (go_quiet (fail); try go_wp2)
               refine bodyPost_ret (results_ct rfl _ _ gb112 72 #[.int .i64 ((rd_T45 l0 a1).f1), .int .i64 ((rd_T45 l0 a1).f4), .int .i64 ((rd_T45 l0 a1).f5), .int .i64 ((rd_T45 l0 a1).f6), .slice Ao41 x116004_1.length co41] (0, 0) _ rfl (by (with_reducible repeat (first | refine blk_drewN ?_ _ | refine blk_drew ?_ | refine blk_alloc ?_ _)); refine blk_put (cs := #[.int .i64 ((rd_T45 l0 a1).f1), .int .i64 ((rd_T45 l0 a1).f4), .int .i64 ((rd_T45 l0 a1).f5), .int .i64 ((rd_T45 l0 a1).f6), .slice none 0 0]) ?_ 4 _ rfl; (with_reducible repeat (first | refine blk_drewN ?_ _ | refine blk_drew ?_ | refine blk_alloc ?_ _)); refine blk_put (cs := #[.int .i64 ((rd_T45 l0 a1).f1), .int .i64 ((rd_T45 l0 a1).f4), .int .i64 ((rd_T45 l0 a1).f5), .int .i64 0, .slice none 0 0]) ?_ 3 _ rfl; (with_reducible repeat (first | refine blk_drewN ?_ _ | refine blk_drew ?_ | refine blk_alloc ?_ _)); refine blk_put (cs := #[.int .i64 ((rd_T45 l0 a1).f1), .int .i64 ((rd_T45 l0 a1).f4), .int .i64 0, .int .i64 0, .slice none 0 0]) ?_ 2 _ rfl; (with_reducible repeat (first | refine blk_drewN ?_ _ | refine blk_drew ?_ | refine blk_alloc ?_ _)); refine blk_put (cs := #[.int .i64 ((rd_T45 l0 a1).f1), .int .i64 0, .int .i64 0, .int .i64 0, .slice none 0 0]) ?_ 1 _ rfl; (with_reducible repeat (first | refine blk_drewN ?_ _ | refine blk_drew ?_ | refine blk_alloc ?_ _)); refine blk_put (cs := #[.int .i64 0, .int .i64 0, .int .i64 0, .int .i64 0, .slice none 0 0]) ?_ 0 _ rfl; (with_reducible repeat (first | refine blk_drewN ?_ _ | refine blk_drew ?_ | refine blk_alloc ?_ _)); exact BK112.out) Tryd.underlying72 rfl (by kernel_rfl)) rfl ?_
               (try replace HO_116004 := Aside0.mk (Kd.R_drewN HO_116004.out nq))
               exact ⟨_, by first | rfl | (simp [errW_none, errW_some] <;> rfl) | (simp [*, errW_none, errW_some] <;> rfl), by (with_reducible repeat (first | apply Kd.R_alloc | apply Kd.R_drewN | apply Kd.R_drew)); exact Kd.R_mono (Kd.R_far (p := ⟨gb112, 4, none⟩) (Kd.R_far (p := ⟨gb112, 3, none⟩) (Kd.R_far (p := ⟨gb112, 2, none⟩) (Kd.R_far (p := ⟨gb112, 1, none⟩) (Kd.R_far (p := ⟨gb112, 0, none⟩) (Kd.R_mono HO_116004.out (fun k_ hk => (⟨hk, hk.1⟩ : _ ∧ k_ ≠ gb112))) (fun _ hk => hk.2) (.int .i64 ((rd_T45 l0 a1).f1))) (fun _ hk => hk.2) (.int .i64 ((rd_T45 l0 a1).f4))) (fun _ hk => hk.2) (.int .i64 ((rd_T45 l0 a1).f5))) (fun _ hk => hk.2) (.int .i64 ((rd_T45 l0 a1).f6))) (fun _ hk => hk.2) (.slice Ao41 x116004_1.length co41)) (fun _ hk => trivial), by repeat (first | (with_reducible first | exact HB.out | apply below_alloc | apply pw_below_drewN | apply below_drew1 | refine below_set ?_ GE112.out | refine below_set ?_ GE114.out | refine below_set ?_ GE115.out) | exact HB.out)⟩
           · rw [if_neg c14] at H
             exact absurd H (by simp)
         · rw [if_neg c13] at H
           have c13b0 : decide (x8_1 < (l0.length : Int)) = false := decide_eq_false c13
           clear c13
           simp only [Option.some.injEq, Prod.mk.injEq] at H
           obtain ⟨rfl, rfl, rfl, rfl, rfl, rfl⟩ := H
           have hnb42 := NB115_112.out
           have hnc42 := NB112_115.out
           have hnb43 := NB115_114.out
           have hnc43 := NB114_115.out
           have hcz44_0 : wr.cell? ⟨gb115, 0, none⟩ = some (.int .i64 ((rd_T45 l0 a1).f1)) := (blk_cell BK115.out 0).trans rfl
           have hcz44_1 : wr.cell? ⟨gb115, 1, none⟩ = some (.int .i64 ((rd_T45 l0 a1).f4)) := (blk_cell BK115.out 1).trans rfl
           have hcz44_2 : wr.cell? ⟨gb115, 2, none⟩ = some (.int .i64 ((rd_T45 l0 a1).f5)) := (blk_cell BK115.out 2).trans rfl
           have hcz44_3 : wr.cell? ⟨gb115, 3, none⟩ = some (.int .i64 ((rd_T45 l0 a1).f6)) := (blk_cell BK115.out 3).trans rfl
           have hcz44_4 : wr.cell? ⟨gb115, 4, none⟩ = some (u116004) := (blk_cell BK115.out 4).trans rfl
           have hfz44_0 := blk_frozen BK115.out 0
           have hfz44_1 := blk_frozen BK115.out 1
           have hfz44_2 := blk_frozen BK115.out 2
           have hfz44_3 := blk_frozen BK115.out 3
           have hfz44_4 := blk_frozen BK115.out 4
           have hnb45 := NB112_114.out
           have hnc45 := NB114_112.out
           have hcz46_0 : wr.cell? ⟨gb112, 0, none⟩ = some (.int .i64 0) := (blk_cell BK112.out 0).trans rfl
           have hcz46_1 : wr.cell? ⟨gb112, 1, none⟩ = some (.int .i64 0) := (blk_cell BK112.out 1).trans rfl
           have hcz46_2 : wr.cell? ⟨gb112, 2, none⟩ = some (.int .i64 0) := (blk_cell BK112.out 2).trans rfl
           have hcz46_3 : wr.cell? ⟨gb112, 3, none⟩ = some (.int .i64 0) := (blk_cell BK112.out 3).trans rfl
           have hcz46_4 : wr.cell? ⟨gb112, 4, none⟩ = some (.slice none 0 0) := (blk_cell BK112.out 4).trans rfl
           have hfz46_0 := blk_frozen BK112.out 0
           have hfz46_1 := blk_frozen BK112.out 1
           have hfz46_2 := blk_frozen BK112.out 2
           have hfz46_3 := blk_frozen BK112.out 3
           have hfz46_4 := blk_frozen BK112.out 4
           obtain ⟨Ao47, co47, eo47⟩ := Kd.R_slice HO_116004.out
           subst eo47
           go_wp2
           repeat (go_quiet (fail); try go_wp2)
           refine bodyPost_ret (results_ct rfl _ _ gb112 72 #[.int .i64 ((rd_T45 l0 a1).f1), .int .i64 ((rd_T45 l0 a1).f4), .int .i64 ((rd_T45 l0 a1).f5), .int .i64 ((rd_T45 l0 a1).f6), .slice Ao47 x116004_1.length co47] (0, 0) _ rfl (by (with_reducible repeat (first | refine blk_drewN ?_ _ | refine blk_drew ?_ | refine blk_alloc ?_ _)); refine blk_put (cs := #[.int .i64 ((rd_T45 l0 a1).f1), .int .i64 ((rd_T45 l0 a1).f4), .int .i64 ((rd_T45 l0 a1).f5), .int .i64 ((rd_T45 l0 a1).f6), .slice none 0 0]) ?_ 4 _ rfl; (with_reducible repeat (first | refine blk_drewN ?_ _ | refine blk_drew ?_ | refine blk_alloc ?_ _)); refine blk_put (cs := #[.int .i64 ((rd_T45 l0 a1).f1), .int .i64 ((rd_T45 l0 a1).f4), .int .i64 ((rd_T45 l0 a1).f5), .int .i64 0, .slice none 0 0]) ?_ 3 _ rfl; (with_reducible repeat (first | refine blk_drewN ?_ _ | refine blk_drew ?_ | refine blk_alloc ?_ _)); refine blk_put (cs := #[.int .i64 ((rd_T45 l0 a1).f1), .int .i64 ((rd_T45 l0 a1).f4), .int .i64 0, .int .i64 0, .slice none 0 0]) ?_ 2 _ rfl; (with_reducible repeat (first | refine blk_drewN ?_ _ | refine blk_drew ?_ | refine blk_alloc ?_ _)); refine blk_put (cs := #[.int .i64 ((rd_T45 l0 a1).f1), .int .i64 0, .int .i64 0, .int .i64 0, .slice none 0 0]) ?_ 1 _ rfl; (with_reducible repeat (first | refine blk_drewN ?_ _ | refine blk_drew ?_ | refine blk_alloc ?_ _)); refine blk_put (cs := #[.int .i64 0, .int .i64 0, .int .i64 0, .int .i64 0, .slice none 0 0]) ?_ 0 _ rfl; (with_reducible repeat (first | refine blk_drewN ?_ _ | refine blk_drew ?_ | refine blk_alloc ?_ _)); exact BK112.out) Tryd.underlying72 rfl (by kernel_rfl)) rfl ?_
           (try replace HO_116004 := Aside0.mk (Kd.R_drewN HO_116004.out nq))
           exact ⟨_, by first | rfl | (simp [errW_none, errW_some] <;> rfl) | (simp [*, errW_none, errW_some] <;> rfl), by (with_reducible repeat (first | apply Kd.R_alloc | apply Kd.R_drewN | apply Kd.R_drew)); exact Kd.R_mono (Kd.R_far (p := ⟨gb112, 4, none⟩) (Kd.R_far (p := ⟨gb112, 3, none⟩) (Kd.R_far (p := ⟨gb112, 2, none⟩) (Kd.R_far (p := ⟨gb112, 1, none⟩) (Kd.R_far (p := ⟨gb112, 0, none⟩) (Kd.R_mono HO_116004.out (fun k_ hk => (⟨hk, hk.1⟩ : _ ∧ k_ ≠ gb112))) (fun _ hk => hk.2) (.int .i64 ((rd_T45 l0 a1).f1))) (fun _ hk => hk.2) (.int .i64 ((rd_T45 l0 a1).f4))) (fun _ hk => hk.2) (.int .i64 ((rd_T45 l0 a1).f5))) (fun _ hk => hk.2) (.int .i64 ((rd_T45 l0 a1).f6))) (fun _ hk => hk.2) (.slice Ao47 x116004_1.length co47)) (fun _ hk => trivial), by repeat (first | (with_reducible first | exact HB.out | apply below_alloc | apply pw_below_drewN | apply below_drew1 | refine below_set ?_ GE112.out | refine below_set ?_ GE114.out | refine below_set ?_ GE115.out) | exact HB.out)⟩
   · rw [if_neg c4] at H
     exact absurd H (by simp)
 · rw [if_neg c3] at H
   exact absurd H (by simp)
def mullionref04_extent.f (a0_0 : Int) (a0_1 : Int) (a0_2 : Int) (a0_3 : Int) (l0_4 : List (S72)) (a1 : Int) : Option (Int) := if a1 = 2 then (some a0_1) else (some a0_2)
set_option maxHeartbeats 8000000 in
set_option maxRecDepth 100000 in
theorem mullionref04_extent.calls (a0_0 : Int) (a0_1 : Int) (a0_2 : Int) (a0_3 : Int) (A0_4 : Option Addr) (c0_4 : Nat) (l0_4 : List (S72)) (a1 : Int) (r : Int) (w : World) (hr0_4 : Kd.C k72 w A0_4 l0_4.length l0_4) (hc0_4 : l0_4.length ≤ c0_4) (h : mullionref04_extent.f a0_0 a0_1 a0_2 a0_3 l0_4 a1 = some r) :
   Calls Tryd.prog 70 #[.agg #[.int .i64 a0_0, .int .i64 a0_1, .int .i64 a0_2, .int .i64 a0_3, .slice A0_4 l0_4.length c0_4], .int .i64 a1] w fun e w' => e = .returned (.int .i64 r) ∧ Below w.heap.size w w' := by
 have hu72 := Tryd.underlying72
 have HR0_4 := Aside0.mk hr0_4
 have HC0_4 := Aside0.mk hc0_4
 clear hr0_4 hc0_4
 have HB := Aside0.mk (Below.refl w.heap.size w)
 have H : (if a1 = 2 then (some a0_1) else (some a0_2)) = some r := h
 clear h
 by_cases c3 : a1 = 2
 · rw [if_pos c3] at H
   have c3b0 : (a1 == 2) = true := beq_iff_eq.mpr c3
   have c3b1 : (a1 != 2) = false := bne_eq_false_iff_eq.mpr c3
   clear c3
   obtain rfl := Option.some.inj H
   go_enter Tryd.func70, Tryd.ntmps70
   go_wp2_with (first | ((with_reducible refine gate_dst (N := 2) rfl ?_); refine box_event ?hg (N := 2) ?hd (cs := #[.int .i64 a0_0, .int .i64 a0_1, .int .i64 a0_2, .int .i64 a0_3, .slice A0_4 l0_4.length c0_4]) (t := 72) ?hr ?_; (case hd => rfl); (case hg => rfl); (case hr => first | (go_simp; done) | (go_simp; rfl)); intro gb129 hg w4 hbox hb; have n0_ := Aside0.mk (below_step (by repeat (first | (with_reducible first | exact HB.out | apply below_alloc | apply pw_below_drewN | apply below_drew1) | exact HB.out)) hb); have n1_ := Aside0.mk (hbox); have n2_ := Aside0.mk ((by rw [hg]; exact (below_size (by repeat (first | (with_reducible first | exact HB.out | apply below_alloc | apply pw_below_drewN | apply below_drew1) | exact HB.out))) : w.heap.size ≤ gb129)); have n3_ := Aside0.mk ((by rw [hg]; exact (below_size (by repeat (first | (with_reducible first | exact HB.out | apply below_alloc | apply pw_below_drewN | apply below_drew1) | exact HB.out))) : w.heap.size ≤ gb129)); clear HB; have HB := n0_; have BK129 := n1_; have GW129 := n2_; have GE129 := n3_; clear n0_ n1_ n2_ n3_; clear hb hbox hg; have hcz5_0 : w4.cell? ⟨gb129, 0, none⟩ = some (.int .i64 a0_0) := (blk_cell BK129.out 0).trans rfl; have hcz5_1 : w4.cell? ⟨gb129, 1, none⟩ = some (.int .i64 a0_1) := (blk_cell BK129.out 1).trans rfl; have hcz5_2 : w4.cell? ⟨gb129, 2, none⟩ = some (.int .i64 a0_2) := (blk_cell BK129.out 2).trans rfl; have hcz5_3 : w4.cell? ⟨gb129, 3, none⟩ = some (.int .i64 a0_3) := (blk_cell BK129.out 3).trans rfl; have hcz5_4 : w4.cell? ⟨gb129, 4, none⟩ = some (.slice A0_4 l0_4.length c0_4) := (blk_cell BK129.out 4).trans rfl; have hfz5_0 := blk_frozen BK129.out 0; have hfz5_1 := blk_frozen BK129.out 1; have hfz5_2 := blk_frozen BK129.out 2; have hfz5_3 := blk_frozen BK129.out 3; have hfz5_4 := blk_frozen BK129.out 4))
   go_ret
   exact ⟨by first | rfl | (simp [errW_none, errW_some] <;> rfl) | (simp [*, errW_none, errW_some] <;> rfl), by repeat (first | (with_reducible first | exact HB.out | apply below_alloc | apply pw_below_drewN | apply below_drew1 | refine below_set ?_ GE129.out) | exact HB.out)⟩
 · rw [if_neg c3] at H
   have c3b0 : (a1 == 2) = false := beq_eq_false_iff_ne.mpr c3
   have c3b1 : (a1 != 2) = true := bne_iff_ne.mpr c3
   obtain rfl := Option.some.inj H
   go_enter Tryd.func70, Tryd.ntmps70
   go_wp2_with (first | ((with_reducible refine gate_dst (N := 2) rfl ?_); refine box_event ?hg (N := 2) ?hd (cs := #[.int .i64 a0_0, .int .i64 a0_1, .int .i64 a0_2, .int .i64 a0_3, .slice A0_4 l0_4.length c0_4]) (t := 72) ?hr ?_; (case hd => rfl); (case hg => rfl); (case hr => first | (go_simp; done) | (go_simp; rfl)); intro gb129 hg w6 hbox hb; have n0_ := Aside0.mk (below_step (by repeat (first | (with_reducible first | exact HB.out | apply below_alloc | apply pw_below_drewN | apply below_drew1) | exact HB.out)) hb); have n1_ := Aside0.mk (hbox); have n2_ := Aside0.mk ((by rw [hg]; exact (below_size (by repeat (first | (with_reducible first | exact HB.out | apply below_alloc | apply pw_below_drewN | apply below_drew1) | exact HB.out))) : w.heap.size ≤ gb129)); have n3_ := Aside0.mk ((by rw [hg]; exact (below_size (by repeat (first | (with_reducible first | exact HB.out | apply below_alloc | apply pw_below_drewN | apply below_drew1) | exact HB.out))) : w.heap.size ≤ gb129)); clear HB; have HB := n0_; have BK129 := n1_; have GW129 := n2_; have GE129 := n3_; clear n0_ n1_ n2_ n3_; clear hb hbox hg; have hcz7_0 : w6.cell? ⟨gb129, 0, none⟩ = some (.int .i64 a0_0) := (blk_cell BK129.out 0).trans rfl; have hcz7_1 : w6.cell? ⟨gb129, 1, none⟩ = some (.int .i64 a0_1) := (blk_cell BK129.out 1).trans rfl; have hcz7_2 : w6.cell? ⟨gb129, 2, none⟩ = some (.int .i64 a0_2) := (blk_cell BK129.out 2).trans rfl; have hcz7_3 : w6.cell? ⟨gb129, 3, none⟩ = some (.int .i64 a0_3) := (blk_cell BK129.out 3).trans rfl; have hcz7_4 : w6.cell? ⟨gb129, 4, none⟩ = some (.slice A0_4 l0_4.length c0_4) := (blk_cell BK129.out 4).trans rfl; have hfz7_0 := blk_frozen BK129.out 0; have hfz7_1 := blk_frozen BK129.out 1; have hfz7_2 := blk_frozen BK129.out 2; have hfz7_3 := blk_frozen BK129.out 3; have hfz7_4 := blk_frozen BK129.out 4))
   go_ret
   exact ⟨by first | rfl | (simp [errW_none, errW_some] <;> rfl) | (simp [*, errW_none, errW_some] <;> rfl), by repeat (first | (with_reducible first | exact HB.out | apply below_alloc | apply pw_below_drewN | apply below_drew1 | refine below_set ?_ GE129.out) | exact HB.out)⟩
end Go.Proofs.YtmpnkckaohfflaaDoor.L
end
