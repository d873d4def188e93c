/- The program's writer.cell, walked: the text of the cell at a place. The numbers lie within int's range; the text within Go's own limit. -/
import Derived.Test.YtmpnkckaohfflaaDoorWri
import Derived.Test.YtmpnkckaohfflaaDoorGivNum
import Derived.Test.YtmpnkckaohfflaaDoorLay
import Derived.Deep.RegionHeld3
import Derived.Deep.QuietTactic
import Derived.BigQuiet
import Derived.BigRegion
import Derived.Lib.ItoaLen
namespace Go.Proofs.YtmpnkckaohfflaaDoor.PGiv
open Go.RowKit Go.Proofs.YtmpnkckaohfflaaDoorW.PrintWords Go.Proofs.YtmpnkckaohfflaaDoorW.PrintLast Go.Proofs.YtmpnkckaohfflaaDoorW.PrintMore Go.Proofs.YtmpnkckaohfflaaDoor.K Go.Proofs.YtmpnkckaohfflaaDoor.Num Go.Proofs.YtmpnkckaohfflaaDoor.NGiv
set_option linter.unusedVariables false
set_option linter.unusedSimpArgs false

/-- the program's PutNumber at a number: its text -/
def PN (n : Int) (t : ByteArray) : Prop := ∀ W : World, Glb W → Calls Tryd.prog 38 #[.int .i64 n] W fun e w' => e = .returned (.string t) ∧ Below W.heap.size W w'
theorem PN.go {n : Int} {t : ByteArray} (h : PN n t) {W : World} (g : Glb W) : Calls Tryd.prog 38 #[.int .i64 n] W fun e w' => e = .returned (.string t) ∧ Below W.heap.size W w' := h W g
def i64r (n : Int) : Prop := -9223372036854775808 ≤ n ∧ n ≤ 9223372036854775807
def numT (n : Int) : ByteArray := ⟨(putNum n).toArray⟩
theorem pn_of {n : Int} (h : i64r n) : PN n (numT n) := fun W hg => put_calls n h.1 h.2 W hg
def okC (c : S45) : Prop := i64r c.f2 ∧ i64r c.f3 ∧ i64r c.f4 ∧ i64r c.f5 ∧ i64r c.f6
/-- the head of a cell's text -/
def headT (c : S45) : List UInt8 := putNum c.f4 ++ [120] ++ putNum c.f5 ++ [44] ++ putNum c.f2 ++ [44] ++ putNum c.f3
mutual
/-- the text of the cell at a place, and the place behind it -/
def cellF : Nat → List S45 → Nat → Option (List UInt8 × Nat)
  | 0, _, _ => none
  | k + 1, l, at_ => match l[at_]? with
    | none => none
    | some c => if c.f1 = 1 then some (headT c ++ [44] ++ putNum c.f6, at_ + 1)
      else (cellL k l c.f0 true (at_ + 1)).map fun r => (headT c ++ [if c.f1 = 3 then 91 else 123] ++ r.1 ++ [if c.f1 = 3 then 93 else 125], r.2)
def cellL : Nat → List S45 → Int → Bool → Nat → Option (List UInt8 × Nat)
  | 0, _, _, _, _ => none
  | k + 1, l, d, first, at_ => match l[at_]? with
    | none => some ([], at_)
    | some x => if d < x.f0 then (cellF k l at_).bind fun r => (cellL k l d false r.2).map fun q => ((if first then [] else [44]) ++ r.1 ++ q.1, q.2) else some ([], at_)
end
theorem cell_alloc {w : World} {a : Addr} {v : Value} (h : w.cell? a = some v) (o : Obj) : (w.alloc o).cell? a = some v := (World.cell?_alloc_lt _ _ _ (World.block_lt_of_cell? w _ h)).trans h
theorem WrAt.below {b : Nat} {sl : Value} {n : Int} {txt : List UInt8} {w w' : World} (h : WrAt b sl n txt w) (hb : Below w.heap.size w w') : WrAt b sl n txt w' := by
  obtain ⟨p, v, h1, h2, h3⟩ := h
  exact ⟨p, v, h1, (hb.block b (blk_lt h2)).trans h2, own_move h3 (fun k hk => hb.block k (own_lt h3 k hk))⟩
theorem kept_below {b : Nat} {w w' : World} (hb : Below w.heap.size w w') : Lib.OthersKept 5 (some b) w w' := fun k o hk _ _ => (hb.block k (blk_lt hk)).trans hk

theorem numT_size (m : Int) : (numT m).size ≤ 30 := by
  show (putNum m).length ≤ 30
  unfold putNum
  split
  · simp
  · have := Lib.itoa_length_le m (by omega) (by omega)
    omega
def CellPost (b : Nat) (sl : Value) (n : Nat) (txt : List UInt8) (w : World) (e : Ending) (w' : World) : Prop :=
  e = .returned (.tuple #[]) ∧ WrAt b sl n txt w' ∧ Below b w w' ∧ Lib.OthersKept 5 (some b) w w'

set_option maxHeartbeats 16000000 in
set_option maxRecDepth 100000 in
theorem cell_calls (k : Nat) : ∀ (b : Nat) (A : Option Addr) (c0 : Nat) (l : List S45) (i j : Nat) (txt s : List UInt8) (w : World), (∀ W, Below b w W → Kd.C k45 W A l.length l ∧ Glb W) → l.length ≤ c0 → l.length ≤ 1000000 →
    (∀ c ∈ l, okC c) → WrAt b (.slice A l.length c0) i txt w → cellF k l i = some (s, j) → txt.length + s.length ≤ 1000000000 →
    Calls Tryd.prog 22 #[.pointer (some ⟨b, 0, none⟩)] w fun e w' => CellPost b (.slice A l.length c0) j (txt ++ s) w e w' := by
  induction k using Nat.strongRecOn with
  | _ k ih =>
  intro b A c0 l i j txt s w hC hc hl hok hW hF hlen
  cases k with
  | zero => exact absurd hF (by simp [cellF])
  | succ k =>
  rw [cellF] at hF
  cases hx : l[i]? with
  | none => rw [hx] at hF; cases hF
  | some c =>
  rw [hx] at hF
  simp only at hF
  obtain ⟨hil, hic⟩ := List.getElem?_eq_some_iff.1 hx
  obtain ⟨ad, rfl, q0, q1, q2, q3, q4, q5, q6⟩ := at_T45 (hC w (Below.refl _ _)).1 (i : Int) (by omega) (by omega)
  have ex : rd_T45 l (i : Int) = c := by simp [rd_T45, List.getD_eq_getElem?_getD, hx]
  rw [ex] at q0 q1 q2 q3 q4 q5 q6
  simp only [Int.toNat_natCast] at q0 q1 q2 q3 q4 q5 q6
  obtain ⟨o2, o3, o4, o5, o6⟩ := hok c (hic ▸ List.getElem_mem hil)
  obtain ⟨p, v, hp, hb, hown⟩ := hW
  have hb0 : w.cell? ⟨b, 0, none⟩ = some (.slice (some ad) l.length c0) := (blk_cell hb 0).trans rfl
  have hb1 : w.cell? ⟨b, 1, none⟩ = some (.int .i64 i) := (blk_cell hb 1).trans rfl
  have a0 : ∀ o : Obj, (w.alloc o).cell? ⟨b, 0, none⟩ = some (.slice (some ad) l.length c0) := cell_alloc hb0
  have a1 : ∀ o : Obj, (w.alloc o).cell? ⟨b, 1, none⟩ = some (.int .i64 i) := cell_alloc hb1
  have r0 := fun o => cell_alloc q0 o
  have r1 := fun o => cell_alloc q1 o
  have r2 := fun o => cell_alloc q2 o
  have r3 := fun o => cell_alloc q3 o
  have r4 := fun o => cell_alloc q4 o
  have r5 := fun o => cell_alloc q5 o
  have r6 := fun o => cell_alloc q6 o
  have hi0 : (0 ≤ (i : Int)) = True := eq_true (by omega)
  have hil' : ((i : Int) < (l.length : Int)) = True := eq_true (by omega)
  have HH := Lib.hid (And.intro hC (And.intro hok (And.intro hF (And.intro hown hb))))
  clear hC hok hF hown hb ex hx hic
  generalize hn : l.length = n at *
  go_enter Tryd.func22, Tryd.ntmps22
  go_wp2
  go_region
  obtain ⟨N1, N2, N3, N4⟩ := cell_new w (.cells #[.int .i64 c.f0, .int .i64 c.f1, .int .i64 c.f2, .int .i64 c.f3, .int .i64 c.f4, .int .i64 c.f5, .int .i64 c.f6] 45 (0, 0))
  generalize (w.alloc (.cells #[.int .i64 c.f0, .int .i64 c.f1, .int .i64 c.f2, .int .i64 c.f3, .int .i64 c.f4, .int .i64 c.f5, .int .i64 c.f6] 45 (0, 0))).drew = w2 at N1 N2 N3 N4 ⊢
  obtain ⟨hC, hok, hF, hown, hb⟩ := HH.out
  have hbw : b < w.heap.size := blk_lt hb
  have hb2 := (N2 b hbw).trans hb
  have hown2 := own_move (w1 := w2) hown (fun k hk => N2 k (own_lt hown k hk))
  have hb1 : w2.cell? ⟨b, 1, none⟩ = some (.int .i64 i) := (blk_cell hb2 1).trans rfl
  have hf1 : w2.frozen? ⟨b, 1, none⟩ = false := blk_frozen hb2 1
  have hb3 := blk_put hb2 1 (.int .i64 ((i : Int) + 1)) rfl
  have hown3 := own_move (w1 := w2.setCell ⟨b, 1, none⟩ (.int .i64 ((i : Int) + 1))) hown2 (fun k hk => Below.heap_setCell _ _ _ k (by have := own_base hown2 k hk; show k ≠ b; omega))
  have W3 : Hid (WrAt b (.slice (some ad) n c0) ((i : Int) + 1) txt (w2.setCell ⟨b, 1, none⟩ (.int .i64 ((i : Int) + 1)))) := Lib.hid ⟨p, v, hp, hb3, hown3⟩
  have C3 : Hid ((w2.setCell ⟨b, 1, none⟩ (.int .i64 ((i : Int) + 1))).heap[w.heap.size]? = some (.cells #[.int .i64 c.f0, .int .i64 c.f1, .int .i64 c.f2, .int .i64 c.f3, .int .i64 c.f4, .int .i64 c.f5, .int .i64 c.f6] 45 (0, 0))) := Lib.hid ((Below.heap_setCell _ _ _ _ (by show w.heap.size ≠ b; omega)).trans N1)
  have B3 : Hid (Below b w (w2.setCell ⟨b, 1, none⟩ (.int .i64 ((i : Int) + 1)))) := Lib.hid ((N4 b (by omega)).setCell (p := ⟨b, 1, none⟩) (Nat.le_refl _) _)
  have K3 : Hid (Lib.OthersKept 5 (some b) w (w2.setCell ⟨b, 1, none⟩ (.int .i64 ((i : Int) + 1)))) := Lib.hid ((show Lib.OthersKept 5 (some b) w w2 from fun k o hk _ _ => (N2 k (blk_lt hk)).trans hk).setCell ⟨b, 1, none⟩ rfl _)
  clear hC hok hF hown hb N1 N2 N3 N4 hb2 hown2 hb3 hown3 hb0 a0 a1 r0 r1 r2 r3 r4 r5 r6 q0 q1 q2 q3 q4 q5 q6 hp
  go_wp2
  generalize w2.setCell ⟨b, 1, none⟩ (.int .i64 ((i : Int) + 1)) = w3 at W3 C3 B3 K3 ⊢
  clear hb1 hf1
  have P4 := Lib.hid (pn_of o4)
  have P5 := Lib.hid (pn_of o5)
  have P2 := Lib.hid (pn_of o2)
  have P3 := Lib.hid (pn_of o3)
  have P6 := Lib.hid (pn_of o6)
  have Z : ∀ m : Int, (numT m).size ≤ 30 := fun m => numT_size m
  have z4 := Z c.f4
  have z5 := Z c.f5
  have z2 := Z c.f2
  have z3 := Z c.f3
  have z6 := Z c.f6
  have hHD : (headT c) = (numT c.f4 ++ (⟨#[120]⟩ : ByteArray) ++ numT c.f5 ++ (⟨#[44]⟩ : ByteArray) ++ numT c.f2 ++ (⟨#[44]⟩ : ByteArray) ++ numT c.f3).data.toList := by simp [headT, numT]
  have hP6 : [44] ++ putNum c.f6 = ((⟨#[44]⟩ : ByteArray) ++ numT c.f6).data.toList := by simp [numT]
  have hHD := Lib.hid hHD
  have hP6 := Lib.hid hP6
  clear Z o2 o3 o4 o5 o6
  generalize numT c.f4 = t4 at P4 z4 hHD
  generalize numT c.f5 = t5 at P5 z5 hHD
  generalize numT c.f2 = t2 at P2 z2 hHD
  generalize numT c.f3 = t3 at P3 z3 hHD
  generalize numT c.f6 = t6 at P6 z6 hP6
  have s1 : (t4 ++ (⟨#[120]⟩ : ByteArray)).size = t4.size + 1 := by rw [ByteArray.size_append]; rfl
  have s2 : (t4 ++ (⟨#[120]⟩ : ByteArray) ++ t5).size = t4.size + 1 + t5.size := by rw [ByteArray.size_append, s1]
  have s3 : (t4 ++ (⟨#[120]⟩ : ByteArray) ++ t5 ++ (⟨#[44]⟩ : ByteArray)).size = t4.size + 1 + t5.size + 1 := by rw [ByteArray.size_append, s2]; rfl
  have s4 : (t4 ++ (⟨#[120]⟩ : ByteArray) ++ t5 ++ (⟨#[44]⟩ : ByteArray) ++ t2).size = t4.size + 1 + t5.size + 1 + t2.size := by rw [ByteArray.size_append, s3]
  have s5 : (t4 ++ (⟨#[120]⟩ : ByteArray) ++ t5 ++ (⟨#[44]⟩ : ByteArray) ++ t2 ++ (⟨#[44]⟩ : ByteArray)).size = t4.size + 1 + t5.size + 1 + t2.size + 1 := by rw [ByteArray.size_append, s4]; rfl
  have g1 : t4.size + 1 ≤ 9223372036854775807 := by omega
  have g2 : (t4 ++ (⟨#[120]⟩ : ByteArray)).size + t5.size ≤ 9223372036854775807 := by omega
  have g3 : (t4 ++ (⟨#[120]⟩ : ByteArray) ++ t5).size + 1 ≤ 9223372036854775807 := by omega
  have g4 : (t4 ++ (⟨#[120]⟩ : ByteArray) ++ t5 ++ (⟨#[44]⟩ : ByteArray)).size + t2.size ≤ 9223372036854775807 := by omega
  have g5 : (t4 ++ (⟨#[120]⟩ : ByteArray) ++ t5 ++ (⟨#[44]⟩ : ByteArray) ++ t2).size + 1 ≤ 9223372036854775807 := by omega
  have g6 : (t4 ++ (⟨#[120]⟩ : ByteArray) ++ t5 ++ (⟨#[44]⟩ : ByteArray) ++ t2 ++ (⟨#[44]⟩ : ByteArray)).size + t3.size ≤ 9223372036854775807 := by omega
  have hsz : (t4 ++ (⟨#[120]⟩ : ByteArray) ++ t5 ++ (⟨#[44]⟩ : ByteArray) ++ t2 ++ (⟨#[44]⟩ : ByteArray) ++ t3).size ≤ 1000 := by rw [ByteArray.size_append, s5]; omega
  have e1 := eq_true g1
  have e2 := eq_true g2
  have e3 := eq_true g3
  have e4 := eq_true g4
  have e5 := eq_true g5
  have e6 := eq_true g6
  have n1 := eq_false (Nat.not_lt.2 g1)
  have n2 := eq_false (Nat.not_lt.2 g2)
  have n3 := eq_false (Nat.not_lt.2 g3)
  have n4 := eq_false (Nat.not_lt.2 g4)
  have n5 := eq_false (Nat.not_lt.2 g5)
  have n6 := eq_false (Nat.not_lt.2 g6)
  have m2 : t4.size + 1 + t5.size ≤ 9223372036854775807 := by omega
  have m3 : t4.size + 1 + t5.size + 1 ≤ 9223372036854775807 := by omega
  have m4 : t4.size + 1 + t5.size + 1 + t2.size ≤ 9223372036854775807 := by omega
  have m5 : t4.size + 1 + t5.size + 1 + t2.size + 1 ≤ 9223372036854775807 := by omega
  have m6 : t4.size + 1 + t5.size + 1 + t2.size + 1 + t3.size ≤ 9223372036854775807 := by omega
  have l2 := eq_false (Nat.not_lt.2 m2)
  have l3 := eq_false (Nat.not_lt.2 m3)
  have l4 := eq_false (Nat.not_lt.2 m4)
  have l5 := eq_false (Nat.not_lt.2 m5)
  have l6 := eq_false (Nat.not_lt.2 m6)
  replace m2 := eq_true m2
  replace m3 := eq_true m3
  replace m4 := eq_true m4
  replace m5 := eq_true m5
  replace m6 := eq_true m6
  have HS := Lib.hid hsz
  clear s1 s2 s3 s4 s5 g1 g2 g3 g4 g5 g6 z2 z3 z4 z5 hsz
  have BQ := Lib.hid (show Below w3.drew.heap.size w3 w3.drew from (Below.refl _ _).drew)
  have GQ := Lib.hid (HH.out.1 _ (B3.out.trans (BQ.out.mono (Nat.le_trans (Nat.le_of_lt hbw) B3.out.size)))).2
  have CQ := Lib.hid (show w3.drew.heap[w.heap.size]? = _ from C3.out)
  have x2 : w3.drew.cell? ⟨w.heap.size, 2, none⟩ = some (.int .i64 c.f2) := (blk_cell CQ.out 2).trans rfl
  have x3 : w3.drew.cell? ⟨w.heap.size, 3, none⟩ = some (.int .i64 c.f3) := (blk_cell CQ.out 3).trans rfl
  have x4 : w3.drew.cell? ⟨w.heap.size, 4, none⟩ = some (.int .i64 c.f4) := (blk_cell CQ.out 4).trans rfl
  have x5 : w3.drew.cell? ⟨w.heap.size, 5, none⟩ = some (.int .i64 c.f5) := (blk_cell CQ.out 5).trans rfl
  go_region_held3 (fun w' => w'.cell? ⟨w.heap.size, 2, none⟩ = some (.int .i64 c.f2) ∧ w'.cell? ⟨w.heap.size, 3, none⟩ = some (.int .i64 c.f3) ∧ w'.cell? ⟨w.heap.size, 4, none⟩ = some (.int .i64 c.f4) ∧ w'.cell? ⟨w.heap.size, 5, none⟩ = some (.int .i64 c.f5))
    (first | exact ⟨x2, x3, x4, x5⟩)
    (first
      | (go_at_call 38; first
          | (with_reducible refine (P4.out.go GQ.out).mono ?_)
          | (with_reducible refine (P5.out.go GQ.out).mono ?_)
          | (with_reducible refine (P2.out.go GQ.out).mono ?_)
          | (with_reducible refine (P3.out.go GQ.out).mono ?_)
         rintro e wn ⟨rfl, bn⟩
         have GQ := Lib.hid (GQ.out.below bn)
         have BQ := Lib.hid (BQ.out.trans (bn.mono BQ.out.size))
         have CQ := Lib.hid ((bn.block _ (blk_lt CQ.out)).trans CQ.out)
         have x2 : wn.cell? ⟨w.heap.size, 2, none⟩ = some (.int .i64 c.f2) := (blk_cell CQ.out 2).trans rfl
         have x3 : wn.cell? ⟨w.heap.size, 3, none⟩ = some (.int .i64 c.f3) := (blk_cell CQ.out 3).trans rfl
         have x4 : wn.cell? ⟨w.heap.size, 4, none⟩ = some (.int .i64 c.f4) := (blk_cell CQ.out 4).trans rfl
         have x5 : wn.cell? ⟨w.heap.size, 5, none⟩ = some (.int .i64 c.f5) := (blk_cell CQ.out 5).trans rfl
         clear bn)
      | (go_at_call 37
         refine (wstr b (.slice (some ad) n c0) ((i : Int) + 1) txt (t4 ++ (⟨#[120]⟩ : ByteArray) ++ t5 ++ (⟨#[44]⟩ : ByteArray) ++ t2 ++ (⟨#[44]⟩ : ByteArray) ++ t3) _ (W3.out.below BQ.out) (by have := HS.out; omega)).mono ?_
         rintro e wn ⟨rfl, wa, bn, kn⟩
         have WQ := Lib.hid wa
         have BR := Lib.hid (B3.out.trans ((BQ.out.mono (Nat.le_trans (Nat.le_of_lt hbw) B3.out.size)).trans bn))
         have KR := Lib.hid (K3.out.trans ((kept_below BQ.out).trans kn))
         have CQ := Lib.hid (kn _ _ CQ.out (fun e => by injection e with e; omega) (fun cs fz h => by cases h))
         have x2 : wn.cell? ⟨w.heap.size, 2, none⟩ = some (.int .i64 c.f2) := (blk_cell CQ.out 2).trans rfl
         have x3 : wn.cell? ⟨w.heap.size, 3, none⟩ = some (.int .i64 c.f3) := (blk_cell CQ.out 3).trans rfl
         have x4 : wn.cell? ⟨w.heap.size, 4, none⟩ = some (.int .i64 c.f4) := (blk_cell CQ.out 4).trans rfl
         have x5 : wn.cell? ⟨w.heap.size, 5, none⟩ = some (.int .i64 c.f5) := (blk_cell CQ.out 5).trans rfl
         clear bn kn wa))
  clear e1 e2 e3 e4 e5 e6 n1 n2 n3 n4 n5 n6 m2 m3 m4 m5 m6 l2 l3 l4 l5 l6 x2 x3 x4 x5 P4 P5 P2 P3 HS
  have hk1 : wn.cell? ⟨w.heap.size, 1, none⟩ = some (.int .i64 c.f1) := (blk_cell CQ.out 1).trans rfl
  have hcast : (i : Int) + 1 = ((i + 1 : Nat) : Int) := by omega
  have WQ := Lib.hid (show WrAt b (.slice (some ad) n c0) ((i + 1 : Nat) : Int) (txt ++ headT c) wn by rw [hHD.out, ← hcast]; exact WQ.out)
  have hF := HH.out.2.2.1
  by_cases kc : c.f1 = 1
  · have kc' : (c.f1 == 1) = true := beq_iff_eq.mpr kc
    rw [if_pos kc] at hF
    obtain ⟨hs, hj⟩ := Prod.mk.inj (Option.some.inj hF)
    have HSJ := Lib.hid (And.intro hs hj)
    clear hF hs hj kc hcast hHD hil hi0 hil'
    go_wp2
    have h1 : 1 + t6.size ≤ 9223372036854775807 := by omega
    have h2 := eq_false (Nat.not_lt.2 h1)
    have h3 : t6.size + 1 ≤ 9223372036854775807 := by omega
    have h4 := eq_false (Nat.not_lt.2 h3)
    have h5 : (⟨#[44]⟩ : ByteArray).size + t6.size ≤ 9223372036854775807 := by show 1 + t6.size ≤ _; omega
    have h6 := eq_false (Nat.not_lt.2 h5)
    replace h1 := eq_true h1
    replace h3 := eq_true h3
    replace h5 := eq_true h5
    have BQ := Lib.hid (show Below wn.drew.heap.size wn wn.drew from (Below.refl _ _).drew)
    have hbn : b ≤ wn.heap.size := Nat.le_trans (Nat.le_of_lt hbw) BR.out.size
    have GQ := Lib.hid (HH.out.1 _ (BR.out.trans (BQ.out.mono hbn))).2
    have CD := Lib.hid (show wn.drew.heap[w.heap.size]? = _ from CQ.out)
    have y6 : wn.drew.cell? ⟨w.heap.size, 6, none⟩ = some (.int .i64 c.f6) := (blk_cell CD.out 6).trans rfl
    have hsz6 : txt.length + (headT c).length + ((⟨#[44]⟩ : ByteArray) ++ t6).size ≤ 140737488355328 := by
      have e := HSJ.out.1
      have h := hP6.out
      have hl' : s.length = (headT c).length + ((⟨#[44]⟩ : ByteArray) ++ t6).size := by
        rw [← e, List.append_assoc, h, List.length_append]
        rfl
      omega
    have HZ6 := Lib.hid hsz6
    clear hsz6
    go_region_held3 (fun w' => w'.cell? ⟨w.heap.size, 6, none⟩ = some (.int .i64 c.f6))
      (first | exact y6)
      (first
        | (go_at_call 38
           with_reducible refine (P6.out.go GQ.out).mono ?_
           rintro e wp ⟨rfl, bn⟩
           have BQ := Lib.hid (BQ.out.trans (bn.mono BQ.out.size))
           have CD := Lib.hid ((bn.block _ (blk_lt CD.out)).trans CD.out)
           have y6 : wp.cell? ⟨w.heap.size, 6, none⟩ = some (.int .i64 c.f6) := (blk_cell CD.out 6).trans rfl
           clear bn)
        | (go_at_call 37
           refine (wstr b (.slice (some ad) n c0) ((i + 1 : Nat) : Int) (txt ++ headT c) ((⟨#[44]⟩ : ByteArray) ++ t6) _ (WQ.out.below BQ.out) (by have := HZ6.out; rw [List.length_append]; omega)).mono ?_
           rintro e wp ⟨rfl, wa, bn, kn⟩
           have WF := Lib.hid wa
           have BF := Lib.hid (BR.out.trans ((BQ.out.mono hbn).trans bn))
           have KF := Lib.hid (KR.out.trans ((kept_below BQ.out).trans kn))
           have CD := Lib.hid (kn _ _ CD.out (fun e => by injection e with e; omega) (fun cs fz h => by cases h))
           have y6 : wp.cell? ⟨w.heap.size, 6, none⟩ = some (.int .i64 c.f6) := (blk_cell CD.out 6).trans rfl
           clear bn kn wa))
    go_wp2
    refine bodyPost_ret (results_none rfl _ _ _) rfl ?_
    have e : txt ++ s = txt ++ headT c ++ ((⟨#[44]⟩ : ByteArray) ++ t6).data.toList := by rw [← HSJ.out.1, ← hP6.out]; simp
    rw [e, ← HSJ.out.2]
    exact ⟨rfl, WF.out, BF.out, KF.out⟩
  · have kc' : (c.f1 == 1) = false := beq_eq_false_iff_ne.mpr kc
    rw [if_neg kc] at hF
    clear kc hP6 P6 z6
    obtain ⟨⟨r1, j'⟩, hL, hr⟩ := Option.map_eq_some_iff.1 hF
    obtain ⟨hs, hj⟩ := Prod.mk.inj hr
    simp only at hs hj
    subst hj
    clear hF hr
    by_cases k3 : c.f1 = 3
    · have hb3 : (c.f1 == 3) = true := beq_iff_eq.mpr k3
      rw [if_pos k3, if_pos k3] at hs
      have HSS := Lib.hid hs
      have HLL := Lib.hid hL
      have hlen1 : txt.length + (headT c).length + 1 + r1.length + 1 ≤ 1000000000 := by
        rw [← hs] at hlen
        simp at hlen
        omega
      clear hs hL k3 hcast hHD hil hi0 hil'
      have WB1 := Lib.hid (wbyte b (.slice (some ad) n c0) ((i + 1 : Nat) : Int) (txt ++ headT c) 91 wn WQ.out (by rw [List.length_append]; omega))
      go_wp2_with (go_at_call 39; refine (WB1.out).mono ?_)
      rintro e w6 ⟨rfl, wa, bn, kn⟩
      have W6 := Lib.hid wa
      have B6 := Lib.hid (BR.out.trans bn)
      have K6 := Lib.hid (KR.out.trans kn)
      have C6 := Lib.hid (kn _ _ CQ.out (fun e => by injection e with e; omega) (fun cs fz h => by cases h))
      clear wa bn kn WB1 hk1
      go_wp2
      go_loopg [5] k (fun kq fv wr => ∃ (first : Bool) (a : Nat) (T s2 : List UInt8), fv = .bool first ∧ Aside0 (cellL kq l c.f0 first a = some (s2, j')) ∧ Aside0 (T ++ s2 = txt ++ headT c ++ [91] ++ r1) ∧ Aside0 (kq ≤ k) ∧
        Aside0 (WrAt b (.slice (some ad) n c0) a T wr) ∧ Aside0 (Below b w wr) ∧ Aside0 (Lib.OthersKept 5 (some b) w wr) ∧ Aside0 (wr.heap[w.heap.size]? = some (.cells #[.int .i64 c.f0, .int .i64 c.f1, .int .i64 c.f2, .int .i64 c.f3, .int .i64 c.f4, .int .i64 c.f5, .int .i64 c.f6] 45 (0, 0))))
      case atStart => exact ⟨true, i + 1, txt ++ headT c ++ [91], r1, rfl, ⟨HLL.out⟩, ⟨rfl⟩, ⟨Nat.le_refl _⟩, ⟨W6.out⟩, ⟨B6.out⟩, ⟨K6.out⟩, ⟨C6.out⟩⟩
      case round =>
        obtain ⟨first, a, T, s2, rfl, RF, RT, RK, RW, RB, RQ, RC⟩ := hrel
        cases gk with
        | zero => exact absurd RF.out (by simp [cellL])
        | succ gk =>
          obtain ⟨pr, vr, hpr, hbr, howr⟩ := RW.out
          have hb0 : wr.cell? ⟨b, 0, none⟩ = some (.slice (some ad) n c0) := (blk_cell hbr 0).trans rfl
          have hb1 : wr.cell? ⟨b, 1, none⟩ = some (.int .i64 a) := (blk_cell hbr 1).trans rfl
          have hc0 : wr.cell? ⟨w.heap.size, 0, none⟩ = some (.int .i64 c.f0) := (blk_cell RC.out 0).trans rfl
          have hRF := RF.out
          rw [cellL] at hRF
          have hTl : T.length + s2.length + 1 ≤ 1000000000 := by
            have h := congrArg List.length RT.out
            simp at h
            omega
          clear hbr howr hpr
          cases hx : l[a]? with
          | none =>
            rw [hx] at hRF
            obtain ⟨h1, h2⟩ := Prod.mk.inj (Option.some.inj hRF)
            have han : n ≤ a := by rw [← hn]; exact List.getElem?_eq_none_iff.1 hx
            have hcm : decide ((a : Int) < (n : Int)) = false := decide_eq_false (by omega)
            have H12 := Lib.hid (And.intro h1 h2)
            have hcm2 : decide (a < n) = false := decide_eq_false (by omega)
            clear hx hRF RF h1 h2
            go_wp2
            go_quiet (fail)
            generalize hwq : wr.drewN nq = wq
            have BQ : Hid (Below wr.heap.size wr wq) := Lib.hid (by rw [← hwq]; exact pw_below_drewN (Below.refl _ _) _)
            have hbr : b ≤ wr.heap.size := Nat.le_trans (Nat.le_of_lt hbw) RB.out.size
            have WW := Lib.hid (RW.out.below BQ.out)
            clear hwq hb0 hb1 hc0
            have WB2 := Lib.hid (wbyte b (.slice (some ad) n c0) (a : Int) T 93 wq WW.out (by omega))
            go_wp2_with (go_at_call 39; refine (WB2.out).mono ?_)
            rintro e w7 ⟨rfl, w7a, b7, k7⟩
            have F7 := Lib.hid (And.intro w7a (And.intro b7 k7))
            clear w7a b7 k7
            go_wp2
            first | go_end0 | refine bodyPost_ret (results_none rfl _ _ _) rfl ?_
            obtain ⟨e1, e2⟩ := H12.out
            have hT : T = txt ++ headT c ++ [91] ++ r1 := by have h := RT.out; rw [← e1, List.append_nil] at h; exact h
            have hfin : txt ++ s = T ++ [93] := by rw [hT, ← HSS.out]; simp
            rw [hfin, ← e2]
            exact ⟨rfl, F7.out.1, RB.out.trans ((BQ.out.mono hbr).trans F7.out.2.1), RQ.out.trans ((kept_below BQ.out).trans F7.out.2.2)⟩
          | some x =>
            rw [hx] at hRF
            simp only at hRF
            obtain ⟨hal, hax⟩ := List.getElem?_eq_some_iff.1 hx
            obtain ⟨ad', e', q0, _⟩ := at_T45 (HH.out.1 wr RB.out).1 (a : Int) (by omega) (by omega)
            cases e'
            have ex : rd_T45 l (a : Int) = x := by simp [rd_T45, List.getD_eq_getElem?_getD, hx]
            rw [ex] at q0
            simp only [Int.toNat_natCast] at q0
            rw [hn] at hal
            have hcm : decide ((a : Int) < (n : Int)) = true := decide_eq_true (by omega)
            have ha0 : (0 ≤ (a : Int)) = True := eq_true (by omega)
            have ha1 : ((a : Int) < (n : Int)) = True := eq_true (by omega)
            by_cases hd : c.f0 < x.f0
            · have hd' : decide (c.f0 < x.f0) = true := decide_eq_true hd
              rw [if_pos hd] at hRF
              obtain ⟨⟨g1, g2⟩, hg, hRF⟩ := Option.bind_eq_some_iff.1 hRF
              obtain ⟨⟨u1, u2⟩, hu, hRF⟩ := Option.map_eq_some_iff.1 hRF
              obtain ⟨hv1, hv2⟩ := Prod.mk.inj hRF
              simp only at hu hv1 hv2
              subst hv2
              have HG := Lib.hid hg
              have HU := Lib.hid hu
              have HV := Lib.hid hv1
              clear hx hRF RF hax ex hd hg hu hv1 hal
              go_wp2
              go_quiet (fail)
              generalize hwq : wr.drewN nq = wq
              have BQ : Hid (Below wr.heap.size wr wq) := Lib.hid (by rw [← hwq]; exact pw_below_drewN (Below.refl _ _) _)
              have hbr : b ≤ wr.heap.size := Nat.le_trans (Nat.le_of_lt hbw) RB.out.size
              have WW := Lib.hid (RW.out.below BQ.out)
              have CW := Lib.hid ((BQ.out.block _ (blk_lt RC.out)).trans RC.out)
              have BW := Lib.hid (RB.out.trans (BQ.out.mono hbr))
              have KW := Lib.hid (RQ.out.trans (kept_below BQ.out))
              clear hwq hb0 hb1 hc0 q0 RW RB RQ RC BQ
              cases first with
              | true =>
                have hg1 : s2 = g1 ++ u1 := by have h := HV.out; simp at h; exact h.symm
                have IH := ih gk (by have := RK.out; omega) b (some ad) c0 l a g2 T g1 wq (fun W hW => by rw [hn]; exact HH.out.1 W (BW.out.trans hW)) (by omega) (by omega) HH.out.2.1 (by rw [hn]; exact WW.out) HG.out (by rw [hg1] at hTl; simp at hTl; omega)
                rw [hn] at IH
                have IH := Lib.hid IH
                go_wp2_with (go_at_call 22; refine (IH.out).mono ?_)
                rintro e w7 ⟨rfl, w7a, b7, k7⟩
                have F7 := Lib.hid (And.intro w7a (And.intro b7 k7))
                clear w7a b7 k7
                go_wp2
                go_roundg gk
                case measure => omega
                case rel =>
                  exact ⟨false, g2, T ++ g1, u1, rfl, ⟨HU.out⟩, ⟨by rw [← RT.out, hg1]; simp⟩, ⟨by have := RK.out; omega⟩, ⟨F7.out.1⟩, ⟨BW.out.trans F7.out.2.1⟩, ⟨KW.out.trans F7.out.2.2⟩, ⟨F7.out.2.2 _ _ CW.out (fun e => by injection e with e; omega) (fun cs fz h => by cases h)⟩⟩
              | false =>
                have hg1 : s2 = 44 :: (g1 ++ u1) := by have h := HV.out; simp at h; exact h.symm
                have WB2 := Lib.hid (wbyte b (.slice (some ad) n c0) (a : Int) T 44 wq WW.out (by omega))
                go_wp2_with (go_at_call 39; refine (WB2.out).mono ?_)
                rintro e wb ⟨rfl, wa, bn, kn⟩
                have WX := Lib.hid wa
                have BX := Lib.hid (BW.out.trans bn)
                have KX := Lib.hid (KW.out.trans kn)
                have CX := Lib.hid (kn _ _ CW.out (fun e => by injection e with e; omega) (fun cs fz h => by cases h))
                have IH := ih gk (by have := RK.out; omega) b (some ad) c0 l a g2 (T ++ [44]) g1 wb (fun W hW => by rw [hn]; exact HH.out.1 W (BX.out.trans hW)) (by omega) (by omega) HH.out.2.1 (by rw [hn]; exact WX.out) HG.out (by rw [hg1] at hTl; simp at hTl ⊢; omega)
                rw [hn] at IH
                have IH := Lib.hid IH
                clear wa bn kn WB2
                go_wp2_with (go_at_call 22; refine (IH.out).mono ?_)
                rintro e w7 ⟨rfl, w7a, b7, k7⟩
                have F7 := Lib.hid (And.intro w7a (And.intro b7 k7))
                clear w7a b7 k7
                go_wp2
                go_roundg gk
                case measure => omega
                case rel =>
                  exact ⟨false, g2, T ++ [44] ++ g1, u1, rfl, ⟨HU.out⟩, ⟨by rw [← RT.out, hg1]; simp⟩, ⟨by have := RK.out; omega⟩, ⟨F7.out.1⟩, ⟨BX.out.trans F7.out.2.1⟩, ⟨KX.out.trans F7.out.2.2⟩, ⟨F7.out.2.2 _ _ CX.out (fun e => by injection e with e; omega) (fun cs fz h => by cases h)⟩⟩
            · have hd' : decide (c.f0 < x.f0) = false := decide_eq_false hd
              rw [if_neg hd] at hRF
              obtain ⟨h1, h2⟩ := Prod.mk.inj (Option.some.inj hRF)
              have H12 := Lib.hid (And.intro h1 h2)
              clear hx hRF RF h1 h2 hax ex hd hal
              go_wp2
              go_quiet (fail)
              generalize hwq : wr.drewN nq = wq
              have BQ : Hid (Below wr.heap.size wr wq) := Lib.hid (by rw [← hwq]; exact pw_below_drewN (Below.refl _ _) _)
              have hbr : b ≤ wr.heap.size := Nat.le_trans (Nat.le_of_lt hbw) RB.out.size
              have WW := Lib.hid (RW.out.below BQ.out)
              clear hwq hb0 hb1 hc0
              have WB2 := Lib.hid (wbyte b (.slice (some ad) n c0) (a : Int) T 93 wq WW.out (by omega))
              go_wp2_with (go_at_call 39; refine (WB2.out).mono ?_)
              rintro e w7 ⟨rfl, w7a, b7, k7⟩
              have F7 := Lib.hid (And.intro w7a (And.intro b7 k7))
              clear w7a b7 k7
              go_wp2
              first | go_end0 | refine bodyPost_ret (results_none rfl _ _ _) rfl ?_
              obtain ⟨e1, e2⟩ := H12.out
              have hT : T = txt ++ headT c ++ [91] ++ r1 := by have h := RT.out; rw [← e1, List.append_nil] at h; exact h
              have hfin : txt ++ s = T ++ [93] := by rw [hT, ← HSS.out]; simp
              rw [hfin, ← e2]
              exact ⟨rfl, F7.out.1, RB.out.trans ((BQ.out.mono hbr).trans F7.out.2.1), RQ.out.trans ((kept_below BQ.out).trans F7.out.2.2)⟩
    · have hb3 : (c.f1 == 3) = false := beq_eq_false_iff_ne.mpr k3
      rw [if_neg k3, if_neg k3] at hs
      have HSS := Lib.hid hs
      have HLL := Lib.hid hL
      have hlen1 : txt.length + (headT c).length + 1 + r1.length + 1 ≤ 1000000000 := by
        rw [← hs] at hlen
        simp at hlen
        omega
      clear hs hL k3 hcast hHD hil hi0 hil'
      have WB1 := Lib.hid (wbyte b (.slice (some ad) n c0) ((i + 1 : Nat) : Int) (txt ++ headT c) 123 wn WQ.out (by rw [List.length_append]; omega))
      go_wp2_with (go_at_call 39; refine (WB1.out).mono ?_)
      rintro e w6 ⟨rfl, wa, bn, kn⟩
      have W6 := Lib.hid wa
      have B6 := Lib.hid (BR.out.trans bn)
      have K6 := Lib.hid (KR.out.trans kn)
      have C6 := Lib.hid (kn _ _ CQ.out (fun e => by injection e with e; omega) (fun cs fz h => by cases h))
      clear wa bn kn WB1 hk1
      go_wp2
      go_loopg [5] k (fun kq fv wr => ∃ (first : Bool) (a : Nat) (T s2 : List UInt8), fv = .bool first ∧ Aside0 (cellL kq l c.f0 first a = some (s2, j')) ∧ Aside0 (T ++ s2 = txt ++ headT c ++ [123] ++ r1) ∧ Aside0 (kq ≤ k) ∧
        Aside0 (WrAt b (.slice (some ad) n c0) a T wr) ∧ Aside0 (Below b w wr) ∧ Aside0 (Lib.OthersKept 5 (some b) w wr) ∧ Aside0 (wr.heap[w.heap.size]? = some (.cells #[.int .i64 c.f0, .int .i64 c.f1, .int .i64 c.f2, .int .i64 c.f3, .int .i64 c.f4, .int .i64 c.f5, .int .i64 c.f6] 45 (0, 0))))
      case atStart => exact ⟨true, i + 1, txt ++ headT c ++ [123], r1, rfl, ⟨HLL.out⟩, ⟨rfl⟩, ⟨Nat.le_refl _⟩, ⟨W6.out⟩, ⟨B6.out⟩, ⟨K6.out⟩, ⟨C6.out⟩⟩
      case round =>
        obtain ⟨first, a, T, s2, rfl, RF, RT, RK, RW, RB, RQ, RC⟩ := hrel
        cases gk with
        | zero => exact absurd RF.out (by simp [cellL])
        | succ gk =>
          obtain ⟨pr, vr, hpr, hbr, howr⟩ := RW.out
          have hb0 : wr.cell? ⟨b, 0, none⟩ = some (.slice (some ad) n c0) := (blk_cell hbr 0).trans rfl
          have hb1 : wr.cell? ⟨b, 1, none⟩ = some (.int .i64 a) := (blk_cell hbr 1).trans rfl
          have hc0 : wr.cell? ⟨w.heap.size, 0, none⟩ = some (.int .i64 c.f0) := (blk_cell RC.out 0).trans rfl
          have hRF := RF.out
          rw [cellL] at hRF
          have hTl : T.length + s2.length + 1 ≤ 1000000000 := by
            have h := congrArg List.length RT.out
            simp at h
            omega
          clear hbr howr hpr
          cases hx : l[a]? with
          | none =>
            rw [hx] at hRF
            obtain ⟨h1, h2⟩ := Prod.mk.inj (Option.some.inj hRF)
            have han : n ≤ a := by rw [← hn]; exact List.getElem?_eq_none_iff.1 hx
            have hcm : decide ((a : Int) < (n : Int)) = false := decide_eq_false (by omega)
            have H12 := Lib.hid (And.intro h1 h2)
            have hcm2 : decide (a < n) = false := decide_eq_false (by omega)
            clear hx hRF RF h1 h2
            go_wp2
            go_quiet (fail)
            generalize hwq : wr.drewN nq = wq
            have BQ : Hid (Below wr.heap.size wr wq) := Lib.hid (by rw [← hwq]; exact pw_below_drewN (Below.refl _ _) _)
            have hbr : b ≤ wr.heap.size := Nat.le_trans (Nat.le_of_lt hbw) RB.out.size
            have WW := Lib.hid (RW.out.below BQ.out)
            clear hwq hb0 hb1 hc0
            have WB2 := Lib.hid (wbyte b (.slice (some ad) n c0) (a : Int) T 125 wq WW.out (by omega))
            go_wp2_with (go_at_call 39; refine (WB2.out).mono ?_)
            rintro e w7 ⟨rfl, w7a, b7, k7⟩
            have F7 := Lib.hid (And.intro w7a (And.intro b7 k7))
            clear w7a b7 k7
            go_wp2
            first | go_end0 | refine bodyPost_ret (results_none rfl _ _ _) rfl ?_
            obtain ⟨e1, e2⟩ := H12.out
            have hT : T = txt ++ headT c ++ [123] ++ r1 := by have h := RT.out; rw [← e1, List.append_nil] at h; exact h
            have hfin : txt ++ s = T ++ [125] := by rw [hT, ← HSS.out]; simp
            rw [hfin, ← e2]
            exact ⟨rfl, F7.out.1, RB.out.trans ((BQ.out.mono hbr).trans F7.out.2.1), RQ.out.trans ((kept_below BQ.out).trans F7.out.2.2)⟩
          | some x =>
            rw [hx] at hRF
            simp only at hRF
            obtain ⟨hal, hax⟩ := List.getElem?_eq_some_iff.1 hx
            obtain ⟨ad', e', q0, _⟩ := at_T45 (HH.out.1 wr RB.out).1 (a : Int) (by omega) (by omega)
            cases e'
            have ex : rd_T45 l (a : Int) = x := by simp [rd_T45, List.getD_eq_getElem?_getD, hx]
            rw [ex] at q0
            simp only [Int.toNat_natCast] at q0
            rw [hn] at hal
            have hcm : decide ((a : Int) < (n : Int)) = true := decide_eq_true (by omega)
            have ha0 : (0 ≤ (a : Int)) = True := eq_true (by omega)
            have ha1 : ((a : Int) < (n : Int)) = True := eq_true (by omega)
            by_cases hd : c.f0 < x.f0
            · have hd' : decide (c.f0 < x.f0) = true := decide_eq_true hd
              rw [if_pos hd] at hRF
              obtain ⟨⟨g1, g2⟩, hg, hRF⟩ := Option.bind_eq_some_iff.1 hRF
              obtain ⟨⟨u1, u2⟩, hu, hRF⟩ := Option.map_eq_some_iff.1 hRF
              obtain ⟨hv1, hv2⟩ := Prod.mk.inj hRF
              simp only at hu hv1 hv2
              subst hv2
              have HG := Lib.hid hg
              have HU := Lib.hid hu
              have HV := Lib.hid hv1
              clear hx hRF RF hax ex hd hg hu hv1 hal
              go_wp2
              go_quiet (fail)
              generalize hwq : wr.drewN nq = wq
              have BQ : Hid (Below wr.heap.size wr wq) := Lib.hid (by rw [← hwq]; exact pw_below_drewN (Below.refl _ _) _)
              have hbr : b ≤ wr.heap.size := Nat.le_trans (Nat.le_of_lt hbw) RB.out.size
              have WW := Lib.hid (RW.out.below BQ.out)
              have CW := Lib.hid ((BQ.out.block _ (blk_lt RC.out)).trans RC.out)
              have BW := Lib.hid (RB.out.trans (BQ.out.mono hbr))
              have KW := Lib.hid (RQ.out.trans (kept_below BQ.out))
              clear hwq hb0 hb1 hc0 q0 RW RB RQ RC BQ
              cases first with
              | true =>
                have hg1 : s2 = g1 ++ u1 := by have h := HV.out; simp at h; exact h.symm
                have IH := ih gk (by have := RK.out; omega) b (some ad) c0 l a g2 T g1 wq (fun W hW => by rw [hn]; exact HH.out.1 W (BW.out.trans hW)) (by omega) (by omega) HH.out.2.1 (by rw [hn]; exact WW.out) HG.out (by rw [hg1] at hTl; simp at hTl; omega)
                rw [hn] at IH
                have IH := Lib.hid IH
                go_wp2_with (go_at_call 22; refine (IH.out).mono ?_)
                rintro e w7 ⟨rfl, w7a, b7, k7⟩
                have F7 := Lib.hid (And.intro w7a (And.intro b7 k7))
                clear w7a b7 k7
                go_wp2
                go_roundg gk
                case measure => omega
                case rel =>
                  exact ⟨false, g2, T ++ g1, u1, rfl, ⟨HU.out⟩, ⟨by rw [← RT.out, hg1]; simp⟩, ⟨by have := RK.out; omega⟩, ⟨F7.out.1⟩, ⟨BW.out.trans F7.out.2.1⟩, ⟨KW.out.trans F7.out.2.2⟩, ⟨F7.out.2.2 _ _ CW.out (fun e => by injection e with e; omega) (fun cs fz h => by cases h)⟩⟩
              | false =>
                have hg1 : s2 = 44 :: (g1 ++ u1) := by have h := HV.out; simp at h; exact h.symm
                have WB2 := Lib.hid (wbyte b (.slice (some ad) n c0) (a : Int) T 44 wq WW.out (by omega))
                go_wp2_with (go_at_call 39; refine (WB2.out).mono ?_)
                rintro e wb ⟨rfl, wa, bn, kn⟩
                have WX := Lib.hid wa
                have BX := Lib.hid (BW.out.trans bn)
                have KX := Lib.hid (KW.out.trans kn)
                have CX := Lib.hid (kn _ _ CW.out (fun e => by injection e with e; omega) (fun cs fz h => by cases h))
                have IH := ih gk (by have := RK.out; omega) b (some ad) c0 l a g2 (T ++ [44]) g1 wb (fun W hW => by rw [hn]; exact HH.out.1 W (BX.out.trans hW)) (by omega) (by omega) HH.out.2.1 (by rw [hn]; exact WX.out) HG.out (by rw [hg1] at hTl; simp at hTl ⊢; omega)
                rw [hn] at IH
                have IH := Lib.hid IH
                clear wa bn kn WB2
                go_wp2_with (go_at_call 22; refine (IH.out).mono ?_)
                rintro e w7 ⟨rfl, w7a, b7, k7⟩
                have F7 := Lib.hid (And.intro w7a (And.intro b7 k7))
                clear w7a b7 k7
                go_wp2
                go_roundg gk
                case measure => omega
                case rel =>
                  exact ⟨false, g2, T ++ [44] ++ g1, u1, rfl, ⟨HU.out⟩, ⟨by rw [← RT.out, hg1]; simp⟩, ⟨by have := RK.out; omega⟩, ⟨F7.out.1⟩, ⟨BX.out.trans F7.out.2.1⟩, ⟨KX.out.trans F7.out.2.2⟩, ⟨F7.out.2.2 _ _ CX.out (fun e => by injection e with e; omega) (fun cs fz h => by cases h)⟩⟩
            · have hd' : decide (c.f0 < x.f0) = false := decide_eq_false hd
              rw [if_neg hd] at hRF
              obtain ⟨h1, h2⟩ := Prod.mk.inj (Option.some.inj hRF)
              have H12 := Lib.hid (And.intro h1 h2)
              clear hx hRF RF h1 h2 hax ex hd hal
              go_wp2
              go_quiet (fail)
              generalize hwq : wr.drewN nq = wq
              have BQ : Hid (Below wr.heap.size wr wq) := Lib.hid (by rw [← hwq]; exact pw_below_drewN (Below.refl _ _) _)
              have hbr : b ≤ wr.heap.size := Nat.le_trans (Nat.le_of_lt hbw) RB.out.size
              have WW := Lib.hid (RW.out.below BQ.out)
              clear hwq hb0 hb1 hc0
              have WB2 := Lib.hid (wbyte b (.slice (some ad) n c0) (a : Int) T 125 wq WW.out (by omega))
              go_wp2_with (go_at_call 39; refine (WB2.out).mono ?_)
              rintro e w7 ⟨rfl, w7a, b7, k7⟩
              have F7 := Lib.hid (And.intro w7a (And.intro b7 k7))
              clear w7a b7 k7
              go_wp2
              first | go_end0 | refine bodyPost_ret (results_none rfl _ _ _) rfl ?_
              obtain ⟨e1, e2⟩ := H12.out
              have hT : T = txt ++ headT c ++ [123] ++ r1 := by have h := RT.out; rw [← e1, List.append_nil] at h; exact h
              have hfin : txt ++ s = T ++ [125] := by rw [hT, ← HSS.out]; simp
              rw [hfin, ← e2]
              exact ⟨rfl, F7.out.1, RB.out.trans ((BQ.out.mono hbr).trans F7.out.2.1), RQ.out.trans ((kept_below BQ.out).trans F7.out.2.2)⟩
end Go.Proofs.YtmpnkckaohfflaaDoor.PGiv
