/- The law PlanSum's function, walked. Condition: the form's own reach. -/
import Derived.Test.YtgbdeloefdhmlaaSumFn
import Derived.Test.YtgbdeloefdhmlaaByteSet
import Derived.WalkKit
import Derived.Lib.Hide
namespace Go.Proofs.Ytgbdeloefdhmlaa.Sm
open Go.RowKit Go.Proofs.Ytgbdeloefdhmlaa.R Go.Proofs.Ytgbdeloefdhmlaa.Txt Go.Proofs.YtgbdeloefdhmlaaW.PrintWords Go.Proofs.YtgbdeloefdhmlaaW.PrintLast
set_option linter.unusedVariables false
set_option linter.unusedSimpArgs false

theorem one_reads (W : World) (x : Int) : ReadsInt (W.alloc (.cells #[.int .u8 x] 5)) .u8 (some ⟨W.heap.size, 0, none⟩) 1 [x] := by
  refine ⟨rfl, by decide, fun _ => ⟨_, rfl, fun j hj => ?_⟩⟩
  obtain rfl : j = 0 := by omega
  rw [add_plain]
  simp [World.cell?_alloc_new]
theorem one_text (W : World) (x : Int) (h : Nat) (hh : h = W.heap.size) : (convert 25 9 (.slice (some ⟨h, 0, none⟩) 1 1)).run Try.prog (W.alloc (.cells #[.int .u8 x] 5)) = .ok (.string (strOfNums [x])) (W.alloc (.cells #[.int .u8 x] 5)) := by
  subst hh
  exact string_of_reads Try.underlying25 Try.underlying5 Try.underlying9 (one_reads W x)

set_option maxHeartbeats 2000000 in
set_option maxRecDepth 100000 in
theorem out_lo (s u : ByteArray) (p d n : Int) (w : World) (hs : s.size + u.size ≤ 9223372036854775807) (hp : p < 0) (d0 : 0 ≤ d) (d1 : d ≤ 255) (n0 : 0 ≤ n) (n1 : n ≤ 65535)
    (hcv : ∀ (W : World) (h : Nat), h = W.heap.size → (convert 25 9 (.slice (some ⟨h, 0, none⟩) 1 1)).run Try.prog (W.alloc (.cells #[.int .u8 d] 5)) = .ok (.string u) (W.alloc (.cells #[.int .u8 d] 5)))
    (c1 : ∀ W, Calls Try.prog 9 #[.string s] W fun e w' => e = .returned (.int .i64 n) ∧ Drawn0 W w')
    (c2 : ∀ W, Calls Try.prog 9 #[.string (s ++ u)] W fun e w' => e = .returned (.int .i64 ((n / 2 + n % 2 * 32768 + d) % 65536)) ∧ Drawn0 W w')
    (c3 : ∀ W, Calls Try.prog 9 #[.string ⟨#[97]⟩] W fun e w' => e = .returned (.int .i64 97) ∧ Drawn0 W w') :
    Calls Try.prog 7 #[.string s, .int .i64 p, .int .u8 d] w fun e w' => e = .returned (.bool true) ∧ Below w.heap.size w w' := by
  have C1 := Lib.hid c1
  have C2 := Lib.hid c2
  have C3 := Lib.hid c3
  clear c1 c2 c3
  have e1 : decide (n < 0) = false := decide_eq_false (by omega)
  have e2 : decide (65535 < n) = false := decide_eq_false (by omega)
  have e3 : decide (0 ≤ p) = false := decide_eq_false (by omega)
  go_enter Try.func7, Try.ntmps7
  go_wp2_with fail
  refine (C1.out _).mono ?_
  rintro e w' ⟨rfl, ⟨m1, rfl⟩⟩
  have hcv1 := hcv (w.drewN m1) w.heap.size rfl
  clear hcv
  go_wp2_with fail
  refine (C2.out _).mono ?_
  rintro e w' ⟨rfl, ⟨m2, rfl⟩⟩
  have e9 : ((n / 2 + n % 2 * 32768 + d) % 65536 == (n / 2 + n % 2 * 32768 + d) % 65536) = true := beq_self_eq_true _
  go_wp2_with fail
  refine (C3.out _).mono ?_
  rintro e w' ⟨rfl, ⟨m3, rfl⟩⟩
  go_wp2_with fail
  go_ret
  exact ⟨rfl, by repeat (first | exact Below.refl _ _ | apply below_alloc | apply pw_below_drewN)⟩

set_option maxHeartbeats 2000000 in
set_option maxRecDepth 100000 in
theorem out_hi (s u : ByteArray) (p d n : Int) (w : World) (hs : s.size + u.size ≤ 9223372036854775807) (hp : (s.size : Int) ≤ p) (d0 : 0 ≤ d) (d1 : d ≤ 255) (n0 : 0 ≤ n) (n1 : n ≤ 65535)
    (hcv : ∀ (W : World) (h : Nat), h = W.heap.size → (convert 25 9 (.slice (some ⟨h, 0, none⟩) 1 1)).run Try.prog (W.alloc (.cells #[.int .u8 d] 5)) = .ok (.string u) (W.alloc (.cells #[.int .u8 d] 5)))
    (c1 : ∀ W, Calls Try.prog 9 #[.string s] W fun e w' => e = .returned (.int .i64 n) ∧ Drawn0 W w')
    (c2 : ∀ W, Calls Try.prog 9 #[.string (s ++ u)] W fun e w' => e = .returned (.int .i64 ((n / 2 + n % 2 * 32768 + d) % 65536)) ∧ Drawn0 W w')
    (c3 : ∀ W, Calls Try.prog 9 #[.string ⟨#[97]⟩] W fun e w' => e = .returned (.int .i64 97) ∧ Drawn0 W w') :
    Calls Try.prog 7 #[.string s, .int .i64 p, .int .u8 d] w fun e w' => e = .returned (.bool true) ∧ Below w.heap.size w w' := by
  have C1 := Lib.hid c1
  have C2 := Lib.hid c2
  have C3 := Lib.hid c3
  clear c1 c2 c3
  have e1 : decide (n < 0) = false := decide_eq_false (by omega)
  have e2 : decide (65535 < n) = false := decide_eq_false (by omega)
  have e3 : decide (0 ≤ p) = true := decide_eq_true (by omega)
  have e4 : decide (p < (s.size : Int)) = false := decide_eq_false (by omega)
  go_enter Try.func7, Try.ntmps7
  go_wp2_with fail
  refine (C1.out _).mono ?_
  rintro e w' ⟨rfl, ⟨m1, rfl⟩⟩
  have hcv1 := hcv (w.drewN m1) w.heap.size rfl
  clear hcv
  go_wp2_with fail
  refine (C2.out _).mono ?_
  rintro e w' ⟨rfl, ⟨m2, rfl⟩⟩
  have e9 : ((n / 2 + n % 2 * 32768 + d) % 65536 == (n / 2 + n % 2 * 32768 + d) % 65536) = true := beq_self_eq_true _
  go_wp2_with fail
  refine (C3.out _).mono ?_
  rintro e w' ⟨rfl, ⟨m3, rfl⟩⟩
  go_wp2_with fail
  go_ret
  exact ⟨rfl, by repeat (first | exact Below.refl _ _ | apply below_alloc | apply pw_below_drewN)⟩

set_option maxHeartbeats 2000000 in
set_option maxRecDepth 100000 in
theorem same (s u : ByteArray) (p d n : Int) (w : World) (hs : s.size + u.size ≤ 9223372036854775807) (hp : 0 ≤ p) (hq : p < (s.size : Int)) (he : bt s p = d) (d0 : 0 ≤ d) (d1 : d ≤ 255) (n0 : 0 ≤ n) (n1 : n ≤ 65535)
    (hcv : ∀ (W : World) (h : Nat), h = W.heap.size → (convert 25 9 (.slice (some ⟨h, 0, none⟩) 1 1)).run Try.prog (W.alloc (.cells #[.int .u8 d] 5)) = .ok (.string u) (W.alloc (.cells #[.int .u8 d] 5)))
    (c1 : ∀ W, Calls Try.prog 9 #[.string s] W fun e w' => e = .returned (.int .i64 n) ∧ Drawn0 W w')
    (c2 : ∀ W, Calls Try.prog 9 #[.string (s ++ u)] W fun e w' => e = .returned (.int .i64 ((n / 2 + n % 2 * 32768 + d) % 65536)) ∧ Drawn0 W w')
    (c3 : ∀ W, Calls Try.prog 9 #[.string ⟨#[97]⟩] W fun e w' => e = .returned (.int .i64 97) ∧ Drawn0 W w') :
    Calls Try.prog 7 #[.string s, .int .i64 p, .int .u8 d] w fun e w' => e = .returned (.bool true) ∧ Below w.heap.size w w' := by
  have C1 := Lib.hid c1
  have C2 := Lib.hid c2
  have C3 := Lib.hid c3
  clear c1 c2 c3
  have e1 : decide (n < 0) = false := decide_eq_false (by omega)
  have e2 : decide (65535 < n) = false := decide_eq_false (by omega)
  have e3 : decide (0 ≤ p) = true := decide_eq_true (by omega)
  have e4 : decide (p < (s.size : Int)) = true := decide_eq_true (by omega)
  have e5 : (bt s p != d) = false := by rw [he]; simp
  have hx := bt_at s p
  have hp' := eq_true hp
  have hq' := eq_true hq
  clear he hp hq
  go_enter Try.func7, Try.ntmps7
  go_wp2_with fail
  refine (C1.out _).mono ?_
  rintro e w' ⟨rfl, ⟨m1, rfl⟩⟩
  have hcv1 := hcv (w.drewN m1) w.heap.size rfl
  clear hcv
  go_wp2_with fail
  refine (C2.out _).mono ?_
  rintro e w' ⟨rfl, ⟨m2, rfl⟩⟩
  have e9 : ((n / 2 + n % 2 * 32768 + d) % 65536 == (n / 2 + n % 2 * 32768 + d) % 65536) = true := beq_self_eq_true _
  go_wp2_with fail
  refine (C3.out _).mono ?_
  rintro e w' ⟨rfl, ⟨m3, rfl⟩⟩
  go_wp2_with fail
  go_ret
  exact ⟨rfl, by repeat (first | exact Below.refl _ _ | apply below_alloc | apply pw_below_drewN)⟩

set_option maxHeartbeats 2000000 in
set_option maxRecDepth 100000 in
theorem turned (s u s2 : ByteArray) (p d n n2 : Int) (w : World) (hs : s.size + u.size ≤ 9223372036854775807) (hp : 0 ≤ p) (hq : p < (s.size : Int)) (he : bt s p ≠ d) (d0 : 0 ≤ d) (d1 : d ≤ 255) (n0 : 0 ≤ n) (n1 : n ≤ 65535) (hne : n2 ≠ n)
    (hcv : ∀ (W : World) (h : Nat), h = W.heap.size → (convert 25 9 (.slice (some ⟨h, 0, none⟩) 1 1)).run Try.prog (W.alloc (.cells #[.int .u8 d] 5)) = .ok (.string u) (W.alloc (.cells #[.int .u8 d] 5)))
    (hs2 : strOfNums ((bytesOf s).set p.toNat d) = s2)
    (c1 : ∀ W, Calls Try.prog 9 #[.string s] W fun e w' => e = .returned (.int .i64 n) ∧ Drawn0 W w')
    (c2 : ∀ W, Calls Try.prog 9 #[.string (s ++ u)] W fun e w' => e = .returned (.int .i64 ((n / 2 + n % 2 * 32768 + d) % 65536)) ∧ Drawn0 W w')
    (c4 : ∀ W, Calls Try.prog 9 #[.string s2] W fun e w' => e = .returned (.int .i64 n2) ∧ Drawn0 W w')
    (c3 : ∀ W, Calls Try.prog 9 #[.string ⟨#[97]⟩] W fun e w' => e = .returned (.int .i64 97) ∧ Drawn0 W w') :
    Calls Try.prog 7 #[.string s, .int .i64 p, .int .u8 d] w fun e w' => e = .returned (.bool true) ∧ Below w.heap.size w w' := by
  have C1 := Lib.hid c1
  have C2 := Lib.hid c2
  have C3 := Lib.hid c3
  have C4 := Lib.hid c4
  have HS2 := Lib.hid hs2
  clear c1 c2 c3 c4 hs2
  have e1 : decide (n < 0) = false := decide_eq_false (by omega)
  have e2 : decide (65535 < n) = false := decide_eq_false (by omega)
  have e3 : decide (0 ≤ p) = true := decide_eq_true (by omega)
  have e4 : decide (p < (s.size : Int)) = true := decide_eq_true (by omega)
  have e5 : (bt s p != d) = true := by simpa using he
  have e6 : (n2 == n) = false := by simpa using hne
  have hj : p.toNat < s.size := by omega
  have hx := bt_at s p
  have hp' := eq_true hp
  have hq' := eq_true hq
  clear he hp hq hne
  have kb := fun W => print_bytes (P := Try.prog) 9 25 5 Try.underlying9 Try.underlying25 Try.underlying5 s W
  go_enter Try.func7, Try.ntmps7
  go_wp2_with fail
  refine (C1.out _).mono ?_
  rintro e w' ⟨rfl, ⟨m1, rfl⟩⟩
  have kc := Bs.cell_at (w.drewN m1) 5 s p.toNat hj
  obtain ⟨v0, kc⟩ := kc
  have kf := Bs.free_at (w.drewN m1) 5 s p.toNat hj
  have kr := Bs.set_reads (w.drewN m1) 5 s p.toNat hj (by omega) d
  have kt := fun c => string_of_reads (P := Try.prog) (c := c) Try.underlying25 Try.underlying5 Try.underlying9 kr
  rw [HS2.out] at kt
  unfold Bs.setWorld at kt
  clear kr
  have hZ : (w.drewN m1).heap.size = w.heap.size := rfl
  rw [hZ] at kc kf kt
  clear hZ
  have hB := Bs.set_below (w.drewN m1) 5 s p.toNat d
  unfold Bs.setWorld at hB
  have HB : Hid (Below w.heap.size w ((Lib.bytesWorld (w.drewN m1) 5 s).setCell ⟨w.heap.size, p.toNat, none⟩ (.int .u8 d))) := Lib.hid ⟨hB.os, hB.tape, hB.output, hB.size, hB.block⟩
  clear hB
  go_wp2_with fail
  clear kc kf kt kb hx hp' hq'
  generalize (Lib.bytesWorld (w.drewN m1) 5 s).setCell ⟨w.heap.size, p.toNat, none⟩ (.int .u8 d) = W1 at HB ⊢
  refine (C4.out _).mono ?_
  rintro e w' ⟨rfl, ⟨m4, rfl⟩⟩
  have hcv1 := hcv (W1.drewN m4) W1.heap.size rfl
  clear hcv
  go_wp2_with fail
  refine (C2.out _).mono ?_
  rintro e w' ⟨rfl, ⟨m2, rfl⟩⟩
  have e9 : ((n / 2 + n % 2 * 32768 + d) % 65536 == (n / 2 + n % 2 * 32768 + d) % 65536) = true := beq_self_eq_true _
  go_wp2_with fail
  refine (C3.out _).mono ?_
  rintro e w' ⟨rfl, ⟨m3, rfl⟩⟩
  go_wp2_with fail
  go_ret
  exact ⟨rfl, by repeat (first | exact HB.out | apply below_alloc | apply pw_below_drewN)⟩

theorem law_calls (s : ByteArray) (p d : Int) (w : World) (hs : s.size ≤ 140737488351232) (d0 : 0 ≤ d) (d1 : d ≤ 255) :
    Calls Try.prog 7 #[.string s, .int .i64 p, .int .u8 d] w fun e w' => e = .returned (.bool true) ∧ Below w.heap.size w w' := by
  rw [S_of s]
  have hl : s.data.toList.length ≤ 140737488351232 := by rw [data_len]; exact hs
  generalize s.data.toList = l at hl ⊢
  obtain ⟨c, rfl⟩ : ∃ c : UInt8, d = (c.toNat : Int) := ⟨UInt8.ofNat d.toNat, by simp; omega⟩
  obtain ⟨r0, r1⟩ := sum_range l
  have hcv := fun (W : World) (h : Nat) (hh : h = W.heap.size) => one_text W (c.toNat : Int) h hh
  have e1 : strOfNums [(c.toNat : Int)] = S [c] := S_nums [c]
  have c1 := fun W => sum_calls l W (by omega)
  have c2 := fun W => sum_calls (l ++ [c]) W (by simp; omega)
  have e2 : sum (l ++ [c]) = (sum l / 2 + sum l % 2 * 32768 + (c.toNat : Int)) % 65536 := sum_snoc l c
  rw [e2, ← S_app] at c2
  have e3 : sum [97] = 97 := by decide
  have c3 := fun W => sum_calls [97] W (by simp)
  rw [e3] at c3
  rw [e1] at hcv
  have hsz : (S l).size + (S [c]).size ≤ 9223372036854775807 := by rw [S_size, S_size]; simp; omega
  by_cases hp : p < 0
  · exact out_lo (S l) (S [c]) p _ _ w hsz hp d0 d1 r0 r1 hcv c1 c2 c3
  · by_cases hq : ((S l).size : Int) ≤ p
    · exact out_hi (S l) (S [c]) p _ _ w hsz hq d0 d1 r0 r1 hcv c1 c2 c3
    · by_cases he : bt (S l) p = (c.toNat : Int)
      · exact same (S l) (S [c]) p _ _ w hsz (by omega) (by omega) he d0 d1 r0 r1 hcv c1 c2 c3
      · have hj : p.toNat < l.length := by rw [S_size] at hq; omega
        have hne : l[p.toNat] ≠ c := by
          rintro rfl
          exact he (bt_get l p.toNat hj p (by omega))
        exact turned (S l) (S [c]) (S (l.set p.toNat c)) p _ _ _ w hsz (by omega) (by omega) he d0 d1 r0 r1 (sum_set l p.toNat hj c hne) hcv (Bs.set_text l p.toNat c) c1 c2 (fun W => sum_calls (l.set p.toNat c) W (by simp; omega)) c3

theorem law_walk (s : ByteArray) (p d : Int) (w : World) (hs : s.size ≤ 140737488351232) (wp : (Lit.int .i64 p).wf = true) (wd : (Lit.int .u8 d).wf = true) :
    Calls Try.prog 7 #[.string s, .int .i64 p, .int .u8 d] w fun e w' => e = .returned (.bool true) ∧ Below w.heap.size w w' := by
  have hx : 0 ≤ d ∧ d ≤ 255 := by simpa [Lit.wf, IntKind.min, IntKind.max, IntKind.signed, IntKind.bits] using wd
  exact law_calls s p d w hs hx.1 hx.2

end Go.Proofs.Ytgbdeloefdhmlaa.Sm
