/- The program's put and Escape, walked: what Escape computes. Condition: the table of digits lies as the program lays it; a text of at most 2^45 bytes. -/
import Derived.Test.YtgbdeloefdhmlabDoorShelf
import Derived.Test.YtgbdeloefdhmlabDoorOct
import Derived.Test.YtgbdeloefdhmlabDoorWMore
import Derived.WalkKit
import Derived.BigCall
import Derived.Lib.Hide
import Derived.Laws.BitsAllLaws
namespace Go.Proofs.YtgbdeloefdhmlabDoor.Giv
open Go.RowKit Go.Proofs.YtgbdeloefdhmlabDoorW.PrintWords
set_option linter.unusedVariables false
set_option linter.unusedSimpArgs false

/-- what is known of the package's variables: the table of digits -/
structure Glb (w : World) : Prop where
  dig : ∀ i : Nat, i < 8 → w.cell? ⟨0, i, none⟩ = some (.int .u8 (48 + i))
theorem Glb.size {w : World} (h : Glb w) : 0 < w.heap.size := World.block_lt_of_cell? w _ (h.dig 0 (by decide))
theorem Glb.below {w W : World} (h : Glb w) (hb : Below w.heap.size w W) : Glb W := ⟨fun i hi => pw_cell_below hb (h.dig i hi)⟩
theorem Glb.at_ {B : Nat} {w W : World} (h : Glb w) (hB : 0 < B) (hb : Below B w W) : Glb W := ⟨fun i hi => (hb.cell (p := ⟨0, i, none⟩) hB).trans (h.dig i hi)⟩

theorem byte_range (c : UInt8) : 0 ≤ (c.toNat : Int) ∧ (c.toNat : Int) ≤ 255 := by
  have h : c.toNat < 256 := c.toNat_lt
  omega
theorem cells_three (c : UInt8) : Lib.byteCells (Oct.three c) = [.int .u8 92, .int .u8 (48 + (c.toNat : Int) / 64), .int .u8 (48 + (c.toNat : Int) / 8 % 8), .int .u8 (48 + (c.toNat : Int) % 8)] := by
  unfold Lib.byteCells Oct.three
  simp only [List.map_cons, List.map_nil, Oct.dig_hi, Oct.dig_mid, Oct.dig_lo]
  rfl

set_option maxHeartbeats 1000000 in
set_option maxRecDepth 100000 in
theorem put_calls (B b : Nat) (bs : List Value) (c : UInt8) (w : World) (HG : Glb w) (hB : 0 < B) (h : Lib.IsBuilder 55 5 B b bs w) (hBw : B ≤ w.heap.size) (hlen : bs.length + 4 ≤ 140737488355328) :
    Calls Tryd.prog 39 #[.pointer (some ⟨b, 0, none⟩), .int .u8 (c.toNat : Int)] w fun e w' => e = .returned (.tuple #[]) ∧ Lib.IsBuilder 55 5 B b (bs ++ Lib.byteCells (Oct.three c)) w' ∧ Below B w w' := by
  rw [cells_three]
  obtain ⟨c0, c1⟩ := byte_range c
  generalize (c.toNat : Int) = n at c0 c1 ⊢
  have G0 := Lib.hid HG
  clear HG
  go_enter Tryd.func39, Tryd.ntmps39
  go_wp2_with (go_at_call 36; refine (Tryd.Builder_WriteByte B b bs 92 w h (by omega) hBw).mono ?_; rintro e w1 ⟨rfl, i1, b1⟩; refine Hid.out ?_)
  refine Lib.hid ?_
  have G1 := Glb.at_ G0.out hB b1
  have x1 : w1.cell? ⟨0, (n / 64).toNat, none⟩ = some (.int .u8 (48 + n / 64)) := by
    have := G1.dig (n / 64).toNat (by omega)
    rw [this]
    congr 2
    omega
  go_wp2_with (go_at_call 36; refine (Tryd.Builder_WriteByte B b _ _ w1 (.inr i1) (by rw [List.length_append, List.length_singleton]; omega) (by have := b1.size; omega)).mono ?_; rintro e w2 ⟨rfl, i2, b2⟩; refine Hid.out ?_)
  refine Lib.hid ?_
  have G2 := Glb.at_ G1 hB b2
  have m7 : Go.bits .and .u8 (n / 8) 7 = n / 8 % 8 := Oct.and7 _ (by omega) (by omega)
  have x2 : w2.cell? ⟨0, (n / 8 % 8).toNat, none⟩ = some (.int .u8 (48 + n / 8 % 8)) := by
    have := G2.dig (n / 8 % 8).toNat (by omega)
    rw [this]
    congr 2
    omega
  clear x1
  go_wp2_with (go_at_call 36; refine (Tryd.Builder_WriteByte B b _ _ w2 (.inr i2) (by rw [List.length_append, List.length_append, List.length_singleton, List.length_singleton]; omega) (by have := b1.size; have := b2.size; omega)).mono ?_; rintro e w3 ⟨rfl, i3, b3⟩; refine Hid.out ?_)
  refine Lib.hid ?_
  clear m7 x2
  have G3 := Glb.at_ G2 hB b3
  have m7 : Go.bits .and .u8 n 7 = n % 8 := Oct.and7 _ (by omega) (by omega)
  have x3 : w3.cell? ⟨0, (n % 8).toNat, none⟩ = some (.int .u8 (48 + n % 8)) := by
    have := G3.dig (n % 8).toNat (by omega)
    rw [this]
    congr 2
    omega
  go_wp2_with (go_at_call 36; refine (Tryd.Builder_WriteByte B b _ _ w3 (.inr i3) (by rw [List.length_append, List.length_append, List.length_append, List.length_singleton, List.length_singleton, List.length_singleton]; omega) (by have := b1.size; have := b2.size; have := b3.size; omega)).mono ?_; rintro e w4 ⟨rfl, i4, b4⟩)
  go_wp2
  go_end0
  exact ⟨rfl, .inr (by simpa using i4), ((b1.trans b2).trans b3).trans b4⟩

set_option maxHeartbeats 400000 in
theorem must_calls (n : Int) (w : World) (c0 : 0 ≤ n) (c1 : n ≤ 255) :
    Calls Tryd.prog 35 #[.int .u8 n] w fun e w' => e = .returned (.bool (decide (n < 32) || n == 92)) ∧ w = w' := by
  by_cases h : n < 32
  · go_enter Tryd.func35, Tryd.ntmps35
    go_wp2
    go_ret
    exact ⟨by simp [h], rfl⟩
  · have hd : decide (n < 32) = false := by simpa using h
    go_enter Tryd.func35, Tryd.ntmps35
    go_wp2
    go_ret
    exact ⟨by simp [h], rfl⟩
theorem must_yes (c : UInt8) (w : World) (hm : Oct.must c = true) :
    Calls Tryd.prog 35 #[.int .u8 (c.toNat : Int)] w fun e w' => e = .returned (.bool true) ∧ w = w' := by
  refine (must_calls _ w (byte_range c).1 (byte_range c).2).mono fun e w' ⟨he, hw⟩ => ⟨?_, hw⟩
  rw [he]
  have e : (decide ((c.toNat : Int) < 32) || (c.toNat : Int) == 92) = Oct.must c := by
    unfold Oct.must
    rw [Bool.eq_iff_iff]
    simp
    omega
  rw [e, hm]
theorem must_no (c : UInt8) (w : World) (hm : Oct.must c = false) :
    Calls Tryd.prog 35 #[.int .u8 (c.toNat : Int)] w fun e w' => e = .returned (.bool false) ∧ w = w' := by
  refine (must_calls _ w (byte_range c).1 (byte_range c).2).mono fun e w' ⟨he, hw⟩ => ⟨?_, hw⟩
  rw [he]
  have e : (decide ((c.toNat : Int) < 32) || (c.toNat : Int) == 92) = Oct.must c := by
    unfold Oct.must
    rw [Bool.eq_iff_iff]
    simp
    omega
  rw [e, hm]

/-- the first k bytes' escape -/
def upTo (s : ByteArray) (k : Nat) : List UInt8 := Oct.escape (s.data.toList.take k)
theorem upTo_zero (s : ByteArray) : upTo s 0 = [] := rfl
theorem upTo_succ (s : ByteArray) (k : Nat) (h : k < s.size) : upTo s (k + 1) = upTo s k ++ Oct.esc1 s[k] := by
  unfold upTo
  rw [List.take_succ_eq_append_getElem (by simpa using h), Oct.escape_append]
  congr 1
  simp [Oct.escape]
  rfl
theorem upTo_all (s : ByteArray) : upTo s s.size = Oct.escape s.data.toList := by
  unfold upTo
  rw [List.take_of_length_le (by simp)]
theorem upTo_le (s : ByteArray) (k : Nat) : (upTo s k).length ≤ (Oct.escape s.data.toList).length := by
  unfold upTo
  have e : Oct.escape s.data.toList = Oct.escape (s.data.toList.take k) ++ Oct.escape (s.data.toList.drop k) := by rw [← Oct.escape_append, List.take_append_drop]
  rw [e, List.length_append]
  exact Nat.le_add_right _ _

set_option maxHeartbeats 2000000 in
set_option maxRecDepth 100000 in
theorem escape_calls (s : ByteArray) (w : World) (HG : Glb w) (hs0 : (Oct.escape s.data.toList).length ≤ 140737488355328) (hs : s.size ≤ 9223372036854775807) :
    Calls Tryd.prog 15 #[.string s] w fun e w' => e = .returned (.string ⟨(Oct.escape s.data.toList).toArray⟩) ∧ Below w.heap.size w w' := by
  have hB := HG.size
  have G0 := Lib.hid HG
  clear HG
  have hI0 := Lib.fresh_isBuilder 55 5 w
  have hb0 : Below w.heap.size w (w.alloc (.cells #[.pointer none, .slice none 0 0] 55)) := (Below.refl _ w).alloc (Nat.le_refl _) _
  go_enter Tryd.func15, Tryd.ntmps15
  go_wp2
  go_loopw [4] (fun i wr => ∃ k : Nat, k ≤ s.size ∧ i = .int .i64 k ∧ Lib.IsBuilder 55 5 w.heap.size w.heap.size (Lib.byteCells (upTo s k)) wr ∧ Below w.heap.size w wr) (fun i _ => s.size - (intOf i).toNat)
  case atStart => exact ⟨0, Nat.zero_le _, rfl, hI0, hb0⟩
  case round =>
    obtain ⟨k, hk, rfl, hI, hb⟩ := hrel
    clear hI0 hb0
    have hG := Glb.at_ G0.out hB hb
    have hlen0 : (Lib.byteCells (upTo s k)).length = (upTo s k).length := by simp [Lib.byteCells]
    have HL0 := Lib.hid hlen0
    clear hlen0
    have hsz := hb.size
    by_cases hlt : k < s.size
    · have hsucc := Lib.hid (upTo_succ s k hlt)
      have hnext : (Lib.byteCells (upTo s k)).length + (Oct.esc1 s[k]).length ≤ 140737488355328 := by
        have h1 := upTo_le s (k + 1)
        rw [hsucc.out, List.length_append] at h1
        have h2 := HL0.out
        omega
      by_cases hm : Oct.must s[k] = true
      · have hM := Lib.hid hm
        have hlen : (Lib.byteCells (upTo s k)).length + 4 ≤ 140737488355328 := by
          rw [Oct.esc1, if_pos hm] at hnext
          exact hnext
        have HL := Lib.hid hlen
        clear hm hnext hlen
        go_wp2_with (first | (go_at_call 35; refine (must_yes _ _ hM.out).mono ?_; rintro e w' ⟨rfl, rfl⟩) | (go_at_call 39; refine (put_calls _ _ _ _ _ hG hB hI hsz HL.out).mono ?_; rintro e w2 ⟨rfl, i2, b2⟩))
        go_wp2
        go_roundw
        case rel =>
          refine ⟨k + 1, by omega, by go_num, ?_, hb.trans b2⟩
          rw [hsucc.out, Oct.esc1, if_pos hM.out, Lib.byteCells_append]
          exact i2
        case measure => simp [intOf]; omega
      · have hM : Hid (Oct.must s[k] = false) := Lib.hid (by simpa using hm)
        have hlen : (Lib.byteCells (upTo s k)).length + 1 ≤ 140737488355328 := by
          rw [Oct.esc1, hM.out] at hnext
          exact hnext
        have HL := Lib.hid hlen
        clear hm hnext hlen
        go_wp2_with (first | (go_at_call 35; refine (must_no _ _ hM.out).mono ?_; rintro e w' ⟨rfl, rfl⟩) | (go_at_call 36; refine (Tryd.Builder_WriteByte _ _ _ _ _ hI HL.out hsz).mono ?_; rintro e w2 ⟨rfl, i2, b2⟩))
        go_wp2
        go_roundw
        case rel =>
          refine ⟨k + 1, by omega, by go_num, .inr ?_, hb.trans b2⟩
          rw [hsucc.out, Oct.esc1, hM.out, Lib.byteCells_append]
          exact i2
        case measure => simp [intOf]; omega
    · have hall : Hid (upTo s k = Oct.escape s.data.toList) := Lib.hid (by rw [show k = s.size by omega]; exact upTo_all s)
      go_wp2_with (go_at_call 38; refine (Tryd.Builder_String_any _ _ _ _ hI hsz).mono ?_; rintro e w2 ⟨rfl, b2⟩)
      go_wp2
      go_ret
      refine ⟨?_, hb.trans b2⟩
      rw [hall.out]
      rfl

/-- the program's Escape, as a function: within the size that a Builder bears -/
def octal_Escape.f (a0 : ByteArray) : Option ByteArray := if (Oct.escape a0.data.toList).length ≤ 140737488355328 then (if a0.size ≤ 9223372036854775807 then some ⟨(Oct.escape a0.data.toList).toArray⟩ else none) else none
theorem octal_Escape.calls (a0 : ByteArray) (r : ByteArray) (w : World) (HG : Aside0 (Glb w)) (h : octal_Escape.f a0 = some r) :
    Calls Tryd.prog 15 #[.string a0] w fun e w' => e = .returned (.string r) ∧ Below w.heap.size w w' := by
  unfold octal_Escape.f at h
  by_cases h0 : (Oct.escape a0.data.toList).length ≤ 140737488355328
  · rw [if_pos h0] at h
    by_cases hs : a0.size ≤ 9223372036854775807
    · rw [if_pos hs] at h
      obtain rfl := Option.some.inj h
      exact escape_calls a0 w HG.out h0 hs
    · rw [if_neg hs] at h
      cases h
  · rw [if_neg h0] at h
    cases h

end Go.Proofs.YtgbdeloefdhmlabDoor.Giv
