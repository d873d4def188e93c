/- The program's Unescape, walked: what it computes. Condition: the form's own reach. -/
import Derived.Test.YtgbdeloefdhmlabDoorShelf
import Derived.Test.YtgbdeloefdhmlabDoorReadFn
import Derived.Test.YtgbdeloefdhmlabDoorWMore
import Derived.WalkKit
import Derived.BigCall
import Derived.Lib.Hide
namespace Go.Proofs.YtgbdeloefdhmlabDoor.Giv
open Go.RowKit Go.Proofs.YtgbdeloefdhmlabDoor.Txt Go.Proofs.YtgbdeloefdhmlabDoorW.PrintWords
set_option linter.unusedVariables false
set_option linter.unusedSimpArgs false

theorem byte_range' (c : UInt8) : 0 ≤ (c.toNat : Int) ∧ (c.toNat : Int) ≤ 255 := by
  have h : c.toNat < 256 := c.toNat_lt
  omega
set_option maxHeartbeats 400000 in
theorem must_calls' (n : Int) (w : World) (c0 : 0 ≤ n) (c1 : n ≤ 255) :
    Calls Tryd.prog 35 #[.int .u8 n] w fun e w' => e = .returned (.bool (decide (n < 32) || n == 92)) ∧ w = w' := by
  by_cases h : n < 32
  · go_enter Tryd.func35, Tryd.ntmps35
    go_wp2
    go_ret
    exact ⟨by simp [h], rfl⟩
  · have hd : decide (n < 32) = false := by simpa using h
    go_enter Tryd.func35, Tryd.ntmps35
    go_wp2
    go_ret
    exact ⟨by simp [h], rfl⟩
theorem must_is (c : UInt8) (b : Bool) (w : World) (hm : Oct.must c = b) :
    Calls Tryd.prog 35 #[.int .u8 (c.toNat : Int)] w fun e w' => e = .returned (.bool b) ∧ w = w' := by
  refine (must_calls' _ w (byte_range' c).1 (byte_range' c).2).mono fun e w' ⟨he, hw⟩ => ⟨?_, hw⟩
  rw [he]
  have e : (decide ((c.toNat : Int) < 32) || (c.toNat : Int) == 92) = Oct.must c := by
    unfold Oct.must
    rw [Bool.eq_iff_iff]
    simp
    omega
  rw [e, hm]

theorem cut_eq (s : ByteArray) (k : Nat) : s.extract k s.size = S (s.data.toList.drop k) := by
  rw [Lib.extract_eq]
  congr 2
  rw [List.take_of_length_le]
  rw [List.length_drop, data_len]
  exact Nat.le_refl _
theorem read_yes_at (s : ByteArray) (k : Nat) (d : UInt8) (w : World) (h : Oct.read (s.data.toList.drop k) = some d) :
    Calls Tryd.prog 37 #[.string (s.extract k s.size)] w fun e w' => e = .returned (.tuple #[.int .u8 (d.toNat : Int), .bool true]) ∧ Drawn0 w w' := by
  rw [cut_eq]
  exact B.octal_read.calls 6 _ _ _ w ((read_f _).1 d h)
theorem read_no_at (s : ByteArray) (k : Nat) (w : World) (h : Oct.read (s.data.toList.drop k) = none) :
    Calls Tryd.prog 37 #[.string (s.extract k s.size)] w fun e w' => (∃ v : Int, e = .returned (.tuple #[.int .u8 v, .bool false])) ∧ Drawn0 w w' := by
  rw [cut_eq]
  obtain ⟨v, hv⟩ := (read_f _).2 h
  exact (B.octal_read.calls 6 _ _ _ w hv).mono fun e w' ⟨he, hw⟩ => ⟨⟨v, he⟩, hw⟩

/-- what Unescape answers -/
def unRes (o : Option (List UInt8)) : ByteArray × Int := match o with
  | some t => (S t, 0)
  | none => (S [], 10)
def unVal (o : Option (List UInt8)) : Value := .tuple #[.string (unRes o).1, .int .i64 (unRes o).2]

theorem drop_at (s : ByteArray) (k : Nat) (h : k < s.size) : s.data.toList.drop k = s[k] :: s.data.toList.drop (k + 1) := by
  rw [List.drop_eq_getElem_cons (by rw [data_len]; exact h)]
  rfl

/-- the round's invariant, without the world: what is behind is still to be read -/
def Left (s : ByteArray) (k : Nat) (acc : List UInt8) : Prop := Oct.unescape s.data.toList = (Oct.unescape (s.data.toList.drop k)).map (acc ++ ·)
theorem Left.zero (s : ByteArray) : Left s 0 [] := by
  unfold Left
  rw [List.drop_zero]
  cases Oct.unescape s.data.toList <;> rfl
theorem Left.plain {s : ByteArray} {k : Nat} {acc : List UInt8} (h : Left s k acc) (hk : k < s.size) (hm : Oct.must s[k] = false) : Left s (k + 1) (acc ++ [s[k]]) := by
  unfold Left at h ⊢
  rw [h, drop_at s k hk, Oct.unescape_cons, if_pos hm, Option.map_map]
  congr 1
  funext x
  simp
theorem Left.coded {s : ByteArray} {k : Nat} {acc : List UInt8} (h : Left s k acc) (hk : k < s.size) (hm : Oct.must s[k] = true) {d : UInt8} (hr : Oct.read (s.data.toList.drop k) = some d) (hd : Oct.must d = true) : Left s (k + 4) (acc ++ [d]) := by
  unfold Left at h ⊢
  rw [drop_at s k hk] at hr
  rw [h, drop_at s k hk, Oct.unescape_cons, if_neg (by rw [hm]; simp), hr]
  simp only []
  rw [if_pos hd, Option.map_map, List.drop_drop]
  congr 1
  funext x
  simp
theorem Left.bad {s : ByteArray} {k : Nat} {acc : List UInt8} (h : Left s k acc) (hk : k < s.size) (hm : Oct.must s[k] = true) (hr : Oct.read (s.data.toList.drop k) = none) : Oct.unescape s.data.toList = none := by
  unfold Left at h
  rw [drop_at s k hk] at hr
  rw [h, drop_at s k hk, Oct.unescape_cons, if_neg (by rw [hm]; simp), hr]
  rfl
theorem Left.bad2 {s : ByteArray} {k : Nat} {acc : List UInt8} (h : Left s k acc) (hk : k < s.size) (hm : Oct.must s[k] = true) {d : UInt8} (hr : Oct.read (s.data.toList.drop k) = some d) (hd : Oct.must d = false) : Oct.unescape s.data.toList = none := by
  unfold Left at h
  rw [drop_at s k hk] at hr
  rw [h, drop_at s k hk, Oct.unescape_cons, if_neg (by rw [hm]; simp), hr]
  simp only []
  rw [if_neg (by rw [hd]; simp)]
  rfl
theorem Left.done {s : ByteArray} {k : Nat} {acc : List UInt8} (h : Left s k acc) (hk : s.size ≤ k) : Oct.unescape s.data.toList = some acc := by
  unfold Left at h
  rw [h, List.drop_eq_nil_of_le (by rw [data_len]; exact hk), Oct.unescape_nil]
  simp
theorem read_far {s : ByteArray} {k : Nat} {d : UInt8} (hr : Oct.read (s.data.toList.drop k) = some d) : k + 4 ≤ s.size := by
  obtain ⟨r, h⟩ := Oct.read_some _ _ hr
  have := congrArg List.length h
  rw [List.length_drop, data_len, List.length_append] at this
  have e : (Oct.three d).length = 4 := rfl
  omega

set_option maxHeartbeats 4000000 in
set_option maxRecDepth 100000 in
theorem unescape_calls (s : ByteArray) (w : World) (hs : s.size ≤ 140737488351232) :
    Calls Tryd.prog 14 #[.string s] w fun e w' => e = .returned (unVal (Oct.unescape s.data.toList)) ∧ Below w.heap.size w w' := by
  have hI0 := Lib.fresh_isBuilder 55 5 w
  have hb0 : Below w.heap.size w (w.alloc (.cells #[.pointer none, .slice none 0 0] 55)) := (Below.refl _ w).alloc (Nat.le_refl _) _
  go_enter Tryd.func14, Tryd.ntmps14
  go_wp2
  go_loopw [5] (fun i wr => ∃ (k : Nat) (acc : List UInt8), k ≤ s.size ∧ i = .int .i64 k ∧ acc.length ≤ k ∧ Left s k acc ∧ Lib.IsBuilder 55 5 w.heap.size w.heap.size (Lib.byteCells acc) wr ∧ Below w.heap.size w wr) (fun i _ => s.size - (intOf i).toNat)
  case atStart => exact ⟨0, [], Nat.zero_le _, rfl, Nat.le_refl _, Left.zero s, hI0, hb0⟩
  case round =>
    obtain ⟨k, acc, hk, rfl, ha, hL0, hI, hb⟩ := hrel
    clear hI0 hb0
    have hL := Lib.hid hL0
    clear hL0
    have hlen : (Lib.byteCells acc).length ≤ k := by simpa [Lib.byteCells] using ha
    have hsz := hb.size
    by_cases hlt : k < s.size
    · cases hm : Oct.must s[k] with
      | false =>
        have hM := Lib.hid hm
        clear hm
        go_wp2_with (first | (go_at_call 35; refine (must_is _ _ _ hM.out).mono ?_; rintro e w' ⟨rfl, rfl⟩) | (go_at_call 36; refine (Tryd.Builder_WriteByte _ _ _ _ _ hI (by omega) hsz).mono ?_; rintro e w2 ⟨rfl, i2, b2⟩))
        go_wp2
        go_roundw
        case rel =>
          refine ⟨k + 1, acc ++ [s[k]], by omega, by go_num, by simp; omega, hL.out.plain hlt hM.out, .inr ?_, hb.trans b2⟩
          rw [Lib.byteCells_append]
          exact i2
        case measure => simp [intOf]; omega
      | true =>
        have hM := Lib.hid hm
        clear hm
        cases hr : Oct.read (s.data.toList.drop k) with
        | none =>
          have hR := Lib.hid hr
          have hU := Lib.hid (hL.out.bad hlt hM.out hr)
          clear hr
          go_wp2_with (first | (go_at_call 35; refine (must_is _ _ _ hM.out).mono ?_; rintro e w' ⟨rfl, rfl⟩) | (go_at_call 37; refine (read_no_at s k _ hR.out).mono ?_; rintro e w' ⟨⟨v, rfl⟩, ⟨m, rfl⟩⟩))
          go_wp2
          go_ret2
          rw [hU.out]
          exact ⟨rfl, pw_below_drewN hb _⟩
        | some d =>
          have hR := Lib.hid hr
          have hf := read_far hr
          clear hr
          cases hd : Oct.must d with
          | false =>
            have hD := Lib.hid hd
            have hU := Lib.hid (hL.out.bad2 hlt hM.out hR.out hd)
            clear hd
            go_wp2_with fail
            refine (must_is _ _ _ hM.out).mono ?_
            rintro e w' ⟨rfl, rfl⟩
            go_wp2_with fail
            refine (read_yes_at s k d _ hR.out).mono ?_
            rintro e w' ⟨rfl, ⟨m, rfl⟩⟩
            go_wp2_with fail
            refine (must_is d _ _ hD.out).mono ?_
            rintro e w' ⟨rfl, rfl⟩
            go_wp2_with fail
            go_ret2
            rw [hU.out]
            exact ⟨rfl, pw_below_drewN hb _⟩
          | true =>
            have hD := Lib.hid hd
            clear hd
            go_wp2_with fail
            refine (must_is _ _ _ hM.out).mono ?_
            rintro e w' ⟨rfl, rfl⟩
            go_wp2_with fail
            refine (read_yes_at s k d _ hR.out).mono ?_
            rintro e w' ⟨rfl, ⟨m, rfl⟩⟩
            go_wp2_with fail
            refine (must_is d _ _ hD.out).mono ?_
            rintro e w' ⟨rfl, rfl⟩
            go_wp2_with fail
            refine (Tryd.Builder_WriteByte _ _ _ _ _ (show Lib.IsBuilder 55 5 w.heap.size w.heap.size (Lib.byteCells acc) (wr.drewN m) from hI) (by omega) hsz).mono ?_
            rintro e w2 ⟨rfl, i2, b2⟩
            go_wp2_with fail
            go_roundw
            case rel =>
              refine ⟨k + 4, acc ++ [d], by omega, by go_num, by simp; omega, hL.out.coded hlt hM.out hR.out hD.out, .inr ?_, (pw_below_drewN hb m).trans b2⟩
              rw [Lib.byteCells_append]
              exact i2
            case measure => simp [intOf]; omega
    · have hU := Lib.hid (hL.out.done (by omega))
      go_wp2_with (go_at_call 38; refine (Tryd.Builder_String_any _ _ _ _ hI hsz).mono ?_; rintro e w2 ⟨rfl, b2⟩)
      go_wp2
      go_ret2
      rw [hU.out]
      exact ⟨rfl, hb.trans b2⟩

def octal_Unescape.f (a0 : ByteArray) : Option (ByteArray × Int) := if a0.size ≤ 140737488351232 then some (unRes (Oct.unescape a0.data.toList)) else none
theorem octal_Unescape.calls (a0 : ByteArray) (r1 : ByteArray) (r2 : Int) (w : World) (h : octal_Unescape.f a0 = some (r1, r2)) :
    Calls Tryd.prog 14 #[.string a0] w fun e w' => e = .returned (.tuple #[.string r1, .int .i64 r2]) ∧ Below w.heap.size w w' := by
  unfold octal_Unescape.f at h
  by_cases hs : a0.size ≤ 140737488351232
  · rw [if_pos hs] at h
    have e := Option.some.inj h
    have hc := unescape_calls a0 w hs
    unfold unVal at hc
    rw [e] at hc
    exact hc
  · rw [if_neg hs] at h
    cases h

end Go.Proofs.YtgbdeloefdhmlabDoor.Giv
