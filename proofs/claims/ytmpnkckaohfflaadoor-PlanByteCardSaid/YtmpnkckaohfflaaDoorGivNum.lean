/- The program's PutNumber and Number, walked over the library's contracts on strconv. Condition: the table of tens and the two errors lie as the library lays them; a text of at most 2^48 bytes. -/
import Derived.Test.YtmpnkckaohfflaaDoorShelf
import Derived.Test.YtmpnkckaohfflaaDoorWMore
import Derived.WalkKit
import Derived.WalkSmall
import Derived.BigCall
import Derived.Lib.Hide
import Derived.Lib.AtoiAllCases
import Derived.Lib.AtoiErrMem
import Derived.Lib.LaidTab
import Derived.Lib.SmallJoins
import Derived.Lib.AppendIntMem
namespace Go.Proofs.YtmpnkckaohfflaaDoor.Num
/-- what PutNumber writes -/
def putNum (n : Int) : List UInt8 := if n < 0 ∨ 4611686018427387904 < n then [] else Lib.itoa n
/-- what Number reads -/
def numOf (l : List UInt8) : Int × Bool :=
  match Lib.atoiAll l with
  | .ok v => if v < 0 then (0, false) else if l = putNum v then (v, true) else (0, false)
  | _ => (0, false)
theorem putNum_out (n : Int) (h : n < 0 ∨ 4611686018427387904 < n) : putNum n = [] := if_pos h
theorem putNum_in (n : Int) (h0 : 0 ≤ n) (h1 : n ≤ 4611686018427387904) : putNum n = Lib.itoa n := if_neg (by omega)
theorem numOf_ok {l : List UInt8} {v : Int} (h : Lib.atoiAll l = .ok v) : numOf l = if v < 0 then (0, false) else if l = putNum v then (v, true) else (0, false) := by
  unfold numOf
  rw [h]
theorem numOf_bad {l : List UInt8} (h : ∀ v, Lib.atoiAll l ≠ .ok v) : numOf l = (0, false) := by
  unfold numOf
  split
  · rename_i v hv
    exact absurd hv (h v)
  · rfl
end Go.Proofs.YtmpnkckaohfflaaDoor.Num
namespace Go.Proofs.YtmpnkckaohfflaaDoor.NGiv
open Go.RowKit Go.Proofs.YtmpnkckaohfflaaDoor.Num Go.Proofs.YtmpnkckaohfflaaDoorW.PrintWords
set_option linter.unusedVariables false
set_option linter.unusedSimpArgs false

theorem gTen : Tryd.prog.globalNamed "internal/strconv.uint64pow10" = some 1 := by kernel_rfl
theorem gRng : Tryd.prog.globalNamed "strconv.ErrRange" = some 3 := by kernel_rfl
theorem gSyn : Tryd.prog.globalNamed "strconv.ErrSyntax" = some 2 := by kernel_rfl

/-- what is known of the library's variables: the table of tens, the two errors -/
structure Glb (w : World) : Prop where
  ten : Lib.TabIs Tryd.prog w "internal/strconv.uint64pow10" .u64 Lib.pow10Tab
  rng : ∃ tp p, w.var? Tryd.prog "strconv.ErrRange" = some #[.iface tp p]
  syn : ∃ tp p, w.var? Tryd.prog "strconv.ErrSyntax" = some #[.iface tp p]
theorem Glb.below {w W : World} (h : Glb w) (hb : Below w.heap.size w W) : Glb W := by
  obtain ⟨h1, ⟨a, b, h2⟩, ⟨c, d, h3⟩⟩ := h
  exact ⟨Joins.tab_stays gTen h1 hb (Nat.le_refl _), ⟨a, b, Joins.var_stays gRng h2 hb (Nat.le_refl _)⟩, ⟨c, d, Joins.var_stays gSyn h3 hb (Nat.le_refl _)⟩⟩

theorem itoa_calls (n : Int) (h0 : -9223372036854775808 ≤ n) (h1 : n ≤ 9223372036854775807) (w : World) (HG : Glb w) :
    Calls Tryd.prog 62 #[.int .i64 n] w fun e w' => e = .returned (.string ⟨(Lib.itoa n).toArray⟩) ∧ Below w.heap.size w w' := by
  refine (Tryd.strconv_Itoa n h0 h1 w HG.ten).mono ?_
  rintro e w' ⟨rfl, k, os, rfl⟩
  exact ⟨rfl, Lib.below_grow _ _ (Nat.le_refl _) _ _⟩

set_option maxRecDepth 100000 in
theorem put_calls (n : Int) (h0 : -9223372036854775808 ≤ n) (h1 : n ≤ 9223372036854775807) (w : World) (HG : Glb w) :
    Calls Tryd.prog 38 #[.int .i64 n] w fun e w' => e = .returned (.string ⟨(putNum n).toArray⟩) ∧ Below w.heap.size w w' := by
  have G := Lib.hid HG
  clear HG
  go_enter Tryd.func38, Tryd.ntmps38
  by_cases a : n < 0
  · go_wp2
    go_ret
    rw [putNum_out n (.inl a)]
    exact ⟨rfl, Below.refl _ _⟩
  · by_cases b : 4611686018427387904 < n
    · go_wp2
      go_ret
      rw [putNum_out n (.inr b)]
      exact ⟨rfl, Below.refl _ _⟩
    · go_wp2_with (go_at_call 62; refine (itoa_calls n h0 h1 _ G.out).mono ?_; rintro e w' ⟨rfl, hb⟩)
      go_wp2
      go_ret
      rw [putNum_in n (by omega) (by omega)]
      exact ⟨rfl, hb⟩

theorem atoi_calls (s : ByteArray) (hs : s.size ≤ 281474976710656) (w : World) (HG : Glb w) :
    Calls Tryd.prog 76 #[.string s] w fun e w' => (∃ v, Lib.atoiAll s.data.toList = .ok v ∧ e = .returned (.tuple #[.int .i64 v, .nilIface]) ∧ Below w.heap.size w w') ∨ (∃ v tp p, numOf s.data.toList = (0, false) ∧ e = .returned (.tuple #[.int .i64 v, .iface tp p]) ∧ Below w.heap.size w w') := by
  obtain ⟨h1, ⟨a, b, h2⟩, ⟨c, d, h3⟩⟩ := HG
  cases h : Lib.atoiAll s.data.toList with
  | ok v =>
    refine (Tryd.strconv_Atoi_ok s (by omega) v h w).mono ?_
    rintro e w' ⟨rfl, hw⟩
    refine .inl ⟨v, rfl, rfl, ?_⟩
    rcases hw with rfl | ⟨t, rfl⟩
    · exact Below.refl _ _
    · exact Lib.bytesWorld_below _ _ _
  | range =>
    refine (Tryd.strconv_Atoi_range_var s hs h a b w h2).mono ?_
    rintro e w' ⟨N, rfl, -, -, hb⟩
    exact .inr ⟨_, _, _, numOf_bad (fun v e => by rw [h] at e; cases e), rfl, hb⟩
  | _ =>
    refine (Tryd.strconv_Atoi_syntax_var s hs h c d w h3).mono ?_
    rintro e w' ⟨N, rfl, -, -, hb⟩
    exact .inr ⟨_, _, _, numOf_bad (fun v e => by rw [h] at e; cases e), rfl, hb⟩

set_option maxRecDepth 100000 in
theorem number_calls (s : ByteArray) (hs : s.size ≤ 281474976710656) (w : World) (HG : Glb w) :
    Calls Tryd.prog 74 #[.string s] w fun e w' => e = .returned (.tuple #[.int .i64 (numOf s.data.toList).1, .bool (numOf s.data.toList).2]) ∧ Below w.heap.size w w' := by
  have G := Lib.hid HG
  have GB := Lib.hid (fun W hb => Glb.below (W := W) HG hb)
  clear HG
  go_enter Tryd.func74, Tryd.ntmps74
  go_wp2_with (go_at_call 76; refine (atoi_calls s hs _ G.out).mono ?_)
  rintro e w1 (⟨v, hv, rfl, b1⟩ | ⟨v, tp, p, hv, rfl, b1⟩)
  · have hr := Lib.hid (numOf_ok hv)
    have hb := Lib.atoiAll_bounds hv
    clear hv
    by_cases a : v < 0
    · go_wp2
      go_ret2
      rw [hr.out, if_pos a]
      exact ⟨rfl, b1⟩
    · go_wp2_with (go_at_call 38; refine (put_calls v hb.1 hb.2 _ (GB.out _ b1)).mono ?_; rintro e w2 ⟨rfl, b2⟩)
      · rename_i hc
        have hn : ¬ s.data.toList = putNum v := by
          intro e
          have hx : 0 ≤ v := by omega
          simp [Lib.toList_data, e, hx] at hc
          omega
        go_ret2
        rw [hr.out, if_neg (by omega), if_neg hn]
        exact ⟨rfl, b1.trans (b2.mono b1.size)⟩
      · rename_i hc
        have hn : s.data.toList = putNum v := by
          have := hc.2
          simpa [Lib.toList_data] using this
        go_ret2
        rw [hr.out, if_neg (by omega), if_pos hn]
        exact ⟨rfl, b1.trans (b2.mono b1.size)⟩
  · go_wp2
    go_ret2
    rw [hv]
    exact ⟨rfl, b1⟩

def octal_PutNumber.f (a0 : Int) : Option ByteArray := if -9223372036854775808 ≤ a0 ∧ a0 ≤ 9223372036854775807 then some ⟨(putNum a0).toArray⟩ else none
theorem octal_PutNumber.calls (a0 : Int) (r : ByteArray) (w : World) (HG : Aside0 (Glb w)) (h : octal_PutNumber.f a0 = some r) :
    Calls Tryd.prog 38 #[.int .i64 a0] w fun e w' => e = .returned (.string r) ∧ Below w.heap.size w w' := by
  unfold octal_PutNumber.f at h
  by_cases hs : -9223372036854775808 ≤ a0 ∧ a0 ≤ 9223372036854775807
  · rw [if_pos hs] at h
    obtain rfl := Option.some.inj h
    exact put_calls a0 hs.1 hs.2 w HG.out
  · rw [if_neg hs] at h
    cases h
def octal_Number.f (a0 : ByteArray) : Option (Int × Bool) := if a0.size ≤ 281474976710656 then some (numOf a0.data.toList) else none
theorem octal_Number.calls (a0 : ByteArray) (r1 : Int) (r2 : Bool) (w : World) (HG : Aside0 (Glb w)) (h : octal_Number.f a0 = some (r1, r2)) :
    Calls Tryd.prog 74 #[.string a0] w fun e w' => e = .returned (.tuple #[.int .i64 r1, .bool r2]) ∧ Below w.heap.size w w' := by
  unfold octal_Number.f at h
  by_cases hs : a0.size ≤ 281474976710656
  · rw [if_pos hs] at h
    have e := Option.some.inj h
    have := number_calls a0 hs w HG.out
    rw [e] at this
    exact this
  · rw [if_neg hs] at h
    cases h
def strconv_Itoa_62.f (a0 : Int) : Option ByteArray := if -9223372036854775808 ≤ a0 ∧ a0 ≤ 9223372036854775807 then some ⟨(Lib.itoa a0).toArray⟩ else none
theorem strconv_Itoa_62.calls (a0 : Int) (r : ByteArray) (w : World) (HG : Aside0 (Glb w)) (h : strconv_Itoa_62.f a0 = some r) :
    Calls Tryd.prog 62 #[.int .i64 a0] w fun e w' => e = .returned (.string r) ∧ Below w.heap.size w w' := by
  unfold strconv_Itoa_62.f at h
  by_cases hs : -9223372036854775808 ≤ a0 ∧ a0 ≤ 9223372036854775807
  · rw [if_pos hs] at h
    obtain rfl := Option.some.inj h
    exact itoa_calls a0 hs.1 hs.2 w HG.out
  · rw [if_neg hs] at h
    cases h
end Go.Proofs.YtmpnkckaohfflaaDoor.NGiv
