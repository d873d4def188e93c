/- The program's layout.Check and plan.Text, walked. No condition but what the functions' own names say. -/
import Derived.Test.YtmpnkckaohfflaaDoorRead
import Derived.Test.YtmpnkckaohfflaaDoorCell
namespace Go.Proofs.YtmpnkckaohfflaaDoor.PGiv
open Go.RowKit Go.Proofs.YtmpnkckaohfflaaDoorW.PrintWords Go.Proofs.YtmpnkckaohfflaaDoorW.PrintLast Go.Proofs.YtmpnkckaohfflaaDoorW.PrintMore Go.Proofs.YtmpnkckaohfflaaDoor.K Go.Proofs.YtmpnkckaohfflaaDoor.Num
set_option linter.unusedVariables false
set_option linter.unusedSimpArgs false

abbrev Glb (w : World) : Prop := NGiv.Glb w
theorem Glb.below {w W : World} (h : Glb w) (hb : Below w.heap.size w W) : Glb W := NGiv.Glb.below h hb

def layout_Check.f (l0 : List S45) : Option Int := (readF l0).map fun r => if r.isSome then 0 else 40
set_option maxHeartbeats 4000000 in
theorem layout_Check.calls (A0 : Option Addr) (c0 : Nat) (l0 : List S45) (r : Int) (w : World) (hr0 : Kd.C k45 w A0 l0.length l0) (hc0 : l0.length ≤ c0) (h : layout_Check.f l0 = some r) :
    Calls Tryd.prog 17 #[.slice A0 l0.length c0] w fun e w' => e = .returned (.int .i64 r) ∧ Below w.heap.size w w' := by
  obtain ⟨t, ht, hr⟩ := Option.map_eq_some_iff.1 h
  have HR := Lib.hid (read_calls A0 c0 l0 t w hr0 hc0 ht)
  clear hr0 hc0 h
  go_enter Tryd.func17, Tryd.ntmps17
  go_wp2_with (go_at_call 33; refine (HR.out).mono ?_)
  cases t with
  | none =>
    rintro e w1 ⟨rfl, b1⟩
    have B1 := Lib.hid b1
    clear b1
    go_wp2
    go_ret
    exact ⟨by rw [← hr]; rfl, B1.out⟩
  | some t =>
    rintro e w1 ⟨v, rfl, m1, b1⟩
    obtain ⟨tp, bt, rfl, _⟩ := tree_value m1
    have B1 := Lib.hid b1
    clear b1 m1
    go_wp2
    go_ret
    exact ⟨by rw [← hr]; rfl, B1.out⟩

instance (n : Int) : Decidable (i64r n) := inferInstanceAs (Decidable (_ ∧ _))
instance (c : S45) : Decidable (okC c) := inferInstanceAs (Decidable (_ ∧ _ ∧ _ ∧ _ ∧ _))
/-- the text of a list that is a layout -/
def textF (l : List S45) : Option ByteArray := (cellF 1000 l 0).bind fun p => (E.plan_Sum.f 200000 ⟨p.1.toArray⟩).bind fun n => (E.plan_four.f n).bind fun q =>
  if (∀ c ∈ l, okC c) ∧ l.length ≤ 1000 ∧ p.1 ≠ [] ∧ p.1.length ≤ 100000 ∧ q.size ≤ 1000 then some (q ++ (⟨#[44]⟩ : ByteArray) ++ ⟨p.1.toArray⟩) else none
def plan_Text.f (l0 : List S45) : Option (ByteArray × Int) := (readF l0).bind fun r => if r.isSome then (textF l0).map fun t => (t, 0) else some (⟨#[]⟩, 40)

theorem wr_new (w : World) (sl : Value) : WrAt w.heap.size sl 0 [] (w.alloc (.cells #[sl, .int .i64 0, .pointer none, .slice none 0 0] 53 (0, 0))) :=
  ⟨_, _, .inl rfl, by show (w.heap.push _)[w.heap.size]? = _; simp, ⟨rfl, .inl ⟨rfl, rfl⟩⟩⟩
set_option maxHeartbeats 8000000 in
set_option maxRecDepth 100000 in
theorem plan_Text.calls (A0 : Option Addr) (c0 : Nat) (l0 : List S45) (r1 : ByteArray) (r2 : Int) (w : World) (HG : Aside0 (Glb w)) (hr0 : Kd.C k45 w A0 l0.length l0) (hc0 : l0.length ≤ c0) (h : plan_Text.f l0 = some (r1, r2)) :
    Calls Tryd.prog 11 #[.slice A0 l0.length c0] w fun e w' => e = .returned (.tuple #[.string r1, .int .i64 r2]) ∧ Below w.heap.size w w' := by
  obtain ⟨t, ht, h⟩ := Option.bind_eq_some_iff.1 h
  cases t with
  | none =>
    obtain ⟨rfl, rfl⟩ := Prod.mk.inj (Option.some.inj h)
    have CK := Lib.hid (layout_Check.calls A0 c0 l0 40 w hr0 hc0 (by rw [layout_Check.f, ht]; rfl))
    clear hr0 hc0 h HG
    go_enter Tryd.func11, Tryd.ntmps11
    go_wp2_with (go_at_call 17; refine (CK.out).mono ?_)
    rintro e w1 ⟨rfl, b1⟩
    have B1 := Lib.hid b1
    clear b1
    go_wp2
    go_ret2
    exact ⟨rfl, B1.out⟩
  | some t =>
    obtain ⟨u, hu, he⟩ := Option.map_eq_some_iff.1 (show (textF l0).map (fun t => (t, (0 : Int))) = some (r1, r2) from h)
    obtain ⟨rfl, rfl⟩ := Prod.mk.inj he
    obtain ⟨⟨s, j⟩, hs, hu⟩ := Option.bind_eq_some_iff.1 hu
    obtain ⟨n, hn, hu⟩ := Option.bind_eq_some_iff.1 hu
    obtain ⟨q, hq, hu⟩ := Option.bind_eq_some_iff.1 hu
    by_cases hc : (∀ c ∈ l0, okC c) ∧ l0.length ≤ 1000 ∧ s ≠ [] ∧ s.length ≤ 100000 ∧ q.size ≤ 1000
    case neg => rw [if_neg hc] at hu; cases hu
    rw [if_pos hc] at hu
    obtain rfl := Option.some.inj hu
    have CK := Lib.hid (layout_Check.calls A0 c0 l0 0 w hr0 hc0 (by rw [layout_Check.f, ht]; rfl))
    have HH := Lib.hid (And.intro hr0 (And.intro hc0 hc))
    have HS := Lib.hid (And.intro hs (And.intro hn hq))
    clear hr0 hc0 h he hu hs hn hq hc ht
    go_enter Tryd.func11, Tryd.ntmps11
    go_wp2_with (go_at_call 17; refine (CK.out).mono ?_; rintro e w1 ⟨rfl, b1⟩)
    have B1 := Lib.hid b1
    clear b1
    have WN := Lib.hid (wr_new w1 (.slice A0 l0.length c0))
    have BN := Lib.hid (show Below w1.heap.size w1 (w1.alloc (.cells #[.slice A0 l0.length c0, .int .i64 0, .pointer none, .slice none 0 0] 53 (0, 0))) from (Below.refl _ _).alloc (Nat.le_refl _) _)
    have CC := Lib.hid (cell_calls 1000 w1.heap.size A0 c0 l0 0 j [] s _ (fun W hW => ⟨Kd.C_below HH.out.1 (B1.out.trans ((BN.out.trans hW).mono B1.out.size)), Glb.below HG.out (B1.out.trans ((BN.out.trans hW).mono B1.out.size))⟩) HH.out.2.1 (by have := HH.out.2.2.2.1; omega) HH.out.2.2.1 WN.out HS.out.1 (by have := HH.out.2.2.2.2.2.1; simp; omega))
    go_wp2_with (go_at_call 22; refine (CC.out).mono ?_; rintro e w2 ⟨rfl, wt, b2, _⟩)
    have WT := Lib.hid (wtext _ _ _ _ w2 wt (by rw [List.nil_append]; exact HH.out.2.2.2.2.1))
    rw [List.nil_append] at WT
    obtain ⟨sb, hsb⟩ : ∃ sb : ByteArray, sb = ⟨s.toArray⟩ := ⟨_, rfl⟩
    rw [← hsb] at WT
    have HSB := Lib.hid hsb
    have hsu : E.plan_Sum.f 200000 sb = some n := by rw [hsb]; exact HS.out.2.1
    have hss : sb.size ≤ 100000 := by rw [hsb]; exact HH.out.2.2.2.2.2.1
    have HSU := Lib.hid hsu
    clear hsb hsu
    have B2 := Lib.hid (B1.out.trans ((BN.out.trans b2).mono B1.out.size))
    have hle : w.heap.size ≤ w1.heap.size := B1.out.size
    clear wt b2 CC WN BN
    go_wp2_with (go_at_call 23; refine (WT.out).mono ?_; rintro e w3 ⟨rfl, b3⟩)
    have B3 := Lib.hid (B2.out.trans (b3.mono hle))
    clear b3 WT B2
    have hqs := HH.out.2.2.2.2.2.2
    have g1 : q.size + 1 ≤ 9223372036854775807 := by omega
    have g2 : q.size + 1 + sb.size ≤ 9223372036854775807 := by omega
    have g3 : (q ++ (⟨#[44]⟩ : ByteArray)).size + sb.size ≤ 9223372036854775807 := by rw [ByteArray.size_append]; exact g2
    have n1 := eq_false (Nat.not_lt.2 g1)
    have n2 := eq_false (Nat.not_lt.2 g2)
    have n3 := eq_false (Nat.not_lt.2 g3)
    replace g1 := eq_true g1
    replace g2 := eq_true g2
    replace g3 := eq_true g3
    have SU := Lib.hid (E.plan_Sum.calls 200000 sb n w3 HSU.out)
    go_wp2_with (go_at_call 25; refine (SU.out).mono ?_; rintro e w4 ⟨rfl, ⟨m4, rfl⟩⟩)
    have FO := Lib.hid (E.plan_four.calls n q (w3.drewN m4) HS.out.2.2)
    go_wp2_with (go_at_call 24; refine (FO.out).mono ?_; rintro e w5 ⟨rfl, b5⟩)
    have B5 := Lib.hid ((pw_below_drewN B3.out m4).trans (b5.mono (Nat.le_trans B3.out.size (Nat.le_refl _))))
    go_ret2
    rw [← HSB.out]
    exact ⟨rfl, B5.out⟩
end Go.Proofs.YtmpnkckaohfflaaDoor.PGiv
