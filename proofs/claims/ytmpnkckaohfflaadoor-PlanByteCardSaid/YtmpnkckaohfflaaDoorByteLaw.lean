/- A text's bytes copied, one of them written: what the copy reads as, and its text. No condition. The law PlanByte's function, walked. No condition but what the functions' own names say. -/
import Derived.Test.YtmpnkckaohfflaaDoorTxt
import Derived.Lib.ConvBytes
import Derived.WalkKit
import Derived.Test.YtmpnkckaohfflaaDoorMa2
import Derived.Lib.Hide
namespace Go.Proofs.YtmpnkckaohfflaaDoor.Bs
open Go.RowKit Go.Proofs.YtmpnkckaohfflaaDoor.Txt Go.Proofs.YtmpnkckaohfflaaDoorW.PrintWords
set_option linter.unusedVariables false
set_option linter.unusedSimpArgs false

theorem cells_size (w : World) (e : TypeId) (s : ByteArray) : s.size ≤ (Lib.bytesCells w e s).size := by
  unfold Lib.bytesCells
  rw [Array.size_append, Array.size_map]
  exact Nat.le_add_right _ _
theorem free_at (w : World) (e : TypeId) (s : ByteArray) (j : Nat) (hj : j < s.size) : (Lib.bytesWorld w e s).frozen? ⟨w.heap.size, j, none⟩ = false := by
  have h := cells_size w e s
  unfold World.frozen?
  rw [Lib.bytesWorld_at_new]
  simp
  omega
theorem cell_at (w : World) (e : TypeId) (s : ByteArray) (j : Nat) (hj : j < s.size) : ∃ v, (Lib.bytesWorld w e s).cell? ⟨w.heap.size, j, none⟩ = some v := ⟨_, Lib.bytesWorld_cell w e s j hj⟩

/-- the world behind 'b := []byte(s); b[j] = u' -/
noncomputable def setWorld (w : World) (e : TypeId) (s : ByteArray) (j : Nat) (u : Int) : World := (Lib.bytesWorld w e s).setCell ⟨w.heap.size, j, none⟩ (.int .u8 u)
theorem set_below (w : World) (e : TypeId) (s : ByteArray) (j : Nat) (u : Int) : Below w.heap.size w (setWorld w e s j u) :=
  (bytes_below (Below.refl _ w) (Nat.le_refl _) e s).setCell (Nat.le_refl _) _
theorem set_reads (w : World) (e : TypeId) (s : ByteArray) (j : Nat) (hj : j < s.size) (hs : s.size ≤ 9223372036854775807) (u : Int) : ReadsInt (setWorld w e s j u) .u8 (some ⟨w.heap.size, 0, none⟩) s.size ((bytesOf s).set j u) := by
  refine ⟨by rw [List.length_set, bytesOf_length], hs, fun _ => ⟨_, rfl, fun i hi => ?_⟩⟩
  rw [add_plain]
  unfold setWorld
  by_cases e1 : i = j
  · subst e1
    rw [World.cell?_setCell_same _ _ _ (Lib.bytesWorld_cell w e s i hi)]
    simp [List.getD_eq_getElem?_getD, bytesOf_length, hi]
  · rw [World.cell?_setCell_other _ _ _ _ (by intro h; injection h with _ h2 _; exact e1 h2.symm)]
    rw [Lib.bytesWorld_cell w e s i hi]
    have h' : i < s.data.toList.length := by rw [data_length]; exact hi
    have e2 : ¬ j = i := fun h => e1 h.symm
    simp [bytesOf, List.getD_eq_getElem?_getD, List.getElem?_set, e2, List.getElem?_eq_getElem h']
theorem set_text (l : List UInt8) (j : Nat) (d : UInt8) : strOfNums ((bytesOf (S l)).set j (d.toNat : Int)) = S (l.set j d) := by
  have e : (bytesOf (S l)).set j (d.toNat : Int) = Txt.nums (l.set j d) := by
    unfold bytesOf Txt.nums
    rw [List.map_set]
  rw [e, S_nums]

end Go.Proofs.YtmpnkckaohfflaaDoor.Bs
namespace Go.Proofs.YtmpnkckaohfflaaDoor.PGiv
open Go.RowKit Go.Proofs.YtmpnkckaohfflaaDoorW.PrintWords Go.Proofs.YtmpnkckaohfflaaDoorW.PrintLast Go.Proofs.YtmpnkckaohfflaaDoorW.PrintMore Go.Proofs.YtmpnkckaohfflaaDoor.K Go.Proofs.YtmpnkckaohfflaaDoor.M
set_option linter.unusedVariables false
set_option linter.unusedSimpArgs false

set_option maxHeartbeats 4000000 in
set_option maxRecDepth 100000 in
theorem byte_out (k : Nat) (A0 : Option Addr) (c0 : Nat) (l0 : List S45) (p d : Int) (s : ByteArray) (e : Int) (w : World) (HG : Aside0 (Glb w)) (hr0 : Kd.C k45 w A0 l0.length l0) (hc0 : l0.length ≤ c0)
    (ht : plan_Text.f l0 = some (s, e)) (hs : s.size ≤ 9223372036854775807) (hsure : mullionlaw05_sure.f k = some true)
    (hcase : e ≠ 0 ∨ p < 0 ∨ (s.size : Int) ≤ p ∨ bt s p = d) :
    Calls Tryd.prog 7 #[.slice A0 l0.length c0, .int .i64 p, .int .u8 d] w fun e w' => e = .returned (.bool true) ∧ Below w.heap.size w w' := by
  have HR0 := Aside0.mk hr0
  have HC0 := Aside0.mk hc0
  have HT := Aside0.mk ht
  have HS := Aside0.mk hsure
  clear hr0 hc0 ht hsure
  have HB := Aside0.mk (Below.refl w.heap.size w)
  have fin : ∀ (w1 : World), Below w.heap.size w w1 → Calls Tryd.prog 14 #[] w1 fun e w' => e = .returned (.bool true) ∧ Below w.heap.size w w' := fun w1 hb => by
    refine (mullionlaw05_sure.calls k true w1 (Aside0.mk (Glb.below HG.out hb)) HS.out).mono ?_
    rintro e w2 ⟨rfl, b2⟩
    exact ⟨rfl, hb.trans (b2.mono hb.size)⟩
  have FIN := Lib.hid fin
  clear fin
  by_cases he : e = 0
  · subst he
    by_cases h0 : p < 0
    · have q0 : decide (p < 0) = true := decide_eq_true h0
      clear hcase h0
      go_enter Tryd.func7, Tryd.ntmps7
      go_wp2_with (first | (go_at_call 11; refine (plan_Text.calls A0 c0 l0 s _ _ (Aside0.mk HG.out) HR0.out HC0.out HT.out).mono ?_; rintro e w12 ⟨rfl, hb⟩; have B1 := Lib.hid hb; clear hb) | (go_at_call 14; refine (FIN.out _ B1.out).mono ?_; rintro e w2 ⟨rfl, b2⟩))
      go_ret
      exact ⟨rfl, b2⟩
    · have q0 : decide (p < 0) = false := decide_eq_false h0
      by_cases h1 : (s.size : Int) ≤ p
      · have q1 : decide ((s.size : Int) ≤ p) = true := decide_eq_true h1
        clear hcase h0 h1
        go_enter Tryd.func7, Tryd.ntmps7
        go_wp2_with (first | (go_at_call 11; refine (plan_Text.calls A0 c0 l0 s _ _ (Aside0.mk HG.out) HR0.out HC0.out HT.out).mono ?_; rintro e w12 ⟨rfl, hb⟩; have B1 := Lib.hid hb; clear hb) | (go_at_call 14; refine (FIN.out _ B1.out).mono ?_; rintro e w2 ⟨rfl, b2⟩))
        go_ret
        exact ⟨rfl, b2⟩
      · have q1 : decide ((s.size : Int) ≤ p) = false := decide_eq_false h1
        have q2 : (bt s p == d) = true := by
          have : bt s p = d := by
            rcases hcase with h | h | h | h
            · exact absurd rfl h
            · omega
            · omega
            · exact h
          rw [this]
          exact beq_self_eq_true _
        have hx := bt_at s p
        have hp' := eq_true (show 0 ≤ p by omega)
        have hq' := eq_true (show p < (s.size : Int) by omega)
        clear hcase h0 h1
        go_enter Tryd.func7, Tryd.ntmps7
        go_wp2_with (first | (go_at_call 11; refine (plan_Text.calls A0 c0 l0 s _ _ (Aside0.mk HG.out) HR0.out HC0.out HT.out).mono ?_; rintro e w12 ⟨rfl, hb⟩; have B1 := Lib.hid hb; clear hb) | (go_at_call 14; refine (FIN.out _ B1.out).mono ?_; rintro e w2 ⟨rfl, b2⟩))
        go_ret
        exact ⟨rfl, b2⟩
  · have q0 : (e != 0) = true := by simpa using he
    clear hcase he
    go_enter Tryd.func7, Tryd.ntmps7
    go_wp2_with (first | (go_at_call 11; refine (plan_Text.calls A0 c0 l0 s _ _ (Aside0.mk HG.out) HR0.out HC0.out HT.out).mono ?_; rintro e w12 ⟨rfl, hb⟩; have B1 := Lib.hid hb; clear hb) | (go_at_call 14; refine (FIN.out _ B1.out).mono ?_; rintro e w2 ⟨rfl, b2⟩))
    go_ret
    exact ⟨rfl, b2⟩

set_option maxHeartbeats 4000000 in
set_option maxRecDepth 100000 in
theorem byte_turned (k : Nat) (A0 : Option Addr) (c0 : Nat) (l0 : List S45) (p d : Int) (s s2 : ByteArray) (g : Int) (w : World) (HG : Aside0 (Glb w)) (hr0 : Kd.C k45 w A0 l0.length l0) (hc0 : l0.length ≤ c0)
    (ht : plan_Text.f l0 = some (s, 0)) (hs : s.size ≤ 9223372036854775807) (hp : 0 ≤ p) (hq : p < (s.size : Int)) (hne : bt s p ≠ d) (hs2 : strOfNums ((bytesOf s).set p.toNat d) = s2)
    (h1 : plan_Parse.f s2 = some ([], g)) (hg : g ≠ 0) (h2 : plan_Parse.f s = some (l0, 0)) (hsame : mullionlaw05_same.f k l0 l0 = some true) :
    Calls Tryd.prog 7 #[.slice A0 l0.length c0, .int .i64 p, .int .u8 d] w fun e w' => e = .returned (.bool true) ∧ Below w.heap.size w w' := by
  have HR0 := Aside0.mk hr0
  have HC0 := Aside0.mk hc0
  have HT := Aside0.mk ht
  have HS2 := Aside0.mk hs2
  have HP1 := Aside0.mk h1
  have HP2 := Aside0.mk h2
  have HSM := Aside0.mk hsame
  clear hr0 hc0 ht h1 h2 hsame hs2
  have HB := Aside0.mk (Below.refl w.heap.size w)
  have q0 : decide (p < 0) = false := decide_eq_false (by omega)
  have q1 : decide ((s.size : Int) ≤ p) = false := decide_eq_false (by omega)
  have q2 : (bt s p == d) = false := by simpa using hne
  have q3 : (g != 0) = true := by simpa using hg
  have hx := bt_at s p
  have hj : p.toNat < s.size := by omega
  have hp' := eq_true hp
  have hq' := eq_true hq
  clear hp hq hne hg
  have kb := fun W => print_bytes (P := Tryd.prog) 9 37 5 Tryd.underlying9 Tryd.underlying37 Tryd.underlying5 s W
  go_enter Tryd.func7, Tryd.ntmps7
  go_wp2_with fail
  refine (plan_Text.calls A0 c0 l0 s _ _ (Aside0.mk HG.out) HR0.out HC0.out HT.out).mono ?_
  rintro e w1 ⟨rfl, b1⟩
  have B1 := Lib.hid b1
  clear b1
  obtain ⟨v0, kc⟩ := Bs.cell_at w1 5 s p.toNat hj
  have kf := Bs.free_at w1 5 s p.toNat hj
  have kr := Bs.set_reads w1 5 s p.toNat hj hs d
  have kt := fun c => string_of_reads (P := Tryd.prog) (c := c) Tryd.underlying37 Tryd.underlying5 Tryd.underlying9 kr
  rw [HS2.out] at kt
  unfold Bs.setWorld at kt
  clear kr
  have hB := Bs.set_below w1 5 s p.toNat d
  unfold Bs.setWorld at hB
  have B2 := Lib.hid (show Below w.heap.size w ((Lib.bytesWorld w1 5 s).setCell ⟨w1.heap.size, p.toNat, none⟩ (.int .u8 d)) from B1.out.trans (hB.mono B1.out.size))
  clear hB
  go_wp2_with fail
  clear kc kf kt kb hx hp' hq'
  generalize (Lib.bytesWorld w1 5 s).setCell ⟨w1.heap.size, p.toNat, none⟩ (.int .u8 d) = W1 at B2 ⊢
  refine (plan_Parse.calls s2 [] g W1 (Aside0.mk (Glb.below HG.out B2.out)) HP1.out).mono ?_
  rintro e w2 ⟨v2, rfl, ho2, b2⟩
  have B3 := Lib.hid (B2.out.trans (b2.mono B2.out.size))
  obtain ⟨Ao2, co2, eo2⟩ := Kd.R_slice ho2
  subst eo2
  clear ho2 b2 B2
  go_wp2_with fail
  refine (plan_Parse.calls s l0 0 w2 (Aside0.mk (Glb.below HG.out B3.out)) HP2.out).mono ?_
  rintro e w3 ⟨v3, rfl, ho3, b3⟩
  have B4 := Lib.hid (B3.out.trans (b3.mono B3.out.size))
  obtain ⟨Ao3, co3, eo3⟩ := Kd.R_slice ho3
  subst eo3
  have RD := Lib.hid (Kd.R_reads' ho3)
  have HR4 := Lib.hid (Kd.C_below HR0.out B4.out)
  clear ho3 b3 B3
  go_wp2_with fail
  refine (mullionlaw05_same.calls k _ _ l0 _ _ l0 true w3 RD.out.2.2 RD.out.2.1 HR4.out HC0.out HSM.out).mono ?_
  rintro e w4 ⟨rfl, ⟨m4, rfl⟩⟩
  have B5 := Lib.hid (pw_below_drewN B4.out m4)
  go_wp2_with fail
  go_ret
  exact ⟨rfl, B5.out⟩
end Go.Proofs.YtmpnkckaohfflaaDoor.PGiv
