/- The program's plan.Parse, walked. No condition but what the function's own name says. -/
import Derived.Test.YtmpnkckaohfflaaDoorBody
import Derived.Test.YtmpnkckaohfflaaDoorShelf
namespace Go.Proofs.YtmpnkckaohfflaaDoor.PGiv
open Go.RowKit Go.Proofs.YtmpnkckaohfflaaDoorW.PrintWords Go.Proofs.YtmpnkckaohfflaaDoorW.PrintLast Go.Proofs.YtmpnkckaohfflaaDoorW.PrintMore Go.Proofs.YtmpnkckaohfflaaDoor.K Go.Proofs.YtmpnkckaohfflaaDoor.Num
set_option linter.unusedVariables false
set_option linter.unusedSimpArgs false

def hexD : ByteArray := ⟨#[48, 49, 50, 51, 52, 53, 54, 55, 56, 57, 97, 98, 99, 100, 101, 102]⟩
def hexAt (s : ByteArray) (i : Nat) : Bool := if h : i < s.size then decide (0 ≤ Lib.indexByte hexD.data.toList s[i]) else false
def hexTo (s : ByteArray) : Nat → Nat → Bool
  | 0, _ => true
  | k + 1, i => hexAt s i && hexTo s k (i + 1)
/-- what stands behind the sum, read -/
def tailF (s : ByteArray) : Option (List S45 × Int) := (bodyF (s.extract 5 s.size)).bind fun r => match r with
  | none => some ([], 50)
  | some L => (layout_Check.f L).bind fun e => if e = 0 then some (L, 0) else some ([], e)
def plan_Parse.f (s : ByteArray) : Option (List S45 × Int) :=
  if 2048 < s.size then some ([], 2) else if h : s.size < 5 then some ([], 50) else if s[4]'(by omega) ≠ 44 then some ([], 50) else if hexTo s 4 0 = false then some ([], 50)
  else (E.plan_Sum.f 200000 (s.extract 5 s.size)).bind fun n => (E.plan_four.f n).bind fun q => if (s.extract 0 4).toList = q.toList then tailF s else some ([], 51)
def ParsePost (w : World) (r1 : List S45) (r2 : Int) (e : Ending) (w' : World) : Prop := ∃ v0_ : Value, e = .returned (.tuple #[v0_, .int .i64 r2]) ∧ Kd.R k45 45 w' w.heap.size (fun _ => True) v0_ r1 ∧ Below w.heap.size w w'
theorem ParsePost.nil {w w' : World} {r2 : Int} {e : Ending} (he : e = .returned (.tuple #[.slice none 0 0, .int .i64 r2])) (hb : Below w.heap.size w w') : ParsePost w [] r2 e w' := ⟨_, he, Kd.R_nil _ _ _ _ _, hb⟩
set_option maxHeartbeats 16000000 in
set_option maxRecDepth 100000 in
theorem plan_Parse.calls (a0 : ByteArray) (r1 : List S45) (r2 : Int) (w : World) (HG : Aside0 (Glb w)) (h : plan_Parse.f a0 = some (r1, r2)) :
    Calls Tryd.prog 15 #[.string a0] w fun e w' => ParsePost w r1 r2 e w' := by
  unfold plan_Parse.f at h
  go_enter Tryd.func15, Tryd.ntmps15
  by_cases h1 : 2048 < a0.size
  · rw [if_pos h1] at h
    obtain ⟨rfl, rfl⟩ := Prod.mk.inj (Option.some.inj h)
    have d1 : decide ((2048 : Int) < (a0.size : Int)) = true := decide_eq_true (by omega)
    clear h
    go_wp2
    go_ret2
    exact ParsePost.nil rfl (Below.refl _ _)
  · rw [if_neg h1] at h
    have d1 : decide ((2048 : Int) < (a0.size : Int)) = false := decide_eq_false (by omega)
    by_cases h2 : a0.size < 5
    · rw [dif_pos h2] at h
      obtain ⟨rfl, rfl⟩ := Prod.mk.inj (Option.some.inj h)
      have d2 : decide ((a0.size : Int) < (5 : Int)) = true := decide_eq_true (by omega)
      clear h
      go_wp2
      go_ret2
      exact ParsePost.nil rfl (Below.refl _ _)
    · rw [dif_neg h2] at h
      have d2 : decide ((a0.size : Int) < (5 : Int)) = false := decide_eq_false (by omega)
      have h5 : 4 < a0.size := by omega
      by_cases h3 : a0[4]'h5 = 44
      · rw [if_neg (not_not_intro h3)] at h
        have d3 : (((a0[4]'h5).toNat : Int) != 44) = false := by rw [h3]; rfl
        have d4 : ((a0[4]'h5).toNat != 44) = false := by rw [h3]; rfl
        have HH := Lib.hid h
        clear h
        go_wp2
        obtain ⟨hb, hhb⟩ : ∃ hb : Bool, hexTo a0 4 0 = hb := ⟨_, rfl⟩
        rw [hhb] at HH
        have HHB := Lib.hid hhb
        clear hhb h3 d1 d2 d3 d4
        go_loopg [4] 4 (fun kq iv wr => ∃ i : Nat, iv = .int .i64 (i : Int) ∧ Aside0 (i + kq = 4) ∧ Aside0 (hexTo a0 kq i = hb) ∧ wr = w)
        case atStart => exact ⟨0, rfl, ⟨rfl⟩, ⟨HHB.out⟩, rfl⟩
        case round =>
          obtain ⟨i, rfl, RI, RH, hwr⟩ := hrel
          rw [hwr]
          clear hwr
          cases gk with
          | succ gk =>
            have hi4 : i < 4 := by have := RI.out; omega
            have his : i < a0.size := by omega
            have c1 : decide ((i : Int) < (4 : Int)) = true := decide_eq_true (by omega)
            have c2 : decide (i < 4) = true := decide_eq_true hi4
            have hRH := RH.out
            rw [hexTo] at hRH
            have IX := Tryd.strings_IndexByte hexD ((a0[i].toNat : Nat) : Int) w
            have hcv : ((a0[i].toNat : Nat) : Int).toNat.toUInt8 = a0[i] := by rw [Int.toNat_natCast]; exact UInt8.ofNat_toNat
            rw [hcv] at IX
            have hAt : hexAt a0 i = decide (0 ≤ Lib.indexByte hexD.data.toList a0[i]) := by rw [hexAt, dif_pos his]
            generalize hix : Lib.indexByte hexD.data.toList a0[i] = ix at IX hAt
            have IX := Lib.hid (show Calls Tryd.prog 29 #[.string ⟨#[48, 49, 50, 51, 52, 53, 54, 55, 56, 57, 97, 98, 99, 100, 101, 102]⟩, .int .u8 ((a0[i].toNat : Nat) : Int)] w (fun e w' => e = .returned (.int .i64 ix) ∧ w' = w) from IX)
            clear hcv hix
            by_cases hx : ix < 0
            · have hx' : decide (ix < 0) = true := decide_eq_true hx
              have hf : hb = false := by rw [hAt] at hRH; rw [← hRH]; simp; intro h; omega
              have HH1 := HH.out
              rw [if_pos hf] at HH1
              obtain ⟨e1, e2⟩ := Prod.mk.inj (Option.some.inj HH1)
              have E12 := Lib.hid (And.intro e1 e2)
              clear HH HH1 hRH hAt hx hf RH e1 e2
              go_wp2_with (go_at_call 29; refine (IX.out).mono ?_; rintro e w' ⟨rfl, hw⟩; rw [hw]; clear hw w')
              go_ret2
              rw [← E12.out.1, ← E12.out.2]
              exact ParsePost.nil rfl (Below.refl _ _)
            · have hx' : decide (ix < 0) = false := decide_eq_false hx
              have hf : hexTo a0 gk (i + 1) = hb := by rw [hAt, decide_eq_true (by omega : 0 ≤ ix)] at hRH; simpa using hRH
              have HF := Lib.hid hf
              clear hRH hAt hx hf RH
              go_wp2_with (go_at_call 29; refine (IX.out).mono ?_; rintro e w' ⟨rfl, hw⟩; rw [hw]; clear hw w')
              go_roundg gk
              case measure => omega
              case rel => exact ⟨i + 1, by push_cast; rfl, ⟨by have := RI.out; omega⟩, ⟨HF.out⟩, rfl⟩
          | zero =>
            have hi4 : i = 4 := RI.out
            subst hi4
            have hbt : hb = true := RH.out.symm
            subst hbt
            have HH1 := HH.out
            rw [if_neg (by simp)] at HH1
            obtain ⟨n, hn, HH1⟩ := Option.bind_eq_some_iff.1 HH1
            obtain ⟨q, hq, HH1⟩ := Option.bind_eq_some_iff.1 HH1
            have SU := Lib.hid (show ∀ W, Calls Tryd.prog 25 #[.string (a0.extract 5 a0.size)] W (fun e w' => e = .returned (.int .i64 n) ∧ Below W.heap.size W w') from fun W => (E.plan_Sum.calls 200000 (a0.extract 5 a0.size) n W hn).mono (by rintro e w' ⟨he, m, rfl⟩; exact ⟨he, pw_below_drewN (Below.refl _ _) m⟩))
            have FO := Lib.hid (show ∀ W, Calls Tryd.prog 24 #[.int .i64 n] W (fun e w' => e = .returned (.string q) ∧ Below W.heap.size W w') from fun W => E.plan_four.calls n q W hq)
            have HH2 := Lib.hid HH1
            clear HH HH1 hn hq RH RI
            have g1 : (0 ≤ (a0.size : Int)) = True := eq_true (by omega)
            have g2 : ((4 : Int) ≤ (a0.size : Int)) = True := eq_true (by omega)
            have g3 : ((5 : Int) ≤ (a0.size : Int)) = True := eq_true (by omega)
            have g4 : (4 ≤ a0.size) = True := eq_true (by omega)
            have g5 : (5 ≤ a0.size) = True := eq_true (by omega)
            go_wp2
            have BQ := Lib.hid (show Below w.heap.size w w.drew from (Below.refl _ _).drew)
            go_region_held3 (fun w' => True)
              (first | exact trivial)
              (first
                | (go_at_call 25
                   with_reducible refine (SU.out _).mono ?_
                   rintro e wn ⟨rfl, bn⟩
                   have BQ := Lib.hid (BQ.out.trans (bn.mono BQ.out.size))
                   clear bn)
                | (go_at_call 24
                   with_reducible refine (FO.out _).mono ?_
                   rintro e wn ⟨rfl, bn⟩
                   have BQ := Lib.hid (BQ.out.trans (bn.mono BQ.out.size))
                   clear bn))
            have hsz : (a0.extract 5 a0.size).size ≤ 1000000 := by rw [ByteArray.size_extract]; omega
            generalize hB : (!((a0.extract 0 4).toList == q.toList)) = bq
            cases bq with
            | false =>
              have hq : (a0.extract 0 4).toList = q.toList := by simpa using hB
              clear hB
              have HH3 := HH2.out
              rw [if_pos hq] at HH3
              obtain ⟨r, hr, HH3⟩ := Option.bind_eq_some_iff.1 HH3
              have BC := Lib.hid (body_calls (a0.extract 5 a0.size) r wn (Glb.below HG.out BQ.out) hsz hr)
              have HH4 := Lib.hid HH3
              clear HH2 HH3 hr hq hsz SU FO
              cases r with
              | none =>
                obtain ⟨e1, e2⟩ := Prod.mk.inj (Option.some.inj HH4.out)
                have E12 := Lib.hid (And.intro e1 e2)
                clear e1 e2 HH4
                go_wp2_with (go_at_call 30; refine (BC.out).mono ?_; rintro e wb ⟨rfl, hb⟩; have BB := Lib.hid (BQ.out.trans (hb.mono BQ.out.size)); clear hb)
                go_ret2
                rw [← E12.out.1, ← E12.out.2]
                exact ParsePost.nil rfl BB.out
              | some L =>
                obtain ⟨e, he, HH5⟩ := Option.bind_eq_some_iff.1 (show (layout_Check.f L).bind (fun e => if e = 0 then some (L, (0 : Int)) else some ([], e)) = some (r1, r2) from HH4.out)
                have HE := Lib.hid he
                have HH5 := Lib.hid HH5
                clear HH4 he
                go_wp2_with (go_at_call 30; refine (BC.out).mono ?_; rintro e' wb ⟨v, rfl, hR, hb⟩; obtain ⟨Av, cv, rfl, hlc, hC⟩ := Kd.R_reads hR; have BB := Lib.hid (BQ.out.trans (hb.mono BQ.out.size)); have RB := Lib.hid (Kd.R_lower hR BQ.out.size); have CK := Lib.hid (layout_Check.calls Av cv L e wb hC hlc HE.out); clear hb hR hC)
                by_cases e0 : e = 0
                · have HH6 := HH5.out
                  rw [if_pos e0] at HH6
                  obtain ⟨e1, e2⟩ := Prod.mk.inj (Option.some.inj HH6)
                  have E12 := Lib.hid (And.intro e1 e2)
                  clear e1 e2 HH5 HH6
                  subst e0
                  go_wp2_with (go_at_call 17; refine (CK.out).mono ?_; rintro e' wk ⟨rfl, hb⟩; have BK := Lib.hid (BB.out.trans (hb.mono BB.out.size)); have RK := Lib.hid (Kd.R_below RB.out hb); clear hb)
                  go_ret2
                  rw [← E12.out.1, ← E12.out.2]
                  exact ⟨_, rfl, RK.out, BK.out⟩
                · have HH6 := HH5.out
                  rw [if_neg e0] at HH6
                  obtain ⟨e1, e2⟩ := Prod.mk.inj (Option.some.inj HH6)
                  have E12 := Lib.hid (And.intro e1 e2)
                  have e0' : (e != 0) = true := bne_iff_ne.mpr e0
                  clear e1 e2 HH5 HH6 e0
                  go_wp2_with (go_at_call 17; refine (CK.out).mono ?_; rintro e' wk ⟨rfl, hb⟩; have BK := Lib.hid (BB.out.trans (hb.mono BB.out.size)); clear hb)
                  go_ret2
                  rw [← E12.out.1, ← E12.out.2]
                  exact ParsePost.nil rfl BK.out
            | true =>
              have hq : ¬ (a0.extract 0 4).toList = q.toList := by simpa using hB
              clear hB
              have HH3 := HH2.out
              rw [if_neg hq] at HH3
              obtain ⟨e1, e2⟩ := Prod.mk.inj (Option.some.inj HH3)
              have E12 := Lib.hid (And.intro e1 e2)
              clear HH2 HH3 hq e1 e2
              go_wp2
              go_ret2
              rw [← E12.out.1, ← E12.out.2]
              exact ParsePost.nil rfl BQ.out
      · rw [if_pos h3] at h
        obtain ⟨rfl, rfl⟩ := Prod.mk.inj (Option.some.inj h)
        have d3 : (((a0[4]'h5).toNat : Int) != 44) = true := bne_iff_ne.mpr (u8_ne h3 rfl)
        clear h
        go_wp2
        go_ret2
        exact ParsePost.nil rfl (Below.refl _ _)
end Go.Proofs.YtmpnkckaohfflaaDoor.PGiv
