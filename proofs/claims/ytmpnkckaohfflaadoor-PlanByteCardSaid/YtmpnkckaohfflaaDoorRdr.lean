/- The program's reader of a plan's body, walked: give, next, must, number: what they read, or that they give up. No condition but the text's length. -/
import Derived.Test.YtmpnkckaohfflaaDoorText
import Derived.Defers
import Derived.Recover
import Derived.Deep.RegionHeld3
import Derived.Deep.QuietTactic
import Derived.BigQuiet
namespace Go.Proofs.YtmpnkckaohfflaaDoor.PGiv
open Go.RowKit Go.Proofs.YtmpnkckaohfflaaDoorW.PrintWords Go.Proofs.YtmpnkckaohfflaaDoorW.PrintLast Go.Proofs.YtmpnkckaohfflaaDoorW.PrintMore Go.Proofs.YtmpnkckaohfflaaDoor.K Go.Proofs.YtmpnkckaohfflaaDoor.Num
set_option linter.unusedVariables false
set_option linter.unusedSimpArgs false

/-- what give gives up with -/
abbrev brokenV : Value := .iface 88 (.agg #[])
def Brk (b : Nat) (w : World) (e : Ending) (w' : World) : Prop := e = .panicked [{ v := brokenV, recovered := false }] ∧ Below b w w'
theorem give_calls (a : Option Addr) (w : World) : Calls Tryd.prog 45 #[.pointer a] w fun e w' => e = .panicked [{ v := brokenV, recovered := false }] ∧ w' = w := by
  go_enter Tryd.func45, Tryd.ntmps45
  go_wp2
  exact ⟨rfl, rfl, rfl⟩

/-- a reader's block: the text, the place, the list -/
def RdBlk (b : Nat) (s : ByteArray) (n : Int) (sl : Value) (w : World) : Prop := w.heap[b]? = some (.cells #[.string s, .int .i64 n, sl] 86 (0, 0))
/-- only the reader's block may have turned -/
def Fr (b : Nat) (w w' : World) : Prop := Below b w w' ∧ ∀ k, k ≠ b → k < w.heap.size → w'.heap[k]? = w.heap[k]?
theorem Fr.refl (b : Nat) (w : World) : Fr b w w := ⟨Below.refl _ _, fun _ _ _ => rfl⟩
theorem Fr.trans {b : Nat} {w1 w2 w3 : World} (h : Fr b w1 w2) (k : Fr b w2 w3) : Fr b w1 w3 := ⟨h.1.trans k.1, fun i hi hl => (k.2 i hi (Nat.lt_of_lt_of_le hl h.1.size)).trans (h.2 i hi hl)⟩
theorem Fr.below {b : Nat} {w w' : World} (hb : b ≤ w.heap.size) (h : Below w.heap.size w w') : Fr b w w' := ⟨h.mono hb, fun k _ hk => h.block k hk⟩
theorem Fr.drewN (b : Nat) (w : World) (n : Nat) : Fr b w (w.drewN n) := ⟨pw_below_drewN (Below.refl _ _) n, fun _ _ _ => rfl⟩
theorem Fr.set {b : Nat} {w w' : World} (h : Fr b w w') (j : Nat) (v : Value) : Fr b w (w'.setCell ⟨b, j, none⟩ v) := ⟨h.1.setCell (p := ⟨b, j, none⟩) (Nat.le_refl _) _, fun k hk hl => (Below.heap_setCell _ _ _ k hk).trans (h.2 k hk hl)⟩
def rdNext (s : ByteArray) (a : Nat) : Option (UInt8 × Nat) := if h : a < s.size then some (s[a], a + 1) else none
def NextPost (b : Nat) (s : ByteArray) (sl : Value) (r : Option (UInt8 × Nat)) (w : World) (e : Ending) (w' : World) : Prop :=
  match r with
  | none => Brk b w e w'
  | some (c, a') => e = .returned (.int .u8 c.toNat) ∧ RdBlk b s a' sl w' ∧ Fr b w w'
set_option maxHeartbeats 2000000 in
set_option maxRecDepth 100000 in
theorem next_calls (b : Nat) (s : ByteArray) (a : Nat) (sl : Value) (w : World) (h : RdBlk b s a sl w) (hs : s.size ≤ 1000000) :
    Calls Tryd.prog 66 #[.pointer (some ⟨b, 0, none⟩)] w fun e w' => NextPost b s sl (rdNext s a) w e w' := by
  have h0 : w.cell? ⟨b, 0, none⟩ = some (.string s) := (blk_cell h 0).trans rfl
  have h1 : w.cell? ⟨b, 1, none⟩ = some (.int .i64 a) := (blk_cell h 1).trans rfl
  have HB := Lib.hid h
  clear h
  unfold rdNext
  go_enter Tryd.func66, Tryd.ntmps66
  by_cases ha : a < s.size
  · rw [dif_pos ha]
    have d1 : decide ((s.size : Int) ≤ (a : Int)) = false := decide_eq_false (by omega)
    go_wp2
    go_quiet (fail)
    generalize hq : w.drewN nq = wq
    have HQ := Lib.hid (show RdBlk b s a sl wq by rw [← hq]; exact HB.out)
    have FQ := Lib.hid (show Fr b w wq by rw [← hq]; exact Fr.drewN _ _ _)
    have q1 : wq.cell? ⟨b, 1, none⟩ = some (.int .i64 a) := (blk_cell HQ.out 1).trans rfl
    have f1 : wq.frozen? ⟨b, 1, none⟩ = false := blk_frozen HQ.out 1
    clear hq h0 h1
    go_wp2
    have HS := Lib.hid (show RdBlk b s ((a : Int) + 1) sl (wq.setCell ⟨b, 1, none⟩ (.int .i64 ((a : Int) + 1))) from blk_put HQ.out 1 _ rfl)
    have FS := Lib.hid (FQ.out.set 1 (.int .i64 ((a : Int) + 1)))
    generalize wq.setCell ⟨b, 1, none⟩ (.int .i64 ((a : Int) + 1)) = ws at HS FS ⊢
    have s0 : ws.cell? ⟨b, 0, none⟩ = some (.string s) := (blk_cell HS.out 0).trans rfl
    have s1 : ws.cell? ⟨b, 1, none⟩ = some (.int .i64 ((a : Int) + 1)) := (blk_cell HS.out 1).trans rfl
    clear q1 f1
    go_quiet (fail)
    go_wp2
    go_ret
    exact ⟨rfl, by have h := HS.out; rw [show (a : Int) + 1 = ((a + 1 : Nat) : Int) by omega] at h; exact h, FS.out.trans (Fr.drewN _ _ _)⟩
  · rw [dif_neg ha]
    have d1 : decide ((s.size : Int) ≤ (a : Int)) = true := decide_eq_true (by omega)
    go_wp2
    go_quiet (fail)
    go_wp2_with (go_at_call 45; refine (give_calls _ _).mono ?_; rintro e w' ⟨rfl, hw⟩; rw [hw]; clear hw w')
    exact ⟨rfl, rfl, pw_below_drewN (Below.refl _ _) _⟩

def rdMust (s : ByteArray) (a : Nat) (c : UInt8) : Option Nat := match rdNext s a with | none => none | some (d, a') => if d = c then some a' else none
def MustPost (b : Nat) (s : ByteArray) (sl : Value) (r : Option Nat) (w : World) (e : Ending) (w' : World) : Prop :=
  match r with
  | none => Brk b w e w'
  | some a' => e = .returned (.tuple #[]) ∧ RdBlk b s a' sl w' ∧ Fr b w w'
set_option maxHeartbeats 2000000 in
set_option maxRecDepth 100000 in
theorem must_calls (b : Nat) (s : ByteArray) (a : Nat) (sl : Value) (c : UInt8) (ci : Int) (hci : (c.toNat : Int) = ci) (w : World) (h : RdBlk b s a sl w) (hs : s.size ≤ 1000000) :
    Calls Tryd.prog 65 #[.pointer (some ⟨b, 0, none⟩), .int .u8 ci] w fun e w' => MustPost b s sl (rdMust s a c) w e w' := by
  subst hci
  have NX := Lib.hid (next_calls b s a sl w h hs)
  unfold rdMust
  go_enter Tryd.func65, Tryd.ntmps65
  cases hx : rdNext s a with
  | none =>
    rw [hx] at NX
    go_wp2_with (go_at_call 66; refine (NX.out).mono ?_; rintro e w' ⟨rfl, hb⟩)
    exact ⟨rfl, rfl, hb⟩
  | some r =>
    obtain ⟨d, a'⟩ := r
    rw [hx] at NX
    by_cases hd : d = c
    · have hd' : ((d.toNat : Int) != (c.toNat : Int)) = false := by rw [hd]; simp
      have hd2 : (d.toNat != c.toNat) = false := by rw [hd]; simp
      simp only [if_pos hd]
      clear hd hx
      go_wp2_with (go_at_call 66; refine (NX.out).mono ?_; rintro e w' ⟨rfl, hb, hf⟩)
      first | go_end0 | refine bodyPost_ret (results_none rfl _ _ _) rfl ?_
      exact ⟨rfl, hb, hf⟩
    · have hne : d.toNat ≠ c.toNat := fun e => hd (UInt8.toNat_inj.1 e)
      have hd' : ((d.toNat : Int) != (c.toNat : Int)) = true := bne_iff_ne.mpr (by omega)
      have hd2 : (d.toNat != c.toNat) = true := bne_iff_ne.mpr hne
      simp only [if_neg hd]
      clear hd hx hne
      go_wp2_with (first | (go_at_call 66; refine (NX.out).mono ?_; rintro e w' ⟨rfl, hb, hf⟩) | (go_at_call 45; refine (give_calls _ _).mono ?_; rintro e w'' ⟨rfl, hw⟩; rw [hw]; clear hw w''))
      exact ⟨rfl, rfl, hf.1⟩

/-- where the digits end -/
def digEnd : Nat → ByteArray → Nat → Nat
  | 0, _, a => a
  | k + 1, s, a => if h : a < s.size then (if 48 ≤ s[a].toNat ∧ s[a].toNat ≤ 57 then digEnd k s (a + 1) else a) else a
theorem digEnd_le (s : ByteArray) : ∀ k a, a ≤ s.size → a ≤ digEnd k s a ∧ digEnd k s a ≤ s.size
  | 0, a, h => ⟨Nat.le_refl _, h⟩
  | k + 1, a, h => by
    rw [digEnd]
    split
    · split
      · have := digEnd_le s k (a + 1) (by omega)
        omega
      · exact ⟨Nat.le_refl _, h⟩
    · exact ⟨Nat.le_refl _, h⟩
def rdNumber (s : ByteArray) (a : Nat) : Option (Int × Nat) := if (numOf (s.extract a (digEnd (s.size - a) s a)).data.toList).2 = true then some ((numOf (s.extract a (digEnd (s.size - a) s a)).data.toList).1, digEnd (s.size - a) s a) else none
def NumPost (b : Nat) (s : ByteArray) (sl : Value) (r : Option (Int × Nat)) (w : World) (e : Ending) (w' : World) : Prop :=
  match r with
  | none => Brk b w e w'
  | some (n, a') => e = .returned (.int .i64 n) ∧ RdBlk b s a' sl w' ∧ Fr b w w'
set_option maxHeartbeats 8000000 in
set_option maxRecDepth 100000 in
theorem rdnumber_calls (b : Nat) (s : ByteArray) (a : Nat) (sl : Value) (w : World) (h : RdBlk b s a sl w) (hs : s.size ≤ 1000000) (ha : a ≤ s.size) (HG : ∀ W, Below b w W → Glb W) :
    Calls Tryd.prog 64 #[.pointer (some ⟨b, 0, none⟩)] w fun e w' => NumPost b s sl (rdNumber s a) w e w' := by
  have h1 : w.cell? ⟨b, 1, none⟩ = some (.int .i64 a) := (blk_cell h 1).trans rfl
  have HB := Lib.hid h
  have HG := Lib.hid HG
  unfold rdNumber
  generalize hE : digEnd (s.size - a) s a = E
  have hE2 := digEnd_le s (s.size - a) a ha
  rw [hE] at hE2
  have HE := Lib.hid hE
  clear hE h
  generalize hnm : numOf (s.extract a E).data.toList = nm
  have HN := Lib.hid hnm
  clear hnm
  obtain ⟨num, ok⟩ := nm
  go_enter Tryd.func64, Tryd.ntmps64
  go_wp2
  go_loopg [] (s.size - a) (fun kq wr => ∃ (i : Nat), Aside0 (digEnd kq s i = E) ∧ Aside0 (i + kq = s.size) ∧ Aside0 (a ≤ i) ∧ Aside0 (RdBlk b s i sl wr) ∧ Aside0 (Fr b w wr))
  case atStart => exact ⟨a, ⟨HE.out⟩, ⟨by omega⟩, ⟨Nat.le_refl _⟩, ⟨HB.out⟩, ⟨Fr.refl _ _⟩⟩
  case round =>
    clear h1
    obtain ⟨i, RE, RI, RA, RW, RF⟩ := hrel
    have r0 : wr.cell? ⟨b, 0, none⟩ = some (.string s) := (blk_cell RW.out 0).trans rfl
    have r1 : wr.cell? ⟨b, 1, none⟩ = some (.int .i64 i) := (blk_cell RW.out 1).trans rfl
    cases gk with
    | zero =>
      have hi : i = E := RE.out
      have his : i = s.size := RI.out
      subst hi
      have d1 : decide ((i : Int) < (s.size : Int)) = false := decide_eq_false (by omega)
      have d2 : decide (i < s.size) = false := decide_eq_false (by omega)
      clear his
      go_wp2
      go_quiet (fail)
      generalize hq : wr.drewN nq = wq
      have HQ := Lib.hid (show RdBlk b s i sl wq by rw [← hq]; exact RW.out)
      have FQ := Lib.hid (show Fr b w wq by rw [← hq]; exact RF.out.trans (Fr.drewN _ _ _))
      clear hq r0 r1
      have haE : a ≤ i := hE2.1
      have hEs : i ≤ s.size := hE2.2
      have hex : (s.extract a i).size ≤ 281474976710656 := by rw [ByteArray.size_extract]; omega
      have HX := Lib.hid hex
      clear hex
      have hle : b ≤ w.heap.size := Nat.le_of_lt (blk_lt HB.out)
      have hle2 : b ≤ wq.heap.size := Nat.le_trans hle FQ.out.1.size
      go_wp2
      have CQ := Lib.hid (show RdBlk b s i sl wq.drew from HQ.out)
      have y0 : wq.drew.cell? ⟨b, 0, none⟩ = some (.string s) := (blk_cell CQ.out 0).trans rfl
      have y1 : wq.drew.cell? ⟨b, 1, none⟩ = some (.int .i64 i) := (blk_cell CQ.out 1).trans rfl
      have GQ := Lib.hid (HG.out wq.drew (FQ.out.1.trans (Below.refl _ _).drew))
      have hg0 : (0 ≤ (a : Int)) = True := eq_true (by omega)
      have hg1 : ((a : Int) ≤ (i : Int)) = True := eq_true (by omega)
      have hg2 : ((i : Int) ≤ (s.size : Int)) = True := eq_true (by omega)
      have NB := NGiv.number_calls (s.extract a i) HX.out wq.drew GQ.out
      rw [HN.out] at NB
      have NB := Lib.hid NB
      go_region_held3 (fun w' => w'.cell? ⟨b, 0, none⟩ = some (.string s) ∧ w'.cell? ⟨b, 1, none⟩ = some (.int .i64 i))
        (first | exact ⟨y0, y1⟩)
        (first
          | (go_at_call 74
             with_reducible refine (NB.out).mono ?_
             rintro e wn ⟨rfl, bn⟩
             have CQ := Lib.hid (show RdBlk b s i sl wn from (bn.block _ (blk_lt CQ.out)).trans CQ.out)
             have FN := Lib.hid (FQ.out.trans ((Fr.drewN b wq 1).trans (Fr.below hle2 bn)))
             have y0 : wn.cell? ⟨b, 0, none⟩ = some (.string s) := (blk_cell CQ.out 0).trans rfl
             have y1 : wn.cell? ⟨b, 1, none⟩ = some (.int .i64 i) := (blk_cell CQ.out 1).trans rfl
             clear bn))
      cases ok with
      | true =>
        go_wp2
        go_ret
        exact ⟨rfl, CQ.out, FN.out⟩
      | false =>
        go_wp2_with (go_at_call 45; refine (give_calls _ _).mono ?_; rintro e w' ⟨rfl, hw⟩; rw [hw]; clear hw w')
        exact ⟨rfl, rfl, FN.out.1⟩
    | succ gk =>
      have his : i < s.size := by have := RI.out; omega
      have d1 : decide ((i : Int) < (s.size : Int)) = true := decide_eq_true (by omega)
      have d2 : decide (i < s.size) = true := decide_eq_true (by omega)
      have hR := RE.out
      rw [digEnd, dif_pos his] at hR
      by_cases c1 : 48 ≤ s[i].toNat
      · have c1' : decide (48 ≤ s[i].toNat) = true := decide_eq_true c1
        have c1i : decide ((48 : Int) ≤ (s[i].toNat : Int)) = true := decide_eq_true (by omega)
        by_cases c2 : s[i].toNat ≤ 57
        · have c2' : decide (s[i].toNat ≤ 57) = true := decide_eq_true c2
          have c2i : decide ((s[i].toNat : Int) ≤ (57 : Int)) = true := decide_eq_true (by omega)
          rw [if_pos ⟨c1, c2⟩] at hR
          have HR := Lib.hid hR
          clear hR c1 c2
          go_wp2
          go_quiet (fail)
          generalize hq : wr.drewN nq = wq
          have HQ := Lib.hid (show RdBlk b s i sl wq by rw [← hq]; exact RW.out)
          have FQ := Lib.hid (show Fr b w wq by rw [← hq]; exact RF.out.trans (Fr.drewN _ _ _))
          clear hq r0 r1
          have q1 : wq.cell? ⟨b, 1, none⟩ = some (.int .i64 i) := (blk_cell HQ.out 1).trans rfl
          have f1 : wq.frozen? ⟨b, 1, none⟩ = false := blk_frozen HQ.out 1
          go_wp2
          go_roundg gk
          case measure => omega
          case rel =>
            refine ⟨i + 1, ⟨HR.out⟩, ⟨by have := RI.out; omega⟩, ⟨by have := RA.out; omega⟩, ⟨?_⟩, ⟨FQ.out.set 1 _⟩⟩
            rw [show ((i + 1 : Nat) : Int) = (i : Int) + 1 by omega]
            exact blk_put HQ.out 1 _ rfl
        · have c2' : decide (s[i].toNat ≤ 57) = false := decide_eq_false c2
          have c2i : decide ((s[i].toNat : Int) ≤ (57 : Int)) = false := decide_eq_false (by omega)
          rw [if_neg (fun h => c2 h.2)] at hR
          subst hR
          clear c1 c2
          go_wp2
          go_quiet (fail)
          generalize hq : wr.drewN nq = wq
          have HQ := Lib.hid (show RdBlk b s i sl wq by rw [← hq]; exact RW.out)
          have FQ := Lib.hid (show Fr b w wq by rw [← hq]; exact RF.out.trans (Fr.drewN _ _ _))
          clear hq r0 r1
          have haE : a ≤ i := hE2.1
          have hEs : i ≤ s.size := hE2.2
          have hex : (s.extract a i).size ≤ 281474976710656 := by rw [ByteArray.size_extract]; omega
          have HX := Lib.hid hex
          clear hex
          have hle : b ≤ w.heap.size := Nat.le_of_lt (blk_lt HB.out)
          have hle2 : b ≤ wq.heap.size := Nat.le_trans hle FQ.out.1.size
          go_wp2
          have CQ := Lib.hid (show RdBlk b s i sl wq.drew from HQ.out)
          have y0 : wq.drew.cell? ⟨b, 0, none⟩ = some (.string s) := (blk_cell CQ.out 0).trans rfl
          have y1 : wq.drew.cell? ⟨b, 1, none⟩ = some (.int .i64 i) := (blk_cell CQ.out 1).trans rfl
          have GQ := Lib.hid (HG.out wq.drew (FQ.out.1.trans (Below.refl _ _).drew))
          have hg0 : (0 ≤ (a : Int)) = True := eq_true (by omega)
          have hg1 : ((a : Int) ≤ (i : Int)) = True := eq_true (by omega)
          have hg2 : ((i : Int) ≤ (s.size : Int)) = True := eq_true (by omega)
          have NB := NGiv.number_calls (s.extract a i) HX.out wq.drew GQ.out
          rw [HN.out] at NB
          have NB := Lib.hid NB
          go_region_held3 (fun w' => w'.cell? ⟨b, 0, none⟩ = some (.string s) ∧ w'.cell? ⟨b, 1, none⟩ = some (.int .i64 i))
            (first | exact ⟨y0, y1⟩)
            (first
              | (go_at_call 74
                 with_reducible refine (NB.out).mono ?_
                 rintro e wn ⟨rfl, bn⟩
                 have CQ := Lib.hid (show RdBlk b s i sl wn from (bn.block _ (blk_lt CQ.out)).trans CQ.out)
                 have FN := Lib.hid (FQ.out.trans ((Fr.drewN b wq 1).trans (Fr.below hle2 bn)))
                 have y0 : wn.cell? ⟨b, 0, none⟩ = some (.string s) := (blk_cell CQ.out 0).trans rfl
                 have y1 : wn.cell? ⟨b, 1, none⟩ = some (.int .i64 i) := (blk_cell CQ.out 1).trans rfl
                 clear bn))
          cases ok with
          | true =>
            go_wp2
            go_ret
            exact ⟨rfl, CQ.out, FN.out⟩
          | false =>
            go_wp2_with (go_at_call 45; refine (give_calls _ _).mono ?_; rintro e w' ⟨rfl, hw⟩; rw [hw]; clear hw w')
            exact ⟨rfl, rfl, FN.out.1⟩
      · have c1' : decide (48 ≤ s[i].toNat) = false := decide_eq_false c1
        have c1i : decide ((48 : Int) ≤ (s[i].toNat : Int)) = false := decide_eq_false (by omega)
        rw [if_neg (fun h => c1 h.1)] at hR
        subst hR
        clear c1
        go_wp2
        go_quiet (fail)
        generalize hq : wr.drewN nq = wq
        have HQ := Lib.hid (show RdBlk b s i sl wq by rw [← hq]; exact RW.out)
        have FQ := Lib.hid (show Fr b w wq by rw [← hq]; exact RF.out.trans (Fr.drewN _ _ _))
        clear hq r0 r1
        have haE : a ≤ i := hE2.1
        have hEs : i ≤ s.size := hE2.2
        have hex : (s.extract a i).size ≤ 281474976710656 := by rw [ByteArray.size_extract]; omega
        have HX := Lib.hid hex
        clear hex
        have hle : b ≤ w.heap.size := Nat.le_of_lt (blk_lt HB.out)
        have hle2 : b ≤ wq.heap.size := Nat.le_trans hle FQ.out.1.size
        go_wp2
        have CQ := Lib.hid (show RdBlk b s i sl wq.drew from HQ.out)
        have y0 : wq.drew.cell? ⟨b, 0, none⟩ = some (.string s) := (blk_cell CQ.out 0).trans rfl
        have y1 : wq.drew.cell? ⟨b, 1, none⟩ = some (.int .i64 i) := (blk_cell CQ.out 1).trans rfl
        have GQ := Lib.hid (HG.out wq.drew (FQ.out.1.trans (Below.refl _ _).drew))
        have hg0 : (0 ≤ (a : Int)) = True := eq_true (by omega)
        have hg1 : ((a : Int) ≤ (i : Int)) = True := eq_true (by omega)
        have hg2 : ((i : Int) ≤ (s.size : Int)) = True := eq_true (by omega)
        have NB := NGiv.number_calls (s.extract a i) HX.out wq.drew GQ.out
        rw [HN.out] at NB
        have NB := Lib.hid NB
        go_region_held3 (fun w' => w'.cell? ⟨b, 0, none⟩ = some (.string s) ∧ w'.cell? ⟨b, 1, none⟩ = some (.int .i64 i))
          (first | exact ⟨y0, y1⟩)
          (first
            | (go_at_call 74
               with_reducible refine (NB.out).mono ?_
               rintro e wn ⟨rfl, bn⟩
               have CQ := Lib.hid (show RdBlk b s i sl wn from (bn.block _ (blk_lt CQ.out)).trans CQ.out)
               have FN := Lib.hid (FQ.out.trans ((Fr.drewN b wq 1).trans (Fr.below hle2 bn)))
               have y0 : wn.cell? ⟨b, 0, none⟩ = some (.string s) := (blk_cell CQ.out 0).trans rfl
               have y1 : wn.cell? ⟨b, 1, none⟩ = some (.int .i64 i) := (blk_cell CQ.out 1).trans rfl
               clear bn))
        cases ok with
        | true =>
          go_wp2
          go_ret
          exact ⟨rfl, CQ.out, FN.out⟩
        | false =>
          go_wp2_with (go_at_call 45; refine (give_calls _ _).mono ?_; rintro e w' ⟨rfl, hw⟩; rw [hw]; clear hw w')
          exact ⟨rfl, rfl, FN.out.1⟩
end Go.Proofs.YtmpnkckaohfflaaDoor.PGiv
