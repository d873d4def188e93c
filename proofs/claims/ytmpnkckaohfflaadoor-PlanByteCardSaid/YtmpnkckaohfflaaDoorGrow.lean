/- The program's grow, walked: what tree it reads out of a list of cells. No condition but the list's length. -/
import Derived.Test.YtmpnkckaohfflaaDoorTree
import Derived.WalkKit
import Derived.BigCall
import Derived.Lib.Hide
namespace Go.Proofs.YtmpnkckaohfflaaDoor.PGiv
open Go.RowKit Go.Proofs.YtmpnkckaohfflaaDoorW.PrintWords Go.Proofs.YtmpnkckaohfflaaDoorW.PrintLast Go.Proofs.YtmpnkckaohfflaaDoorW.PrintMore Go.Proofs.YtmpnkckaohfflaaDoor.K
set_option linter.unusedVariables false
set_option linter.unusedSimpArgs false

theorem where_calls (a : Addr) (w : World) : Calls Tryd.prog 118 #[.pointer (some a)] w fun e w' => e = .returned (.pointer (some a)) ∧ w' = w := by
  go_enter Tryd.func118, Tryd.ntmps118
  go_wp2
  go_ret
  exact ⟨rfl, rfl⟩

def ext (kind W H : Int) : Int := if kind = 2 then W else H
theorem extent_calls (b : Nat) (kind W H : Int) (w : World) (hw : w.cell? ⟨b, 2, none⟩ = some (.int .i64 W)) (hh : w.cell? ⟨b, 3, none⟩ = some (.int .i64 H)) :
    Calls Tryd.prog 68 #[.pointer (some ⟨b, 0, none⟩), .int .i64 kind] w fun e w' => e = .returned (.int .i64 (ext kind W H)) ∧ w' = w := by
  unfold ext
  go_enter Tryd.func68, Tryd.ntmps68
  by_cases k : kind = 2
  · rw [if_pos k]
    go_wp2
    go_ret
    exact ⟨rfl, rfl⟩
  · rw [if_neg k]
    go_wp2
    go_ret
    exact ⟨rfl, rfl⟩

theorem whereP (b : Nat) (w : World) : (method 276 103 (.pointer (some ⟨b, 0, none⟩)) "mullion/layout.where").run Tryd.prog w = .ok (118, .pointer (some ⟨b, 0, none⟩)) w := by kernel_rfl
theorem whereS (b : Nat) (w : World) : (method 276 117 (.pointer (some ⟨b, 0, none⟩)) "mullion/layout.where").run Tryd.prog w = .ok (118, .pointer (some ⟨b, 0, none⟩)) w := by kernel_rfl

/-! what grow reads, as a function -/
mutual
def growF : Nat → List S45 → Int → Option (Option (Tr × List S45))
  | 0, _, _ => none
  | k + 1, l, depth =>
    match l with
    | [] => none
    | c :: r => if c.f1 = 1 then some (some (⟨1, c.f4, c.f5, c.f6, []⟩, r)) else growL k c depth [] (-1) r
def growL : Nat → S45 → Int → List Tr → Int → List S45 → Option (Option (Tr × List S45))
  | 0, _, _, _, _, _ => none
  | k + 1, c, depth, kids, sum, l =>
    if (match l with | [] => false | x :: _ => x.f0 == wrap64 (depth + 1)) = true then
      if (match l with | [] => false | x :: _ => x.f1 == c.f1) = true then some none
      else (growF k l (wrap64 (depth + 1))).bind fun r =>
        match r with
        | none => some none
        | some (t, rest) => if ext (wrap64 (5 - c.f1)) t.w t.h = ext (wrap64 (5 - c.f1)) c.f4 c.f5 then growL k c depth (kids ++ [t]) (wrap64 (sum + wrap64 (ext c.f1 t.w t.h + 1))) rest else some none
    else if kids.length < 2 then some none else if sum = ext c.f1 c.f4 c.f5 then some (some (⟨c.f1, c.f4, c.f5, 0, kids⟩, l)) else some none
end

/-- what grow answers -/
def GrowPost (w : World) (A : Option Addr) (l : List S45) (r : Option (Tr × List S45)) (e : Ending) (w' : World) : Prop :=
  match r with
  | none => e = .returned (.tuple #[.nilIface, .slice none 0 0]) ∧ Below w.heap.size w w'
  | some (t, rest) => ∃ (v : Value) (A' : Option Addr) (c' : Nat), e = .returned (.tuple #[v, .slice A' rest.length c']) ∧ kT.M w' w.heap.size (fun _ => True) t [v] ∧ rest.length ≤ c' ∧ (∀ W : World, Kd.C k45 W A l.length l → Kd.C k45 W A' rest.length rest) ∧ Below w.heap.size w w'

theorem three_new (w : World) (a b c : Obj) : (((w.alloc a).alloc b).alloc c).heap[w.heap.size]? = some a ∧ (((w.alloc a).alloc b).alloc c).heap[w.heap.size + 1]? = some b ∧ (((w.alloc a).alloc b).alloc c).heap[w.heap.size + 2]? = some c ∧ (((w.alloc a).alloc b).alloc c).heap.size = w.heap.size + 3 ∧ Below w.heap.size w (((w.alloc a).alloc b).alloc c) := by
  have e1 : (w.alloc a).heap = w.heap.push a := rfl
  have e2 : ((w.alloc a).alloc b).heap = (w.heap.push a).push b := rfl
  have e : (((w.alloc a).alloc b).alloc c).heap = ((w.heap.push a).push b).push c := rfl
  refine ⟨?_, ?_, ?_, ?_, (((Below.refl _ _).alloc (Nat.le_refl _) _).alloc ?_ _).alloc ?_ _⟩
  · rw [e, Array.getElem?_push, if_neg (by simp; omega), Array.getElem?_push, if_neg (by simp), Array.getElem?_push, if_pos rfl]
  · rw [e, Array.getElem?_push, if_neg (by simp), Array.getElem?_push, if_pos (by simp)]
  · rw [e, Array.getElem?_push, if_pos (by simp)]
  · rw [e]
    simp
  · rw [e1]
    simp
  · rw [e2]
    simp
    omega
theorem tail_cut (A : Option Addr) (c0 : Nat) (c : S45) (l : List S45) (hc : (c :: l).length ≤ c0) :
    ∃ A1 : Option Addr, (∀ W : World, (Instr.slice 22 (.slice A (c :: l).length c0) (some (.int .i64 1)) none none).run Tryd.prog W = .ok (.slice A1 l.length (c0 - 1)) W) ∧
      (∀ W : World, Kd.C k45 W A (c :: l).length (c :: l) → Kd.C k45 W A1 l.length l) := by
  obtain ⟨i, hi, hz⟩ := Option.map_eq_some_iff.1 info45
  simp only [Prod.mk.injEq] at hz
  have hcut := cut_from (P := Tryd.prog) 22 45 .i64 Tryd.underlying22 hi 7 hz.2.1 A (c :: l).length c0 1 (by omega) (by simp; omega)
  refine ⟨_, hcut, fun W h => ?_⟩
  exact Kd.C_drop (m := 1) h (by simp) hc

/-- a tree's value: where its box lies, and that 'where' finds it -/
theorem tree_value {w : World} {base : Nat} {ok : Nat → Prop} {t : Tr} {v : Value} (h : kT.M w base ok t [v]) :
    ∃ (tp : TypeId) (b : Nat), v = .iface tp (.pointer (some ⟨b, 0, none⟩)) ∧ base ≤ b ∧ ok b ∧ w.cell? ⟨b, 2, none⟩ = some (.int .i64 t.w) ∧ w.cell? ⟨b, 3, none⟩ = some (.int .i64 t.h) ∧
      (∀ W : World, (method 276 tp (.pointer (some ⟨b, 0, none⟩)) "mullion/layout.where").run Tryd.prog W = .ok (118, .pointer (some ⟨b, 0, none⟩)) W) := by
  rcases kT_open h with ⟨_, _, b, e, ho, hb, x, y, hp⟩ | ⟨_, _, b, v', e, ho, hb, ⟨x, y, hp⟩, _⟩
  · injection e with e
    exact ⟨_, b, e, hb, ho, (blk_cell hp 2).trans rfl, (blk_cell hp 3).trans rfl, whereP b⟩
  · injection e with e
    exact ⟨_, b, e, hb, ho, (blk_cell hp 2).trans rfl, (blk_cell hp 3).trans rfl, whereS b⟩

/-- the split that was built -/
theorem split_done (c : S45) (ck : ¬ c.f1 = 1) (kids : List Tr) (v : Value) (w wr : World) (HS : wr.heap[w.heap.size + 2]? = some (.cells #[.int .i64 0, .int .i64 0, .int .i64 c.f4, .int .i64 c.f5, .int .i64 c.f1, v] 120 (0, 0)))
    (RR : kT.R 65 wr (w.heap.size + 3) (fun _ => True) v kids) : kT.M wr w.heap.size (fun _ => True) ⟨c.f1, c.f4, c.f5, 0, kids⟩ [splitV (w.heap.size + 2)] :=
  kT_mk (.inr ⟨ck, rfl, w.heap.size + 2, v, rfl, trivial, by omega, ⟨0, 0, HS⟩, Kd.R_lower (Kd.R_mono (Kd.R_bound RR) (fun k hk => ⟨trivial, by have := hk.2.1; omega⟩)) (by omega)⟩)

theorem info_cell : (Tryd.prog.info? 65).map (fun i => (i.zero, i.size, i.bytes)) = some (some .nilIface, 1, 16) := by kernel_rfl
set_option maxHeartbeats 8000000 in
set_option maxRecDepth 100000 in
theorem grow_calls (k : Nat) (hk : k ≤ 1000000) : ∀ (A : Option Addr) (c0 : Nat) (l : List S45) (depth : Int) (r : Option (Tr × List S45)) (w : World) (hr : Kd.C k45 w A l.length l) (hc : l.length ≤ c0) (h : growF k l depth = some r),
    Calls Tryd.prog 52 #[.slice A l.length c0, .int .i64 depth] w fun e w' => GrowPost w A l r e w' := by
  induction k using Nat.strongRecOn with
  | _ k ih =>
  intro A c0 l depth r w hr hc h
  cases k with
  | zero => exact absurd h (by simp [growF])
  | succ k =>
  cases l with
  | nil => exact absurd h (by simp [growF])
  | cons c l =>
  obtain ⟨ad, rfl, h0, h1, h2, h3, h4, h5, h6⟩ := at_T45 hr 0 (by omega) (by simp)
  have ec : rd_T45 (c :: l) 0 = c := rfl
  have ea : ad.add (Int.toNat 0 * 7) = ad := rfl
  rw [ec, ea] at h0 h1 h2 h3 h4 h5 h6
  clear ec ea
  have eh : (if c.f1 = 1 then some (some (⟨1, c.f4, c.f5, c.f6, []⟩, l)) else growL k c depth [] (-1) l) = some r := h
  obtain ⟨A1, hcut, hA1⟩ := tail_cut (some ad) c0 c l hc
  have hA1' := Lib.hid hA1
  have hrow := Lib.hid hr
  clear hA1 hr
  have hE := Lib.hid eh
  clear h eh
  generalize hn : (c :: l).length = n at *
  have hn1 : 0 < n := by rw [← hn]; simp
  have hl1 : l.length + 1 ≤ c0 := by rw [← hn] at hc; simpa using hc
  go_enter Tryd.func52, Tryd.ntmps52
  by_cases ck : c.f1 = 1
  · have hE' : Hid (some (some (⟨1, c.f4, c.f5, c.f6, []⟩, l)) = some r) := Lib.hid (by have := hE.out; rwa [if_pos ck] at this)
    clear hE
    go_wp2
    go_ret2
    have er := Option.some.inj hE'.out
    subst er
    subst hn
    refine ⟨_, _, _, rfl, kT_mk (.inl ⟨rfl, rfl, w.heap.size + 2, rfl, trivial, by omega, 0, 0, ?_⟩), by simp only [List.length_cons] at hc; omega, hA1'.out, ?_⟩
    · exact (three_new w _ _ _).2.2.1
    · exact (three_new w _ _ _).2.2.2.2
  · have hE' : Hid (growL k c depth [] (-1) l = some r) := Lib.hid (by have := hE.out; rwa [if_neg ck] at this)
    clear hE
    have ck' : (c.f1 == 1) = false := beq_eq_false_iff_ne.mpr ck
    go_wp2
    go_loopg [0, 9] k (fun kq lv sv wr => ∃ (A' : Option Addr) (c' : Nat) (l' : List S45) (sum : Int) (kids : List Tr) (v : Value),
      lv = .slice A' l'.length c' ∧ sv = .int .i64 sum ∧ Aside0 (growL kq c depth kids sum l' = some r) ∧ Aside0 (kids.length + kq ≤ k) ∧ Aside0 (l'.length ≤ c') ∧ Aside0 (∀ W : World, Kd.C k45 W (some ad) n (c :: l) → Kd.C k45 W A' l'.length l') ∧
      Aside0 (Below w.heap.size w wr) ∧ Aside0 (w.heap.size + 3 ≤ wr.heap.size) ∧
      Aside0 (wr.heap[w.heap.size]? = some (.cells #[.int .i64 c.f0, .int .i64 c.f1, .int .i64 c.f2, .int .i64 c.f3, .int .i64 c.f4, .int .i64 c.f5, .int .i64 c.f6] 45 (0, 0))) ∧
      Aside0 (wr.heap[w.heap.size + 1]? = some (.cells #[.int .i64 0, .int .i64 0, .int .i64 c.f4, .int .i64 c.f5] 105 (0, 0))) ∧
      Aside0 (wr.heap[w.heap.size + 2]? = some (.cells #[.int .i64 0, .int .i64 0, .int .i64 c.f4, .int .i64 c.f5, .int .i64 c.f1, v] 120 (0, 0))) ∧
      Aside0 (kT.R 65 wr (w.heap.size + 3) (fun _ => True) v kids))
    case atStart =>
      refine ⟨A1, c0 - 1, l, -1, [], .slice none 0 0, rfl, rfl, ⟨hE'.out⟩, ⟨by simp⟩, ⟨by omega⟩, ⟨hA1'.out⟩, ?_, ?_, ?_, ?_, ?_, ⟨Kd.R_nil _ _ _ _ _⟩⟩
      · exact ⟨(three_new w _ _ _).2.2.2.2⟩
      · exact ⟨Nat.le_of_eq (three_new w _ _ _).2.2.2.1.symm⟩
      · exact ⟨(three_new w _ _ _).1⟩
      · exact ⟨(three_new w _ _ _).2.1⟩
      · exact ⟨(three_new w _ _ _).2.2.1⟩
    case round =>
      obtain ⟨A', c', l', sum, kids, v, rfl, rfl, RE, RK, RL, RC, RB, RS, HC, HB, HS, RR⟩ := hrel
      cases gk with
      | zero => exact absurd RE.out (by simp [growL])
      | succ gk =>
      have hc0 : wr.cell? ⟨w.heap.size, 1, none⟩ = some (.int .i64 c.f1) := (blk_cell HC.out 1).trans rfl
      have hc4 : wr.cell? ⟨w.heap.size, 4, none⟩ = some (.int .i64 c.f4) := (blk_cell HC.out 4).trans rfl
      have hc5 : wr.cell? ⟨w.heap.size, 5, none⟩ = some (.int .i64 c.f5) := (blk_cell HC.out 5).trans rfl
      have hb2 : wr.cell? ⟨w.heap.size + 1, 2, none⟩ = some (.int .i64 c.f4) := (blk_cell HB.out 2).trans rfl
      have hb3 : wr.cell? ⟨w.heap.size + 1, 3, none⟩ = some (.int .i64 c.f5) := (blk_cell HB.out 3).trans rfl
      have hs5 : wr.cell? ⟨w.heap.size + 2, 5, none⟩ = some v := (blk_cell HS.out 5).trans rfl
      cases l' with
      | nil =>
        have RE' : Hid ((if kids.length < 2 then some none else if sum = ext c.f1 c.f4 c.f5 then some (some (⟨c.f1, c.f4, c.f5, 0, kids⟩, [])) else some none) = some r) := Lib.hid (by have := RE.out; rw [growL, if_neg (by simp)] at this; exact this)
        clear RE
        obtain ⟨Av, cv, ev⟩ := Kd.R_slice RR.out
        subst ev
        by_cases hk2 : kids.length < 2
        · have RE2 : Hid (some none = some r) := Lib.hid (by have := RE'.out; rwa [if_pos hk2] at this)
          clear RE'
          go_wp2
          go_ret2
          obtain rfl := Option.some.inj RE2.out
          exact ⟨rfl, RB.out⟩
        · have RE2 : Hid ((if sum = ext c.f1 c.f4 c.f5 then some (some (⟨c.f1, c.f4, c.f5, 0, kids⟩, [])) else some none) = some r) := Lib.hid (by have := RE'.out; rwa [if_neg hk2] at this)
          clear RE'
          generalize hx : ext c.f1 c.f4 c.f5 = xt at *
          have hX := Lib.hid hx
          clear hx
          by_cases hs : sum = xt
          · have RE3 : Hid (some (some (⟨c.f1, c.f4, c.f5, 0, kids⟩, [])) = some r) := Lib.hid (by have := RE2.out; rwa [if_pos hs] at this)
            clear RE2
            go_wp2_with (go_at_call 68; refine (extent_calls (w.heap.size + 1) c.f1 c.f4 c.f5 _ hb2 hb3).mono ?_; rw [hX.out]; rintro e w' ⟨rfl, rfl⟩)
            go_wp2
            go_ret2
            obtain rfl := Option.some.inj RE3.out
            subst hn
            exact ⟨_, _, _, rfl, split_done c ck kids _ w _ HS.out RR.out, RL.out, RC.out, RB.out⟩
          · have hs' : (sum != xt) = true := bne_iff_ne.mpr hs
            have RE3 : Hid (some none = some r) := Lib.hid (by have := RE2.out; rwa [if_neg hs] at this)
            clear RE2
            go_wp2_with (go_at_call 68; refine (extent_calls (w.heap.size + 1) c.f1 c.f4 c.f5 _ hb2 hb3).mono ?_; rw [hX.out]; rintro e w' ⟨rfl, rfl⟩)
            go_wp2
            go_ret2
            obtain rfl := Option.some.inj RE3.out
            exact ⟨rfl, RB.out⟩
      | cons x l' =>
        have hq := Lib.hid RC.out
        obtain ⟨ad', rfl, q0, q1, q2, q3, q4, q5, q6⟩ := at_T45 (Kd.C_below (hq.out _ hrow.out) RB.out) 0 (by omega) (by simp)
        have ec : rd_T45 (x :: l') 0 = x := rfl
        have ea : ad'.add (Int.toNat 0 * 7) = ad' := rfl
        rw [ec, ea] at q0 q1 q2 q3 q4 q5 q6
        clear ec ea
        by_cases hd : x.f0 = wrap64 (depth + 1)
        · have hd' : (x.f0 == wrap64 (depth + 1)) = true := beq_iff_eq.mpr hd
          have RE1 : Hid ((if x.f1 = c.f1 then some none
      else (growF gk (x :: l') (wrap64 (depth + 1))).bind fun r =>
        match r with
        | none => some none
        | some (t, rest) => if ext (wrap64 (5 - c.f1)) t.w t.h = ext (wrap64 (5 - c.f1)) c.f4 c.f5 then growL gk c depth (kids ++ [t]) (wrap64 (sum + wrap64 (ext c.f1 t.w t.h + 1))) rest else some none) = some r) := Lib.hid (by
            have := RE.out
            rw [growL, if_pos (by simpa using hd)] at this
            by_cases e : x.f1 = c.f1
            · rw [if_pos e]
              rw [if_pos (by simpa using e)] at this
              exact this
            · rw [if_neg e]
              rw [if_neg (by simpa using e)] at this
              exact this)
          clear RE
          by_cases hf : x.f1 = c.f1
          · have hf' : (x.f1 == c.f1) = true := beq_iff_eq.mpr hf
            have RE2 : Hid (some none = some r) := Lib.hid (by have := RE1.out; rwa [if_pos hf] at this)
            clear RE1
            go_wp2
            go_quiet (fail)
            go_wp2
            go_ret2
            obtain rfl := Option.some.inj RE2.out
            exact ⟨rfl, pw_below_drewN RB.out _⟩
          · have hf' : (x.f1 == c.f1) = false := beq_eq_false_iff_ne.mpr hf
            have RE2 := RE1.out
            rw [if_neg hf] at RE2
            clear RE1
            obtain ⟨g, hg, RE3⟩ := Option.bind_eq_some_iff.mp RE2
            clear RE2
            have RE4 := Lib.hid RE3
            clear RE3
            have IH := Lib.hid (fun (W : World) (hC : Kd.C k45 W (some ad') (x :: l').length (x :: l')) => ih gk (by have := RK.out; omega) (by have := RK.out; omega) (some ad') c' (x :: l') (wrap64 (depth + 1)) g W hC RL.out hg)
            have HCx := Lib.hid (Kd.C_below (hq.out _ hrow.out) RB.out)
            clear hg
            go_wp2
            go_quiet (fail)
            go_wp2_with (go_at_call 52; refine (IH.out _ (Kd.C_drewN HCx.out _)).mono ?_)
            cases g with
            | none =>
              rintro e w2 ⟨rfl, b2⟩
              go_wp2
              go_ret2
              obtain rfl := Option.some.inj RE4.out
              exact ⟨rfl, RB.out.trans ((pw_below_drewN (Below.refl _ _) _).trans (b2.mono RB.out.size))⟩
            | some tr =>
              obtain ⟨t, rest⟩ := tr
              rintro e w2 ⟨v2, A2, c2, rfl, m2, l2, cc2, b2⟩
              obtain ⟨tp, bx, rfl, hbx, _, hw2, hh2, hme⟩ := tree_value m2
              have B2 : Below (w.heap.size + 3) wr w2 := (pw_below_drewN (Below.refl _ _) _).trans (b2.mono RS.out)
              have HC2 := Lib.hid ((B2.block _ (by omega)).trans HC.out)
              have HB2 := Lib.hid ((B2.block _ (by omega)).trans HB.out)
              have HS2 := Lib.hid ((B2.block _ (by omega)).trans HS.out)
              have RR2 := Lib.hid (Kd.R_below RR.out ((pw_below_drewN (Below.refl _ _) _).trans b2))
              have M2 := Lib.hid m2
              have BB2 := Lib.hid b2
              clear m2 b2 B2 hc0 hc4 hc5 hb2 hb3 hs5 q0 q1 q2 q3 q4 q5 q6
              have hc0 : w2.cell? ⟨w.heap.size, 1, none⟩ = some (.int .i64 c.f1) := (blk_cell HC2.out 1).trans rfl
              have hb2 : w2.cell? ⟨w.heap.size + 1, 2, none⟩ = some (.int .i64 c.f4) := (blk_cell HB2.out 2).trans rfl
              have hb3 : w2.cell? ⟨w.heap.size + 1, 3, none⟩ = some (.int .i64 c.f5) := (blk_cell HB2.out 3).trans rfl
              have hs5 : w2.cell? ⟨w.heap.size + 2, 5, none⟩ = some v := (blk_cell HS2.out 5).trans rfl
              go_wp2_with ((with_reducible refine gate_builtin (b := .append) (xs := #[.tmp 68, .tmp 70]) rfl ?_); at_builtin; refine Kd.R_append kT (w0 := w2) (w.heap.size + 3) rfl (.tmp 68) (.tmp 70) 118 65 .nilIface 16 rfl Tryd.underlying118 info_cell rfl (by decide) (by decide) v kids t _ (fun _ => True) (fun k => wr.heap.size ≤ k) rfl rfl ?hp ?hok (fun _ _ => trivial) ?HO ?HB ?hb ?hl ?_)
              case hp => exact kT.M_lower RS.out (kT.M_mono (fun _ hk => hk.2.1) (kT.M_bound M2.out))
              case hok => exact fun q hq => ⟨trivial, fun e => by obtain ⟨inner, hown⟩ := Kd.R_own RR.out; have := own_lt hown q e.symm; omega⟩
              case HO => exact RR2.out
              case HB => exact Below.refl _ _
              case hb => exact Nat.le_trans RS.out BB2.out.size
              case hl => have := RK.out; omega
              intro v1 w1 R1 hb1 hg1 hat1
              have HC3 := Lib.hid ((hb1.block _ (by omega)).trans HC2.out)
              have HB3 := Lib.hid ((hb1.block _ (by omega)).trans HB2.out)
              have HS3 := Lib.hid ((hb1.block _ (by omega)).trans HS2.out)
              have hnb : some bx ≠ v.ownBlock := fun e => by
                obtain ⟨inner, hown⟩ := Kd.R_own RR.out
                have := own_lt hown bx e.symm
                have hbx' : wr.heap.size ≤ bx := hbx
                omega
              have hbe : w1.heap[bx]? = w2.heap[bx]? := hg1.block bx (World.block_lt_of_cell? w2 _ hw2) hnb
              have hw3 : w1.cell? ⟨bx, 2, none⟩ = some (.int .i64 t.w) := by rw [← hw2]; simp only [World.cell?, hbe]
              have hh3 : w1.cell? ⟨bx, 3, none⟩ = some (.int .i64 t.h) := by rw [← hh2]; simp only [World.cell?, hbe]
              have RR3 := Lib.hid R1
              have BB3 := Lib.hid hb1
              have hbx1 : ¬ bx = w.heap.size + 1 + 1 := by have h := RS.out; have hbx' : wr.heap.size ≤ bx := hbx; omega
              have hbx2 : ¬ w.heap.size + 1 + 1 = bx := fun e => hbx1 e.symm
              clear R1 hb1 hg1 hat1 hbe hnb hc0 hb2 hb3 hs5 hw2 hh2
              have hc0 : w1.cell? ⟨w.heap.size, 1, none⟩ = some (.int .i64 c.f1) := (blk_cell HC3.out 1).trans rfl
              have hb2 : w1.cell? ⟨w.heap.size + 1, 2, none⟩ = some (.int .i64 c.f4) := (blk_cell HB3.out 2).trans rfl
              have hb3 : w1.cell? ⟨w.heap.size + 1, 3, none⟩ = some (.int .i64 c.f5) := (blk_cell HB3.out 3).trans rfl
              have hs5 : w1.cell? ⟨w.heap.size + 1 + 1, 5, none⟩ = some v := (blk_cell HS3.out 5).trans rfl
              have hfz : w1.frozen? ⟨w.heap.size + 1 + 1, 5, none⟩ = false := blk_frozen HS3.out 5
              obtain ⟨Av1, cv1, rfl⟩ := Kd.R_slice RR3.out
              go_wp2
              have elen : (kids ++ [t]).length = kids.length + 1 := by simp
              have RR4 := Lib.hid (Kd.R_far (p := ⟨w.heap.size + 1 + 1, 5, none⟩) (Kd.R_mono (Kd.R_bound RR3.out) (fun q hq => (show True ∧ q ≠ w.heap.size + 1 + 1 from ⟨trivial, by have := hq.2.1; omega⟩))) (fun q hq => hq.2) (.slice Av1 (kids.length + 1) cv1))
              have HC4 := Lib.hid (blk_far HC3.out (p := ⟨w.heap.size + 1 + 1, 5, none⟩) (by show w.heap.size ≠ w.heap.size + 1 + 1; omega) (.slice Av1 (kids.length + 1) cv1))
              have HB4 := Lib.hid (blk_far HB3.out (p := ⟨w.heap.size + 1 + 1, 5, none⟩) (by show w.heap.size + 1 ≠ w.heap.size + 1 + 1; omega) (.slice Av1 (kids.length + 1) cv1))
              have HS4 := Lib.hid (blk_put HS3.out 5 (.slice Av1 (kids.length + 1) cv1) rfl)
              have hw4 : (w1.setCell ⟨w.heap.size + 1 + 1, 5, none⟩ (.slice Av1 (kids.length + 1) cv1)).cell? ⟨bx, 2, none⟩ = some (.int .i64 t.w) := (cell_far hbx1 _).trans hw3
              have hh4 : (w1.setCell ⟨w.heap.size + 1 + 1, 5, none⟩ (.slice Av1 (kids.length + 1) cv1)).cell? ⟨bx, 3, none⟩ = some (.int .i64 t.h) := (cell_far hbx1 _).trans hh3
              have BB4 := Lib.hid (below_set (g := w.heap.size + 1 + 1) (j := 5) (v := .slice Av1 (kids.length + 1) cv1) ((RB.out.trans ((pw_below_drewN (Below.refl _ _) _).trans (BB2.out.mono RB.out.size))).trans (BB3.out.mono (by omega))) (by omega))
              have SZ4 : Hid (w.heap.size + 3 ≤ (w1.setCell ⟨w.heap.size + 1 + 1, 5, none⟩ (.slice Av1 (kids.length + 1) cv1)).heap.size) := Lib.hid (Nat.lt_of_lt_of_le (Nat.lt_succ_self _) (blk_lt HS4.out))
              clear hc0 hb2 hb3 hs5 hfz hw3 hh3 HC3 HB3 HS3 BB3 RR3
              generalize w1.setCell ⟨w.heap.size + 1 + 1, 5, none⟩ (.slice Av1 (kids.length + 1) cv1) = wq at RR4 HC4 HB4 HS4 hw4 hh4 BB4 SZ4 ⊢
              have hc0 : wq.cell? ⟨w.heap.size, 1, none⟩ = some (.int .i64 c.f1) := (blk_cell HC4.out 1).trans rfl
              have hb2 : wq.cell? ⟨w.heap.size + 1, 2, none⟩ = some (.int .i64 c.f4) := (blk_cell HB4.out 2).trans rfl
              have hb3 : wq.cell? ⟨w.heap.size + 1, 3, none⟩ = some (.int .i64 c.f5) := (blk_cell HB4.out 3).trans rfl
              go_quiet (first | (with_reducible exact Calls.quiet_of_same (where_calls _ _)) | ((with_reducible refine Calls.quiet_of_same (extent_calls bx _ t.w t.h _ ?_ ?_)); exact hw4; exact hh4))
              have hc1 : (wq.drewN nq).cell? ⟨w.heap.size, 1, none⟩ = some (.int .i64 c.f1) := hc0
              have hb12 : (wq.drewN nq).cell? ⟨w.heap.size + 1, 2, none⟩ = some (.int .i64 c.f4) := hb2
              have hb13 : (wq.drewN nq).cell? ⟨w.heap.size + 1, 3, none⟩ = some (.int .i64 c.f5) := hb3
              have hw5 : (wq.drewN nq).cell? ⟨bx, 2, none⟩ = some (.int .i64 t.w) := hw4
              have hh5 : (wq.drewN nq).cell? ⟨bx, 3, none⟩ = some (.int .i64 t.h) := hh4
              have XH : Hid ((wq.drewN nq).heap = wq.heap) := Lib.hid rfl
              have XB : Hid (∀ B, Below B wq (wq.drewN nq)) := Lib.hid (fun B => pw_below_drewN (Below.refl B wq) nq)
              clear hc0 hb2 hb3 hw4 hh4
              generalize wq.drewN nq = wq2 at hc1 hb12 hb13 hw5 hh5 XH XB ⊢
              by_cases he : ext (wrap64 (5 - c.f1)) t.w t.h = ext (wrap64 (5 - c.f1)) c.f4 c.f5
              · have he' : (ext (wrap64 (5 - c.f1)) t.w t.h != ext (wrap64 (5 - c.f1)) c.f4 c.f5) = false := bne_eq_false_iff_eq.mpr he
                have RE5 : Hid (growL gk c depth (kids ++ [t]) (wrap64 (sum + wrap64 (ext c.f1 t.w t.h + 1))) rest = some r) := Lib.hid (by have h : (if ext (wrap64 (5 - c.f1)) t.w t.h = ext (wrap64 (5 - c.f1)) c.f4 c.f5 then growL gk c depth (kids ++ [t]) (wrap64 (sum + wrap64 (ext c.f1 t.w t.h + 1))) rest else some none) = some r := RE4.out; rwa [if_pos he] at h)
                clear RE4
                go_wp2
                go_quiet (first | (with_reducible exact Calls.quiet_of_same (where_calls _ _)) | ((with_reducible refine Calls.quiet_of_same (extent_calls bx _ t.w t.h _ ?_ ?_)); exact hw5; exact hh5) | ((with_reducible refine Calls.quiet_of_same (extent_calls (w.heap.size + 1) _ c.f4 c.f5 _ ?_ ?_)); exact hb12; exact hb13))
                go_wp2
                go_roundg gk
                case measure => omega
                case rel =>
                  refine ⟨A2, c2, rest, _, kids ++ [t], .slice Av1 (kids.length + 1) cv1, rfl, rfl, ⟨RE5.out⟩, ⟨by have := RK.out; simp; omega⟩, ⟨l2⟩, ⟨fun W hW => cc2 W (RC.out W hW)⟩, ?_, ?_, ?_, ?_, ?_, ?_⟩
                  · exact ⟨pw_below_drewN (BB4.out.trans (XB.out _)) _⟩
                  · exact ⟨by have h := SZ4.out; rw [← XH.out] at h; exact h⟩
                  · exact ⟨by have h := HC4.out; rw [← XH.out] at h; exact h⟩
                  · exact ⟨by have h := HB4.out; rw [← XH.out] at h; exact h⟩
                  · exact ⟨by have h := HS4.out; rw [← XH.out] at h; exact h⟩
                  · have h := RR4.out
                    rw [elen] at h
                    exact ⟨Kd.R_mono (ok' := fun _ => True) (Kd.R_move (w1 := wq2.drewN nq) h (fun k _ => congrArg (fun hp => hp[k]?) XH.out)) (fun _ _ => trivial)⟩
              · have he' : (ext (wrap64 (5 - c.f1)) t.w t.h != ext (wrap64 (5 - c.f1)) c.f4 c.f5) = true := bne_iff_ne.mpr he
                have RE5 : Hid (some none = some r) := Lib.hid (by have h : (if ext (wrap64 (5 - c.f1)) t.w t.h = ext (wrap64 (5 - c.f1)) c.f4 c.f5 then growL gk c depth (kids ++ [t]) (wrap64 (sum + wrap64 (ext c.f1 t.w t.h + 1))) rest else some none) = some r := RE4.out; rwa [if_neg he] at h)
                clear RE4
                go_wp2
                go_quiet (first | (with_reducible exact Calls.quiet_of_same (where_calls _ _)) | ((with_reducible refine Calls.quiet_of_same (extent_calls bx _ t.w t.h _ ?_ ?_)); exact hw5; exact hh5) | ((with_reducible refine Calls.quiet_of_same (extent_calls (w.heap.size + 1) _ c.f4 c.f5 _ ?_ ?_)); exact hb12; exact hb13))
                go_wp2
                go_ret2
                obtain rfl := Option.some.inj RE5.out
                exact ⟨rfl, pw_below_drewN (BB4.out.trans (XB.out _)) _⟩
        · have RE' : Hid ((if kids.length < 2 then some none else if sum = ext c.f1 c.f4 c.f5 then some (some (⟨c.f1, c.f4, c.f5, 0, kids⟩, x :: l')) else some none) = some r) := Lib.hid (by have := RE.out; rw [growL, if_neg (by simpa using hd)] at this; exact this)
          clear RE
          obtain ⟨Av, cv, ev⟩ := Kd.R_slice RR.out
          subst ev
          by_cases hk2 : kids.length < 2
          · have RE2 : Hid (some none = some r) := Lib.hid (by have := RE'.out; rwa [if_pos hk2] at this)
            clear RE'
            go_wp2
            go_ret2
            obtain rfl := Option.some.inj RE2.out
            exact ⟨rfl, RB.out⟩
          · have RE2 : Hid ((if sum = ext c.f1 c.f4 c.f5 then some (some (⟨c.f1, c.f4, c.f5, 0, kids⟩, x :: l')) else some none) = some r) := Lib.hid (by have := RE'.out; rwa [if_neg hk2] at this)
            clear RE'
            generalize hx : ext c.f1 c.f4 c.f5 = xt at *
            have hX := Lib.hid hx
            clear hx
            by_cases hs : sum = xt
            · have RE3 : Hid (some (some (⟨c.f1, c.f4, c.f5, 0, kids⟩, x :: l')) = some r) := Lib.hid (by have := RE2.out; rwa [if_pos hs] at this)
              clear RE2
              go_wp2_with (go_at_call 68; refine (extent_calls (w.heap.size + 1) c.f1 c.f4 c.f5 _ hb2 hb3).mono ?_; rw [hX.out]; rintro e w' ⟨rfl, rfl⟩)
              go_wp2
              go_ret2
              obtain rfl := Option.some.inj RE3.out
              subst hn
              exact ⟨_, _, _, rfl, split_done c ck kids _ w _ HS.out RR.out, RL.out, RC.out, RB.out⟩
            · have hs' : (sum != xt) = true := bne_iff_ne.mpr hs
              have RE3 : Hid (some none = some r) := Lib.hid (by have := RE2.out; rwa [if_neg hs] at this)
              clear RE2
              go_wp2_with (go_at_call 68; refine (extent_calls (w.heap.size + 1) c.f1 c.f4 c.f5 _ hb2 hb3).mono ?_; rw [hX.out]; rintro e w' ⟨rfl, rfl⟩)
              go_wp2
              go_ret2
              obtain rfl := Option.some.inj RE3.out
              exact ⟨rfl, RB.out⟩
end Go.Proofs.YtmpnkckaohfflaaDoor.PGiv
