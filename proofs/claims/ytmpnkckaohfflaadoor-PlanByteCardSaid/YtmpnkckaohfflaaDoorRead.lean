/- The program's write and read, walked: which lists are layouts, and their trees. No condition. -/
import Derived.Test.YtmpnkckaohfflaaDoorLay
import Derived.Test.YtmpnkckaohfflaaDoorEE2
import Derived.Maps.OwnSet
namespace Go.Proofs.YtmpnkckaohfflaaDoor.PGiv
open Go.RowKit Go.Proofs.YtmpnkckaohfflaaDoorW.PrintWords Go.Proofs.YtmpnkckaohfflaaDoorW.PrintLast Go.Proofs.YtmpnkckaohfflaaDoorW.PrintMore Go.Proofs.YtmpnkckaohfflaaDoor.K Go.Maps
set_option linter.unusedVariables false
set_option linter.unusedSimpArgs false

def sideB (n : Int) : Bool := decide (1 ≤ n) && decide (n ≤ 1000)
def idB (n : Int) : Bool := decide (1 ≤ n) && decide (n ≤ 4611686018427387904)
def kindB (n : Int) : Bool := n == 2 || n == 3
theorem side_calls (n : Int) (r : Bool) (h : sideB n = r) (w : World) : Calls Tryd.prog 49 #[.int .i64 n] w fun e w' => e = .returned (.bool r) ∧ w' = w := by
  subst h
  unfold sideB
  go_enter Tryd.func49, Tryd.ntmps49
  by_cases k : 1 ≤ n
  · have k' : decide (1 ≤ n) = true := decide_eq_true k
    go_wp2
    go_ret
    exact ⟨by simp [k], rfl⟩
  · have k' : decide (1 ≤ n) = false := decide_eq_false k
    go_wp2
    go_ret
    exact ⟨by simp [k], rfl⟩
theorem id_calls (n : Int) (r : Bool) (h : idB n = r) (w : World) : Calls Tryd.prog 50 #[.int .i64 n] w fun e w' => e = .returned (.bool r) ∧ w' = w := by
  subst h
  unfold idB
  go_enter Tryd.func50, Tryd.ntmps50
  by_cases k : 1 ≤ n
  · have k' : decide (1 ≤ n) = true := decide_eq_true k
    go_wp2
    go_ret
    exact ⟨by simp [k], rfl⟩
  · have k' : decide (1 ≤ n) = false := decide_eq_false k
    go_wp2
    go_ret
    exact ⟨by simp [k], rfl⟩
theorem kindOf_calls (n : Int) (r : Bool) (h : kindB n = r) (w : World) : Calls Tryd.prog 51 #[.int .i64 n] w fun e w' => e = .returned (.bool r) ∧ w' = w := by
  subst h
  unfold kindB
  go_enter Tryd.func51, Tryd.ntmps51
  by_cases k : n = 2
  · have k' : (n == 2) = true := beq_iff_eq.mpr k
    go_wp2
    go_ret
    exact ⟨by simp [k], rfl⟩
  · have k' : (n == 2) = false := beq_eq_false_iff_ne.mpr k
    go_wp2
    go_ret
    exact ⟨by simp [k], rfl⟩

/-- what write answers: a list of its own; the tree is alike -/
theorem write_calls (base : Nat) (t : Tr) (v : Value) (w : World) (hb : base ≤ w.heap.size) (hM : kT.M w base (fun _ => True) t [v]) (hc : cntT t ≤ 1000000) :
    Calls Tryd.prog 54 #[v] w fun e w' => ∃ (A : Option Addr) (c : Nat), e = .returned (.slice A (layT t 0 0 0).length c) ∧ (layT t 0 0 0).length ≤ c ∧ Kd.C k45 w' A (layT t 0 0 0).length (layT t 0 0 0) ∧
      Below base w w' ∧ ∀ k, k < w.heap.size → Alike w.heap[k]? w'.heap[k]? := by
  have e1 : (w.alloc (.cells #[.slice none 0 0] 22 (0, 0))).heap = w.heap.push (.cells #[.slice none 0 0] 22 (0, 0)) := rfl
  have hO := Lib.hid (show (w.alloc (.cells #[.slice none 0 0] 22 (0, 0))).heap[w.heap.size]? = some (.cells #[.slice none 0 0] 22 (0, 0)) by rw [e1]; simp)
  have hA := Lib.hid (show ∀ k, k < w.heap.size → (w.alloc (.cells #[.slice none 0 0] 22 (0, 0))).heap[k]? = w.heap[k]? from fun k hk => Below.heap_alloc w _ k hk)
  have hM1 := Lib.hid (kT.M_move (w1 := w.alloc (.cells #[.slice none 0 0] 22 (0, 0))) (fun k hk => hA.out k hk) (kT.M_mono (ok' := fun k => k < w.heap.size) (fun k hk => hk.2.2.1) (kT.M_bound hM)))
  have hB := Lib.hid (show Below base w (w.alloc (.cells #[.slice none 0 0] 22 (0, 0))) from (Below.refl _ _).alloc hb _)
  go_enter Tryd.func54, Tryd.ntmps54
  go_wp2_with (go_at_call 69; refine (lay_calls base w.heap.size hb t 0 0 0 [] (.slice none 0 0) v _ hM1.out hO.out (Kd.R_nil _ _ _ _ _) (by simpa using hc)).mono ?_)
  rintro e w1 ⟨rfl, B1, A1, vs, O1, R1⟩
  obtain ⟨Av, cv, rfl, hl, hC⟩ := Kd.R_reads R1
  have hv : w1.cell? ⟨w.heap.size, 0, none⟩ = some (.slice Av ([] ++ layT t 0 0 0).length cv) := (blk_cell O1 0).trans rfl
  have F := Lib.hid (And.intro hl (And.intro hC (And.intro B1 A1)))
  clear B1 A1 O1 R1 hl hC
  go_wp2
  go_ret
  have F := F.out
  rw [List.nil_append] at F
  refine ⟨Av, cv, rfl, F.1, F.2.1, hB.out.trans F.2.2.1, fun k hk => ?_⟩
  have := F.2.2.2 k hk
  rwa [hA.out k hk] at this

/-! the panes that were met, as a map -/
def seenD : List Int → DataW Unit
  | [] => .map []
  | p :: S => (seenD S).put (.int .i64 p) (.lit (.int .i64 1))
theorem seenD_tidy : ∀ S, Tidy (seenD S)
  | [] => tidy_empty
  | p :: S => (seenD_tidy S).put (show WideAt.IsKeyLit (.int .i64 p) from trivial) _
theorem seenD_has (p : Int) : ∀ S, has (seenD S) (.int .i64 p) = decide (p ∈ S)
  | [] => by simp [seenD, has]
  | q :: S => by
    by_cases e : p = q
    · subst e
      rw [seenD, has_put_same (seenD_tidy S).isMap (show WideAt.IsKeyLit (.int .i64 p) from trivial)]
      simp
    · rw [seenD, has_put_other (fun h => e (by injection h)), seenD_has p S]
      simp [e]
theorem seenD_at (p : Int) (z : DataW Unit) : ∀ S, (seenD S).atKey (.int .i64 p) z = if p ∈ S then .lit (.int .i64 1) else z
  | [] => by
    rw [atKey_of_not_has (by rw [seenD_has]; simp)]
    simp
  | q :: S => by
    by_cases e : p = q
    · subst e
      rw [seenD, atKey_put_same (seenD_tidy S).isMap (show WideAt.IsKeyLit (.int .i64 p) from trivial)]
      simp
    · rw [seenD, atKey_put_other (fun h => e (by injection h)), seenD_at p z S]
      simp [e]
theorem seenD_size : ∀ S, S.Nodup → size (seenD S) = S.length
  | [], _ => rfl
  | p :: S, h => by
    obtain ⟨h1, h2⟩ := List.nodup_cons.1 h
    rw [seenD, size_put (seenD_tidy S), seenD_has, seenD_size S h2]
    simp [h1]

def seenF : List S45 → List Int → Option (List Int)
  | [], S => some S
  | c :: r, S => if c.f4 < 1 ∨ 1000 < c.f4 ∨ c.f5 < 1 ∨ 1000 < c.f5 then none
    else if c.f1 = 1 then (if idB c.f6 = false ∨ c.f6 ∈ S then none else seenF r (c.f6 :: S))
    else if c.f6 ≠ 0 ∨ kindB c.f1 = false then none else seenF r S

instance decS : DecidableEq S45 := fun a b => decidable_of_iff (a.f0 = b.f0 ∧ a.f1 = b.f1 ∧ a.f2 = b.f2 ∧ a.f3 = b.f3 ∧ a.f4 = b.f4 ∧ a.f5 = b.f5 ∧ a.f6 = b.f6) (by
  cases a
  cases b
  simp)
def readF : List S45 → Option (Option Tr)
  | [] => some none
  | c :: l => if 64 < (c :: l).length then some none else if sideB c.f4 = false then some none else if sideB c.f5 = false then some none
    else match seenF (c :: l) [] with
      | none => some none
      | some S => if 32 < S.length then some none
        else (growF 1000 (c :: l) 0).bind fun r => match r with
          | none => some none
          | some (t, rest) => if 0 < rest.length then some none else if layT t 0 0 0 = c :: l then some (some t) else some none
theorem law_int : Keyed Tryd.prog 3 := int_keyed Tryd.underlying3
theorem zero_int (w : World) : (zeroValue 3).run Tryd.prog w = .ok (.int .i64 0) w := by kernel_rfl
theorem rd_at (l : List S45) (i : Nat) (h : i < l.length) : rd_T45 l (i : Int) = l[i] := by
  simp [rd_T45, List.getD_eq_getElem?_getD, List.getElem?_eq_getElem h]

/-- what read answers -/
def ReadPost (w : World) (r : Option Tr) (e : Ending) (w' : World) : Prop :=
  match r with
  | none => e = .returned .nilIface ∧ Below w.heap.size w w'
  | some t => ∃ v, e = .returned v ∧ kT.M w' w.heap.size (fun _ => True) t [v] ∧ Below w.heap.size w w'
theorem seenF_step (c : S45) (r : List S45) (S : List Int) : seenF (c :: r) S = if c.f4 < 1 ∨ 1000 < c.f4 ∨ c.f5 < 1 ∨ 1000 < c.f5 then none
    else if c.f1 = 1 then (if idB c.f6 = false ∨ c.f6 ∈ S then none else seenF r (c.f6 :: S))
    else if c.f6 ≠ 0 ∨ kindB c.f1 = false then none else seenF r S := rfl
theorem id_wf {n : Int} (h : idB n = true) : (Lit.int .i64 n).wf = true := by
  simp [idB] at h
  exact WalkArith.wf_i64 (by omega)

theorem cntL_snoc (t : Tr) : ∀ ks, cntL (ks ++ [t]) = cntL ks + cntT t
  | [] => by simp [cntL]
  | k :: r => by
    rw [List.cons_append, cntL, cntL, cntL_snoc t r]
    omega
theorem tail_cnt {c : S45} {kids : List Tr} {sum e : Int} {l rest : List S45} {t : Tr} (h : (if kids.length < 2 then some none else if sum = e then some (some ((⟨c.f1, c.f4, c.f5, 0, kids⟩ : Tr), l)) else some none) = some (some (t, rest))) : cntT t + rest.length = 1 + cntL kids + l.length := by
  split at h
  · simp at h
  · split at h
    · simp only [Option.some.injEq, Prod.mk.injEq] at h
      obtain ⟨rfl, rfl⟩ := h
      simp [cntT]
    · simp at h
theorem grow_cnt : ∀ k, (∀ l d t rest, growF k l d = some (some (t, rest)) → cntT t + rest.length = l.length) ∧ (∀ c d kids sum l t rest, growL k c d kids sum l = some (some (t, rest)) → cntT t + rest.length = 1 + cntL kids + l.length) := by
  intro k
  induction k with
  | zero => exact ⟨fun l d t rest h => by simp [growF] at h, fun c d kids sum l t rest h => by simp [growL] at h⟩
  | succ k ih =>
    obtain ⟨ih1, ih2⟩ := ih
    constructor
    · intro l d t rest h
      cases l with
      | nil => simp [growF] at h
      | cons c r =>
        rw [growF] at h
        split at h
        · simp only [Option.some.injEq, Prod.mk.injEq] at h
          obtain ⟨rfl, rfl⟩ := h
          simp [cntT, cntL]
          omega
        · have := ih2 _ _ _ _ _ _ _ h
          simp [cntL] at this ⊢
          omega
    · intro c d kids sum l t rest h
      cases l with
      | nil =>
        rw [growL, if_neg (by simp)] at h
        exact tail_cnt h
      | cons x r =>
        rw [growL] at h
        split at h
        · split at h
          · simp at h
          · obtain ⟨g, hg, h⟩ := Option.bind_eq_some_iff.1 h
            cases g with
            | none => simp at h
            | some tr =>
              obtain ⟨t', rest'⟩ := tr
              have h1 := ih1 _ _ _ _ hg
              simp only at h
              split at h
              · have h2 := ih2 _ _ _ _ _ _ _ h
                rw [cntL_snoc] at h2
                omega
              · simp at h
        · exact tail_cnt h
theorem cell_eq {a b : S45} (h : (!(a.f0 == b.f0) || (!(a.f1 == b.f1) || (!(a.f2 == b.f2) || (!(a.f3 == b.f3) || (!(a.f4 == b.f4) || (!(a.f5 == b.f5) || !(a.f6 == b.f6))))))) = false) : a = b := by
  cases a
  cases b
  simp only [Bool.or_eq_false_iff, Bool.not_eq_false', beq_iff_eq] at h
  obtain ⟨h0, h1, h2, h3, h4, h5, h6⟩ := h
  subst h0 h1 h2 h3 h4 h5 h6
  rfl
theorem equal_l (a b : List S45) (hn : a.length = b.length) (hb : a.length ≤ 1000000) : ∀ (k i : Nat), i ≤ a.length → a.length < k + i → E.api_Cell.l0 k a b (a.length : Int) (i : Int) = some (decide (a.drop i = b.drop i)) := by
  intro k
  induction k with
  | zero => intro i h1 h2; omega
  | succ k ih =>
    intro i h1 h2
    rw [E.api_Cell.l0]
    by_cases hi : i < a.length
    · have hi' : i < b.length := by omega
      rw [if_pos (by omega), if_pos (by omega), if_pos (by omega), if_pos (by omega), rd_at a i hi, rd_at b i hi']
      have da : a.drop i = a[i] :: a.drop (i + 1) := List.drop_eq_getElem_cons hi
      have db : b.drop i = b[i] :: b.drop (i + 1) := List.drop_eq_getElem_cons hi'
      have hw : wrap64 ((i : Int) + 1) = ((i + 1 : Nat) : Int) := (IntWalk.wrap64_in _ (by omega)).trans (by omega)
      have hiff : (a.drop i = b.drop i) ↔ (a[i] = b[i] ∧ a.drop (i + 1) = b.drop (i + 1)) := by
        rw [da, db]
        simp only [List.cons.injEq]
      split
      · rename_i h
        have hne : ¬ a.drop i = b.drop i := fun e => by
          rw [(hiff.1 e).1] at h
          simp at h
        simp only [hne, decide_false]
      · rename_i h
        have e := cell_eq (by simpa using h)
        rw [hw, ih (i + 1) (by omega) (by omega)]
        simp only [hiff, e, true_and]
    · rw [if_neg (by omega), List.drop_eq_nil_of_le (by omega), List.drop_eq_nil_of_le (by omega)]
      simp
theorem equal_f (a b : List S45) (hb : a.length ≤ 1000) : E.api_Cell.f 10000 a b = some (decide (a = b)) := by
  rw [E.api_Cell.f]
  by_cases hn : a.length = b.length
  · rw [if_pos (by omega)]
    have := equal_l a b hn (by omega) 10000 0 (by omega) (by omega)
    simpa using this
  · rw [if_neg (by omega)]
    have : ¬ a = b := fun e => hn (by rw [e])
    simp [this]

theorem equal_true {a b : List S45} (hb : a.length ≤ 1000) (h : a = b) : E.api_Cell.f 10000 a b = some true := by
  rw [equal_f a b hb]
  simp [h]
theorem equal_false {a b : List S45} (hb : a.length ≤ 1000) (h : ¬ a = b) : E.api_Cell.f 10000 a b = some false := by
  rw [equal_f a b hb]
  simp [h]
set_option maxHeartbeats 16000000 in
set_option maxRecDepth 100000 in
theorem read_calls (A : Option Addr) (c0 : Nat) (l : List S45) (r : Option Tr) (w : World) (hr : Kd.C k45 w A l.length l) (hc : l.length ≤ c0) (h : readF l = some r) :
    Calls Tryd.prog 33 #[.slice A l.length c0] w fun e w' => ReadPost w r e w' := by
  cases l with
  | nil =>
    obtain rfl := Option.some.inj h
    go_enter Tryd.func33, Tryd.ntmps33
    go_wp2
    go_ret
    exact ⟨rfl, Below.refl _ _⟩
  | cons c l =>
  have HR := Lib.hid hr
  obtain ⟨ad, rfl, h0, h1, h2, h3, h4, h5, h6⟩ := at_T45 hr 0 (by omega) (by simp)
  have ec : rd_T45 (c :: l) 0 = c := rfl
  have ea : ad.add (Int.toNat 0 * 7) = ad := rfl
  rw [ec, ea] at h0 h1 h2 h3 h4 h5 h6
  clear ec ea hr
  have HE := Lib.hid h
  have HC := Lib.hid hc
  clear h hc
  have hmm := @run_makeMap Tryd.prog
  generalize hn : (c :: l).length = n at *
  have hn0 : (n : Int) ≠ 0 := by rw [← hn]; simp; omega
  have hn0' : ((n : Int) == 0) = false := beq_eq_false_iff_ne.mpr hn0
  go_enter Tryd.func33, Tryd.ntmps33
  by_cases hn64 : 64 < n
  · have hn64' : decide ((64 : Int) < (n : Int)) = true := decide_eq_true (by omega)
    have e : some none = some r := by have := HE.out; rwa [readF, hn, if_pos hn64] at this
    obtain rfl := Option.some.inj e
    go_wp2
    go_ret
    exact ⟨rfl, Below.refl _ _⟩
  · have hn64' : decide ((64 : Int) < (n : Int)) = false := decide_eq_false (by omega)
    have HE1 := HE.out
    rw [readF, hn, if_neg hn64] at HE1
    clear HE
    by_cases hs1 : sideB c.f4 = false
    · rw [if_pos hs1] at HE1
      obtain rfl := Option.some.inj HE1
      go_wp2_with (go_at_call 49; refine (side_calls c.f4 false hs1 _).mono ?_; rintro e w' ⟨rfl, hw⟩; rw [hw]; clear hw w')
      go_wp2
      go_ret
      exact ⟨rfl, Below.refl _ _⟩
    · rw [if_neg hs1] at HE1
      have hs1 : sideB c.f4 = true := by simpa using hs1
      by_cases hs2 : sideB c.f5 = false
      · rw [if_pos hs2] at HE1
        obtain rfl := Option.some.inj HE1
        go_wp2_with (go_at_call 49; first | (refine (side_calls c.f4 true hs1 _).mono ?_; rintro e w' ⟨rfl, hw⟩; rw [hw]; clear hw w') | (refine (side_calls c.f5 false hs2 _).mono ?_; rintro e w' ⟨rfl, hw⟩; rw [hw]; clear hw w'))
        go_wp2
        go_ret
        exact ⟨rfl, Below.refl _ _⟩
      · rw [if_neg hs2] at HE1
        have hs2 : sideB c.f5 = true := by simpa using hs2
        have HE2 := Lib.hid HE1
        clear HE1
        go_wp2_with (go_at_call 49; first | (refine (side_calls c.f4 true hs1 _).mono ?_; rintro e w' ⟨rfl, hw⟩; rw [hw]; clear hw w') | (refine (side_calls c.f5 true hs2 _).mono ?_; rintro e w' ⟨rfl, hw⟩; rw [hw]; clear hw w'))
        have hB0 : w.heap.size < (w.alloc (.map #[] 0)).heap.size := (World.ownsMap_made (H := Unit) w Tryd.prog 3 (plainElem Tryd.prog 3)).lt
        go_loopg [35] n (fun kq iv wr => ∃ (z : Int) (i : Nat) (S : List Int), iv = .int .i64 z ∧ Aside0 (z = (i : Int)) ∧ Aside0 (i + kq = n) ∧ Aside0 (seenF ((c :: l).drop i) S = seenF (c :: l) []) ∧ Aside0 (S.Nodup ∧ S.length ≤ i) ∧
          Aside0 (wr.ownsMap Tryd.prog 3 (plainElem Tryd.prog 3) w.heap.size i (seenD S)) ∧ Aside0 (Below w.heap.size w wr))
        case atStart =>
          exact ⟨0, 0, [], rfl, ⟨rfl⟩, ⟨by omega⟩, ⟨rfl⟩, ⟨List.nodup_nil, by simp⟩, ⟨World.ownsMap_made _ _ _ _⟩, ⟨(Below.refl _ _).alloc (Nat.le_refl _) _⟩⟩
        case round =>
          clear h0 h1 h2 h3 h4 h5 h6 hs1 hs2 hB0 hmm
          obtain ⟨z, i, S, rfl, HZ, RI, RS, RD, RM, RB⟩ := hrel
          cases gk with
          | zero =>
            have hz : z = (n : Int) := by have := HZ.out; have := RI.out; omega
            have hz' : decide (z < (n : Int)) = false := decide_eq_false (by omega)
            have hSF : seenF (c :: l) [] = some S := by
              have h := RS.out
              have e : i = (c :: l).length := by have := RI.out; omega
              rw [e, List.drop_length] at h
              exact h.symm
            have HE3 := HE2.out
            rw [hSF] at HE3
            have HE3 := Lib.hid HE3
            clear HE2 hz hSF
            have hsz := seenD_size S RD.out.1
            have hlen := RM.out.len Tryd.underlying67 3
            rw [hsz] at hlen
            by_cases h32 : 32 < S.length
            · have h32' : decide ((32 : Int) < (S.length : Int)) = true := decide_eq_true (by omega)
              have e : some none = some r := by have h : (if 32 < S.length then some none else _) = some r := HE3.out; rwa [if_pos h32] at h
              obtain rfl := Option.some.inj e
              go_wp2
              go_ret
              exact ⟨rfl, RB.out⟩
            · have h32' : decide ((32 : Int) < (S.length : Int)) = false := decide_eq_false (by omega)
              have HE4 := HE3.out
              simp only [if_neg h32] at HE4
              obtain ⟨g, hg, HE5⟩ := Option.bind_eq_some_iff.1 HE4
              have G := grow_calls 1000 (by omega) (some ad) c0 (c :: l) 0 g wr (by rw [hn]; exact Kd.C_below HR.out RB.out) (by rw [hn]; exact HC.out) hg
              rw [hn] at G
              have G := Lib.hid G
              have HG := Lib.hid hg
              have HE5 := Lib.hid HE5
              clear HE4 HE3 hg RM RD RS RI
              go_wp2_with (go_at_call 52; refine (G.out).mono ?_)
              cases g with
              | none =>
                rintro e w2 ⟨rfl, b2⟩
                obtain rfl := Option.some.inj HE5.out
                go_wp2
                go_ret
                exact ⟨rfl, RB.out.trans (b2.mono RB.out.size)⟩
              | some tr =>
                obtain ⟨t, rest⟩ := tr
                rintro e w2 ⟨v2, A2, c2, rfl, m2, l2, cc2, b2⟩
                obtain ⟨tp, bt, rfl, _⟩ := tree_value m2
                have hcnt := (grow_cnt 1000).1 _ _ _ _ HG.out
                have B2 := Lib.hid (RB.out.trans (b2.mono RB.out.size))
                have M2 := Lib.hid (kT.M_lower RB.out.size m2)
                clear m2 cc2 b2
                by_cases hrest : 0 < rest.length
                · have hrest' : decide ((0 : Int) < (rest.length : Int)) = true := decide_eq_true (by omega)
                  have e : some none = some r := by have h := HE5.out; simp only [if_pos hrest] at h; exact h
                  obtain rfl := Option.some.inj e
                  go_wp2
                  go_ret
                  exact ⟨rfl, B2.out⟩
                · have hrest' : decide ((0 : Int) < (rest.length : Int)) = false := decide_eq_false (by omega)
                  have HE6 := HE5.out
                  simp only [if_neg hrest] at HE6
                  have HE6 := Lib.hid HE6
                  have hlen := layT_len t 0 0 0
                  have hce : cntT t ≤ 64 := by rw [hn] at hcnt; omega
                  have WR := Lib.hid (write_calls w.heap.size t _ w2 B2.out.size M2.out (by omega))
                  have HRA := Lib.hid (And.intro hlen hce)
                  clear hlen hce hcnt HE5 HG G
                  go_wp2_with (go_at_call 54; refine (WR.out).mono ?_)
                  rintro e w3 ⟨A3, c3, rfl, l3, C3, B3, A3'⟩
                  have F3 := Lib.hid (And.intro B3 A3')
                  have EQ : (layT t 0 0 0).length ≤ 1000 := by have := HRA.out; omega
                  have CE := Lib.hid (fun b hb => E.api_Cell.calls 10000 A3 c3 (layT t 0 0 0) (some ad) c0 (c :: l) b w3 C3 l3 (by rw [hn]; exact Kd.C_below HR.out (B2.out.trans B3)) (by rw [hn]; exact HC.out) hb)
                  clear C3 l3 B3 A3'
                  by_cases heq : layT t 0 0 0 = c :: l
                  · have EQ1 : E.api_Cell.f 10000 (layT t 0 0 0) (c :: l) = some true := equal_true EQ heq
                    have e : some (some t) = some r := by have h := HE6.out; rwa [if_pos heq] at h
                    obtain rfl := Option.some.inj e
                    have CE1 := CE.out true EQ1
                    rw [hn] at CE1
                    have CE1 := Lib.hid CE1
                    clear heq EQ EQ1
                    go_wp2_with (go_at_call 53; refine (CE1.out).mono ?_; rintro e w' ⟨rfl, ⟨m4, rfl⟩⟩)
                    go_ret
                    refine ⟨.iface tp (.pointer (some ⟨bt, 0, none⟩)), rfl, ?_, pw_below_drewN (B2.out.trans F3.out.1) _⟩
                    have M3 := kT_alike (w1 := w3) (kT.M_mono (ok' := fun k => k < w2.heap.size) (fun k hk => hk.2.2.1) (kT.M_bound M2.out)) F3.out.2
                    exact kT.M_mono (fun _ _ => trivial) (kT_alike (w1 := w3.drewN m4) M3 (fun k _ => .refl _))
                  · have EQ1 : E.api_Cell.f 10000 (layT t 0 0 0) (c :: l) = some false := equal_false EQ heq
                    have e : some none = some r := by have h := HE6.out; rwa [if_neg heq] at h
                    obtain rfl := Option.some.inj e
                    have CE1 := CE.out false EQ1
                    rw [hn] at CE1
                    have CE1 := Lib.hid CE1
                    clear heq EQ EQ1
                    go_wp2_with (go_at_call 53; refine (CE1.out).mono ?_; rintro e w' ⟨rfl, ⟨m4, rfl⟩⟩)
                    go_ret
                    exact ⟨rfl, pw_below_drewN (B2.out.trans F3.out.1) _⟩
          | succ gk =>
            have hiL : i < (c :: l).length := by have := RI.out; omega
            have hz0 : 0 ≤ z := by have := HZ.out; omega
            have hzn : z < (n : Int) := by have := HZ.out; have := RI.out; omega
            have hz' : decide (z < (n : Int)) = true := decide_eq_true hzn
            obtain ⟨ad', e', q0, q1, q2, q3, q4, q5, q6⟩ := at_T45 (Kd.C_below HR.out RB.out) z hz0 hzn
            cases e'
            have ex : rd_T45 (c :: l) z = (c :: l)[i] := by rw [HZ.out]; exact rd_at _ i hiL
            have hdr : (c :: l).drop i = (c :: l)[i] :: (c :: l).drop (i + 1) := List.drop_eq_getElem_cons hiL
            rw [ex] at q0 q1 q2 q3 q4 q5 q6
            generalize (c :: l)[i] = x at q0 q1 q2 q3 q4 q5 q6 hdr
            have HS := RS.out
            rw [hdr, seenF_step] at HS
            have HS := Lib.hid HS
            have hz0' : (0 ≤ z) = True := eq_true hz0
            have hzn' : (z < (n : Int)) = True := eq_true hzn
            clear RS hdr ex hz0 hzn
            by_cases b1 : x.f4 < 1
            · have b1' : decide (x.f4 < 1) = true := decide_eq_true b1
              have hSF : seenF (c :: l) [] = none := by have h := HS.out; rw [if_pos (by omega)] at h; exact h.symm
              have HE3 := HE2.out
              rw [hSF] at HE3
              obtain rfl := Option.some.inj HE3
              go_wp2
              go_ret
              exact ⟨rfl, RB.out.alloc RB.out.size _⟩
            · have b1' : decide (x.f4 < 1) = false := decide_eq_false b1
              by_cases b2 : 1000 < x.f4
              · have b2' : decide (1000 < x.f4) = true := decide_eq_true b2
                have hSF : seenF (c :: l) [] = none := by have h := HS.out; rw [if_pos (by omega)] at h; exact h.symm
                have HE3 := HE2.out
                rw [hSF] at HE3
                obtain rfl := Option.some.inj HE3
                go_wp2
                go_ret
                exact ⟨rfl, RB.out.alloc RB.out.size _⟩
              · have b2' : decide (1000 < x.f4) = false := decide_eq_false b2
                by_cases b3 : x.f5 < 1
                · have b3' : decide (x.f5 < 1) = true := decide_eq_true b3
                  have hSF : seenF (c :: l) [] = none := by have h := HS.out; rw [if_pos (by omega)] at h; exact h.symm
                  have HE3 := HE2.out
                  rw [hSF] at HE3
                  obtain rfl := Option.some.inj HE3
                  go_wp2
                  go_ret
                  exact ⟨rfl, RB.out.alloc RB.out.size _⟩
                · have b3' : decide (x.f5 < 1) = false := decide_eq_false b3
                  by_cases b4 : 1000 < x.f5
                  · have b4' : decide (1000 < x.f5) = true := decide_eq_true b4
                    have hSF : seenF (c :: l) [] = none := by have h := HS.out; rw [if_pos (by omega)] at h; exact h.symm
                    have HE3 := HE2.out
                    rw [hSF] at HE3
                    obtain rfl := Option.some.inj HE3
                    go_wp2
                    go_ret
                    exact ⟨rfl, RB.out.alloc RB.out.size _⟩
                  · have b4' : decide (1000 < x.f5) = false := decide_eq_false b4
                    have HS1 := HS.out
                    rw [if_neg (by omega)] at HS1
                    clear HS b1 b2 b3 b4
                    by_cases kx : x.f1 = 1
                    · have kx' : (x.f1 == 1) = true := beq_iff_eq.mpr kx
                      rw [if_pos kx] at HS1
                      clear kx
                      by_cases hid : idB x.f6 = false
                      · rw [if_pos (Or.inl hid)] at HS1
                        have HE3 := HE2.out
                        rw [← HS1] at HE3
                        obtain rfl := Option.some.inj HE3
                        go_wp2_with (go_at_call 50; refine (id_calls x.f6 false hid _).mono ?_; rintro e w' ⟨rfl, hw⟩; rw [hw]; clear hw w')
                        go_ret
                        exact ⟨rfl, RB.out.alloc RB.out.size _⟩
                      · have hid1 : idB x.f6 = true := by simpa using hid
                        obtain ⟨cv, hrun, hat, _⟩ := (RM.out.alloc (.cells #[.int .i64 x.f0, .int .i64 x.f1, .int .i64 x.f2, .int .i64 x.f3, .int .i64 x.f4, .int .i64 x.f5, .int .i64 x.f6] 45 (0, 0))).lookup_int law_int Tryd.underlying67 Tryd.underlying3 (zero_int _) (keyOf_int_mk Tryd.underlying3 (id_wf hid1))
                        rw [seenD_at] at hat
                        by_cases hmem : x.f6 ∈ S
                        · rw [if_pos hmem] at hat
                          rw [if_pos (Or.inr hmem)] at HS1
                          obtain rfl : cv = 1 := by injection hat with h; injection h with _ h; exact h.symm
                          have HE3 := HE2.out
                          rw [← HS1] at HE3
                          obtain rfl := Option.some.inj HE3
                          clear hat hmem
                          go_wp2_with (go_at_call 50; refine (id_calls x.f6 true hid1 _).mono ?_; rintro e w' ⟨rfl, hw⟩; rw [hw]; clear hw w')
                          go_ret
                          exact ⟨rfl, RB.out.alloc RB.out.size _⟩
                        · rw [if_neg hmem] at hat
                          rw [if_neg (by rw [hid1]; simp [hmem])] at HS1
                          obtain rfl : cv = 0 := by injection hat with h; injection h with _ h; exact h.symm
                          have HS2 := Lib.hid HS1
                          have HM := Lib.hid hmem
                          have MW := Lib.hid (RM.out.alloc (.cells #[.int .i64 x.f0, .int .i64 x.f1, .int .i64 x.f2, .int .i64 x.f3, .int .i64 x.f4, .int .i64 x.f5, .int .i64 x.f6] 45 (0, 0)))
                          have HK := Lib.hid (keyOf_int_mk Tryd.underlying3 (id_wf hid1))
                          clear HS1 hmem hid hat
                          go_wp2_with (first
                            | (go_at_call 50; refine (id_calls x.f6 true hid1 _).mono ?_; rintro e w' ⟨rfl, hw⟩; rw [hw]; clear hw w')
                            | (at_mapUpdate; refine wpList_mapUpdate_own _ rfl _ _ _ 67 rfl 3 3 law_int Tryd.underlying67 _ w.heap.size i _ rfl MW.out (by have := RI.out; unfold maxLen; omega) _ _ _ rfl rfl HK.out _ [] (plainElem_int Tryd.underlying3 (by decide)) ?_; intro w1 hown1 hgrow1))
                          have hw1 : wrap64 (z + 1) = ((i + 1 : Nat) : Int) := by
                            have := HZ.out
                            have := RI.out
                            exact (IntWalk.wrap64_in _ (by omega)).trans (by omega)
                          go_roundg gk
                          case measure => omega
                          case rel =>
                            refine ⟨wrap64 (z + 1), i + 1, x.f6 :: S, rfl, ⟨hw1⟩, ⟨by have := RI.out; omega⟩, ⟨HS2.out⟩, ⟨List.nodup_cons.2 ⟨HM.out, RD.out.1⟩, by have := RD.out.2; simp; omega⟩, ⟨hown1⟩, ⟨?_⟩⟩
                            exact (RB.out.alloc RB.out.size _).grown hgrow1 (RB.out.alloc RB.out.size (.cells #[.int .i64 x.f0, .int .i64 x.f1, .int .i64 x.f2, .int .i64 x.f3, .int .i64 x.f4, .int .i64 x.f5, .int .i64 x.f6] 45 (0, 0))).size (fun j hj => by cases hj; exact Nat.le_refl _)
                    · have kx' : (x.f1 == 1) = false := beq_eq_false_iff_ne.mpr kx
                      rw [if_neg kx] at HS1
                      clear kx
                      by_cases h6 : x.f6 = 0
                      · have h6' : (x.f6 != 0) = false := bne_eq_false_iff_eq.mpr h6
                        by_cases hkd : kindB x.f1 = false
                        · rw [if_pos (Or.inr hkd)] at HS1
                          have HE3 := HE2.out
                          rw [← HS1] at HE3
                          obtain rfl := Option.some.inj HE3
                          clear h6
                          go_wp2_with (go_at_call 51; refine (kindOf_calls x.f1 false hkd _).mono ?_; rintro e w' ⟨rfl, hw⟩; rw [hw]; clear hw w')
                          go_ret
                          exact ⟨rfl, RB.out.alloc RB.out.size _⟩
                        · have hkd1 : kindB x.f1 = true := by simpa using hkd
                          rw [if_neg (by rw [hkd1, h6]; simp)] at HS1
                          have HS2 := Lib.hid HS1
                          clear HS1 h6 hkd
                          go_wp2_with (go_at_call 51; refine (kindOf_calls x.f1 true hkd1 _).mono ?_; rintro e w' ⟨rfl, hw⟩; rw [hw]; clear hw w')
                          have hw1 : wrap64 (z + 1) = ((i + 1 : Nat) : Int) := by
                            have := HZ.out
                            have := RI.out
                            exact (IntWalk.wrap64_in _ (by omega)).trans (by omega)
                          go_roundg gk
                          case measure => omega
                          case rel =>
                            exact ⟨wrap64 (z + 1), i + 1, S, rfl, ⟨hw1⟩, ⟨by have := RI.out; omega⟩, ⟨HS2.out⟩, ⟨RD.out.1, by have := RD.out.2; omega⟩, ⟨(RM.out.alloc _).mono (by omega)⟩, ⟨RB.out.alloc RB.out.size _⟩⟩
                      · have h6' : (x.f6 != 0) = true := bne_iff_ne.mpr h6
                        rw [if_pos (Or.inl h6)] at HS1
                        have HE3 := HE2.out
                        rw [← HS1] at HE3
                        obtain rfl := Option.some.inj HE3
                        clear h6
                        go_wp2
                        go_ret
                        exact ⟨rfl, RB.out.alloc RB.out.size _⟩
end Go.Proofs.YtmpnkckaohfflaaDoor.PGiv
