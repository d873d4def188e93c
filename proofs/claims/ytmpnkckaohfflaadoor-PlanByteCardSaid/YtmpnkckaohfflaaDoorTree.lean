/- The program's trees of a layout, as they lie in memory: a cell is a pane or a split, behind an interface value. No condition. -/
import Derived.Test.YtmpnkckaohfflaaDoorK0
import Derived.Test.YtmpnkckaohfflaaDoorK1
namespace Go.Proofs.YtmpnkckaohfflaaDoor.PGiv
open Go.RowKit Go.Proofs.YtmpnkckaohfflaaDoorW.PrintWords Go.Proofs.YtmpnkckaohfflaaDoorW.PrintLast Go.Proofs.YtmpnkckaohfflaaDoorW.PrintMore
set_option linter.unusedVariables false
set_option linter.unusedSimpArgs false

/-- a tree: a pane is of kind 1, without children; where it lies is not told -/
structure Tr where
  kind : Int
  w : Int
  h : Int
  id : Int
  kids : List Tr

/-- a pane's block -/
def paneAt (w : World) (b : Nat) (t : Tr) : Prop := ∃ x y : Int, w.heap[b]? = some (.cells #[.int .i64 x, .int .i64 y, .int .i64 t.w, .int .i64 t.h, .int .i64 t.id] 107 (0, 0))
/-- a split's block -/
def splitAt (w : World) (b : Nat) (t : Tr) (v : Value) : Prop := ∃ x y : Int, w.heap[b]? = some (.cells #[.int .i64 x, .int .i64 y, .int .i64 t.w, .int .i64 t.h, .int .i64 t.kind, v] 120 (0, 0))
abbrev paneV (b : Nat) : Value := .iface 103 (.pointer (some ⟨b, 0, none⟩))
abbrev splitV (b : Nat) : Value := .iface 117 (.pointer (some ⟨b, 0, none⟩))

def MT (d : Kd Tr) (w : World) (base : Nat) (ok : Nat → Prop) (t : Tr) (cs : List Value) : Prop :=
  (t.kind = 1 ∧ t.kids = [] ∧ ∃ b, cs = [paneV b] ∧ ok b ∧ base ≤ b ∧ paneAt w b t) ∨
  (t.kind ≠ 1 ∧ t.id = 0 ∧ ∃ b v, cs = [splitV b] ∧ ok b ∧ base ≤ b ∧ splitAt w b t v ∧ d.R 65 w base (fun k => ok k ∧ k ≠ b) v t.kids)

theorem block_lt {w : World} {b : Nat} {o : Obj} (h : w.heap[b]? = some o) : b < w.heap.size := by
  rcases Nat.lt_or_ge b w.heap.size with h' | h'
  · exact h'
  · rw [Array.getElem?_eq_none h'] at h
    cases h
section
variable {d : Kd Tr} {w w1 : World} {base base' : Nat} {ok ok' : Nat → Prop} {t : Tr} {cs : List Value}
theorem MT_len (h : MT d w base ok t cs) : cs.length = 1 := by
  rcases h with ⟨_, _, b, rfl, _⟩ | ⟨_, _, b, v, rfl, _⟩ <;> rfl
theorem MT_one (h : MT d w base ok t cs) : ∀ u ∈ cs, u.oneCell' = true := by
  rcases h with ⟨_, _, b, rfl, _⟩ | ⟨_, _, b, v, rfl, _⟩ <;> (intro u hu; rw [List.mem_singleton.1 hu]; rfl)
theorem MT_mono (hok : ∀ k, ok k → ok' k) (h : MT d w base ok t cs) : MT d w base ok' t cs := by
  rcases h with ⟨k1, k2, b, rfl, ho, hb, hp⟩ | ⟨k1, k2, b, v, rfl, ho, hb, hp, hr⟩
  · exact .inl ⟨k1, k2, b, rfl, hok b ho, hb, hp⟩
  · exact .inr ⟨k1, k2, b, v, rfl, hok b ho, hb, hp, Kd.R_mono hr (fun k hk => ⟨hok k hk.1, hk.2⟩)⟩
theorem MT_move (hm : ∀ k, ok k → w1.heap[k]? = w.heap[k]?) (h : MT d w base ok t cs) : MT d w1 base ok t cs := by
  rcases h with ⟨k1, k2, b, rfl, ho, hb, x, y, hp⟩ | ⟨k1, k2, b, v, rfl, ho, hb, ⟨x, y, hp⟩, hr⟩
  · exact .inl ⟨k1, k2, b, rfl, ho, hb, x, y, (hm b ho).trans hp⟩
  · exact .inr ⟨k1, k2, b, v, rfl, ho, hb, ⟨x, y, (hm b ho).trans hp⟩, Kd.R_move hr (fun k hk => hm k hk.1)⟩
theorem MT_lower (hb' : base' ≤ base) (h : MT d w base ok t cs) : MT d w base' ok t cs := by
  rcases h with ⟨k1, k2, b, rfl, ho, hb, hp⟩ | ⟨k1, k2, b, v, rfl, ho, hb, hp, hr⟩
  · exact .inl ⟨k1, k2, b, rfl, ho, by omega, hp⟩
  · exact .inr ⟨k1, k2, b, v, rfl, ho, by omega, hp, Kd.R_lower hr hb'⟩
theorem MT_bound (h : MT d w base ok t cs) : MT d w base (fun k => ok k ∧ base ≤ k ∧ k < w.heap.size ∧ ∃ q, q ∈ 107 :: 120 :: 65 :: d.E ∧ ∃ cells, w.heap[k]? = some (.cells cells q (0, 0))) t cs := by
  rcases h with ⟨k1, k2, b, rfl, ho, hb, x, y, hp⟩ | ⟨k1, k2, b, v, rfl, ho, hb, ⟨x, y, hp⟩, hr⟩
  · exact .inl ⟨k1, k2, b, rfl, ⟨ho, hb, block_lt hp, _, List.mem_cons_self, _, hp⟩, hb, x, y, hp⟩
  · refine .inr ⟨k1, k2, b, v, rfl, ⟨ho, hb, block_lt hp, _, List.mem_cons_of_mem _ List.mem_cons_self, _, hp⟩, hb, ⟨x, y, hp⟩, Kd.R_mono (Kd.R_bound hr) ?_⟩
    rintro k ⟨⟨h1, h2⟩, h3, h4, q, hq, hc⟩
    exact ⟨⟨h1, h3, h4, q, List.mem_cons_of_mem _ (List.mem_cons_of_mem _ hq), hc⟩, h2⟩
theorem MT_step (h : MT d w base ok t cs) (hm : ∀ k, ok k → k < w.heap.size → w1.heap[k]? = w.heap[k]?) : MT d w1 base ok t cs :=
  MT_mono (fun _ hk => hk.1) (MT_move (fun k hk => hm k hk.1 hk.2.2.1) (MT_bound h))
end

/-- a tree, read -/
def KT (d : Kd Tr) (w : World) (t : Tr) (cs : List Value) : Prop :=
  (t.kind = 1 ∧ t.kids = [] ∧ ∃ b, cs = [paneV b] ∧ paneAt w b t) ∨
  (t.kind ≠ 1 ∧ t.id = 0 ∧ ∃ b A c, cs = [splitV b] ∧ splitAt w b t (.slice A t.kids.length c) ∧ t.kids.length ≤ c ∧ d.C w A t.kids.length t.kids)
section
variable {d : Kd Tr} {w w1 : World} {base : Nat} {ok : Nat → Prop} {t : Tr} {cs : List Value}
theorem KT_len (h : KT d w t cs) : cs.length = 1 := by
  rcases h with ⟨_, _, b, rfl, _⟩ | ⟨_, _, b, A, c, rfl, _⟩ <;> rfl
theorem KT_one (h : KT d w t cs) : ∀ u ∈ cs, u.oneCell' = true := by
  rcases h with ⟨_, _, b, rfl, _⟩ | ⟨_, _, b, A, c, rfl, _⟩ <;> (intro u hu; rw [List.mem_singleton.1 hu]; rfl)
theorem KT_below (hb : Below w.heap.size w w1) (h : KT d w t cs) : KT d w1 t cs := by
  rcases h with ⟨k1, k2, b, rfl, x, y, hp⟩ | ⟨k1, k2, b, A, c, rfl, ⟨x, y, hp⟩, hl, hr⟩
  · exact .inl ⟨k1, k2, b, rfl, x, y, (hb.block b (block_lt hp)).trans hp⟩
  · exact .inr ⟨k1, k2, b, A, c, rfl, ⟨x, y, (hb.block b (block_lt hp)).trans hp⟩, hl, Kd.C_below hr hb⟩
theorem KT_of (h : MT d w base ok t cs) : KT d w t cs := by
  rcases h with ⟨k1, k2, b, rfl, _, _, hp⟩ | ⟨k1, k2, b, v, rfl, _, _, hp, hr⟩
  · exact .inl ⟨k1, k2, b, rfl, hp⟩
  · obtain ⟨A, c, rfl, hl, hc⟩ := Kd.R_reads hr
    exact .inr ⟨k1, k2, b, A, c, rfl, hp, hl, hc⟩
end
/-- the kind of an interface value that holds a tree -/
def FT (d : Kd Tr) : Kd Tr where
  sz := 1
  E := 107 :: 120 :: 65 :: d.E
  K := KT d
  M := MT d
  K_len := KT_len
  K_one := KT_one
  K_below := KT_below
  K_of_M := KT_of
  M_mono := MT_mono
  M_bound := MT_bound
  M_move := MT_move
  M_lower := MT_lower
theorem MT_imp {d d' : Kd Tr} (hs : d.sz = d'.sz) (h : ∀ w base ok x cs, d.M w base ok x cs → d'.M w base ok x cs) {w : World} {base : Nat} {ok : Nat → Prop} {t : Tr} {cs : List Value} (hm : MT d w base ok t cs) : MT d' w base ok t cs := by
  rcases hm with ⟨k1, k2, b, rfl, ho, hb, hp⟩ | ⟨k1, k2, b, v, rfl, ho, hb, hp, hr⟩
  · exact .inl ⟨k1, k2, b, rfl, ho, hb, hp⟩
  · exact .inr ⟨k1, k2, b, v, rfl, ho, hb, hp, Kd.R_imp hs h hr⟩
theorem subT : Kd.Sub FT [107, 120, 65] := fun d h q hq => by
  have hq' : q ∈ 107 :: 120 :: 65 :: d.E := hq
  simp only [List.mem_cons] at hq' ⊢
  rcases hq' with e | e | e | e
  · exact .inl e
  · exact .inr (.inl e)
  · exact .inr (.inr (.inl e))
  · have := h q e
    simpa [List.mem_cons] using this
theorem szT : ∀ n, (Kd.upto FT 1 [107, 120, 65] n).sz = 1 := Kd.upto_sz (fun _ => rfl)
/-- a tree, however deep -/
def kT : Kd Tr := Kd.fix FT 1 [107, 120, 65] szT (Kd.upto_E subT)
theorem monoT : Kd.Mono FT := by
  refine ⟨fun _ _ _ => rfl, ?_, fun d d' hs h w base ok x cs hm => MT_imp hs h hm⟩
  rintro d d' hs h w t cs (⟨k1, k2, b, rfl, hp⟩ | ⟨k1, k2, b, A, c, rfl, hp, hl, hr⟩)
  · exact .inl ⟨k1, k2, b, rfl, hp⟩
  · exact .inr ⟨k1, k2, b, A, c, rfl, hp, hl, Kd.C_imp hs h hr⟩

section
variable {w w1 : World} {base : Nat} {ok : Nat → Prop} {t : Tr} {cs : List Value}
/-- a tree that was made: its block, and its children's row -/
theorem kT_open (h : kT.M w base ok t cs) : MT kT w base ok t cs := by
  obtain ⟨n, h⟩ := h
  cases n with
  | zero => exact h.elim
  | succ n =>
    rcases h with ⟨k1, k2, b, rfl, ho, hb, hp⟩ | ⟨k1, k2, b, v, rfl, ho, hb, hp, hr⟩
    · exact .inl ⟨k1, k2, b, rfl, ho, hb, hp⟩
    · exact .inr ⟨k1, k2, b, v, rfl, ho, hb, hp, Kd.fix_R hr⟩
theorem kT_mk (h : MT kT w base ok t cs) : kT.M w base ok t cs := by
  rcases h with ⟨k1, k2, b, rfl, ho, hb, hp⟩ | ⟨k1, k2, b, v, rfl, ho, hb, hp, hr⟩
  · exact ⟨1, .inl ⟨k1, k2, b, rfl, ho, hb, hp⟩⟩
  · obtain ⟨n, q⟩ := Kd.fix_R_back monoT hr
    exact ⟨n + 1, .inr ⟨k1, k2, b, v, rfl, ho, hb, hp, q⟩⟩

/-- two blocks alike but for where a box lies -/
def Alike (a b : Option Obj) : Prop :=
  b = a ∨ (∃ x y x' y' r1 r2 r3, a = some (.cells #[.int .i64 x, .int .i64 y, r1, r2, r3] 107 (0, 0)) ∧ b = some (.cells #[.int .i64 x', .int .i64 y', r1, r2, r3] 107 (0, 0))) ∨
    (∃ x y x' y' r1 r2 r3 r4, a = some (.cells #[.int .i64 x, .int .i64 y, r1, r2, r3, r4] 120 (0, 0)) ∧ b = some (.cells #[.int .i64 x', .int .i64 y', r1, r2, r3, r4] 120 (0, 0)))
theorem Alike.refl (a : Option Obj) : Alike a a := .inl rfl
theorem Alike.trans {a b c : Option Obj} (h : Alike a b) (k : Alike b c) : Alike a c := by
  rcases h with rfl | ⟨x, y, x', y', r1, r2, r3, rfl, rfl⟩ | ⟨x, y, x', y', r1, r2, r3, r4, rfl, rfl⟩
  · exact k
  · rcases k with rfl | ⟨x2, y2, x3, y3, s1, s2, s3, e, rfl⟩ | ⟨x2, y2, x3, y3, s1, s2, s3, s4, e, rfl⟩
    · exact .inr (.inl ⟨_, _, _, _, _, _, _, rfl, rfl⟩)
    · injection e with e
      injection e with e _ _
      simp only [Array.mk.injEq, List.cons.injEq] at e
      obtain ⟨_, _, rfl, rfl, rfl, _⟩ := e
      exact .inr (.inl ⟨_, _, _, _, _, _, _, rfl, rfl⟩)
    · injection e with e
      injection e with e _ _
      simp at e
  · rcases k with rfl | ⟨x2, y2, x3, y3, s1, s2, s3, e, rfl⟩ | ⟨x2, y2, x3, y3, s1, s2, s3, s4, e, rfl⟩
    · exact .inr (.inr ⟨_, _, _, _, _, _, _, _, rfl, rfl⟩)
    · injection e with e
      injection e with e _ _
      simp at e
    · injection e with e
      injection e with e _ _
      simp only [Array.mk.injEq, List.cons.injEq] at e
      obtain ⟨_, _, rfl, rfl, rfl, rfl, _⟩ := e
      exact .inr (.inr ⟨_, _, _, _, _, _, _, _, rfl, rfl⟩)
theorem Alike.row {w w1 : World} {k : Nat} {cells : Array Value} (h : Alike w.heap[k]? w1.heap[k]?) (hc : w.heap[k]? = some (.cells cells 65 (0, 0))) : w1.heap[k]? = w.heap[k]? := by
  rcases h with h | ⟨x, y, x', y', r1, r2, r3, e, _⟩ | ⟨x, y, x', y', r1, r2, r3, r4, e, _⟩
  · exact h
  · rw [hc] at e
    injection e with e
    injection e with _ e _
    cases e
  · rw [hc] at e
    injection e with e
    injection e with _ e _
    cases e
theorem paneAt_alike {b : Nat} (h : Alike w.heap[b]? w1.heap[b]?) (hp : paneAt w b t) : paneAt w1 b t := by
  obtain ⟨x, y, hp⟩ := hp
  rcases h with h | ⟨x0, y0, x', y', r1, r2, r3, e, e'⟩ | ⟨x0, y0, x', y', r1, r2, r3, r4, e, _⟩
  · exact ⟨x, y, h.trans hp⟩
  · rw [hp] at e
    injection e with e
    injection e with e _ _
    simp only [Array.mk.injEq, List.cons.injEq] at e
    obtain ⟨_, _, rfl, rfl, rfl, _⟩ := e
    exact ⟨x', y', e'⟩
  · rw [hp] at e
    injection e with e
    injection e with e _ _
    simp at e
theorem splitAt_alike {b : Nat} {v : Value} (h : Alike w.heap[b]? w1.heap[b]?) (hp : splitAt w b t v) : splitAt w1 b t v := by
  obtain ⟨x, y, hp⟩ := hp
  rcases h with h | ⟨x0, y0, x', y', r1, r2, r3, e, _⟩ | ⟨x0, y0, x', y', r1, r2, r3, r4, e, e'⟩
  · exact ⟨x, y, h.trans hp⟩
  · rw [hp] at e
    injection e with e
    injection e with e _ _
    simp at e
  · rw [hp] at e
    injection e with e
    injection e with e _ _
    simp only [Array.mk.injEq, List.cons.injEq] at e
    obtain ⟨_, _, rfl, rfl, rfl, rfl, _⟩ := e
    exact ⟨x', y', e'⟩
/-- a tree stays, whatever its boxes' places become -/
theorem upto_alike : ∀ (n : Nat) {t : Tr} {ok : Nat → Prop} {cs : List Value}, (Kd.upto FT 1 [107, 120, 65] n).M w base ok t cs → (∀ k, ok k → Alike w.heap[k]? w1.heap[k]?) → (Kd.upto FT 1 [107, 120, 65] n).M w1 base ok t cs := by
  intro n
  induction n with
  | zero => intro t ok cs h _; exact h.elim
  | succ n ih =>
    intro t ok cs h hm
    rcases h with ⟨k1, k2, b, rfl, ho, hb, hp⟩ | ⟨k1, k2, b, v, rfl, ho, hb, hp, h0, inner, hown, hr⟩
    · exact .inl ⟨k1, k2, b, rfl, ho, hb, paneAt_alike (hm b ho) hp⟩
    · refine .inr ⟨k1, k2, b, v, rfl, ho, hb, splitAt_alike (hm b ho) hp, h0, inner, ?_, hr.imp_ (fun _ _ hp => ih hp (fun k hk => hm k hk.1.1))⟩
      refine own_move hown (fun k hk => ?_)
      obtain ⟨cells, hc⟩ := own_typed hown k hk
      exact (hm k (h0 k hk).1).row hc
theorem kT_alike (h : kT.M w base ok t cs) (hm : ∀ k, ok k → Alike w.heap[k]? w1.heap[k]?) : kT.M w1 base ok t cs := by
  obtain ⟨n, h⟩ := h
  exact ⟨n, upto_alike n h hm⟩
end
end Go.Proofs.YtmpnkckaohfflaaDoor.PGiv
