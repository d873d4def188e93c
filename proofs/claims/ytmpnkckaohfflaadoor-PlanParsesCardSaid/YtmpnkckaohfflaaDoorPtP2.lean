/- Of the texts of this claim, what it needs, put together by a program of this claim's author. Conditions: as each theorem says. -/
import Derived.Test.YtmpnkckaohfflaaDoorProg
import Derived.Below
import Derived.Deep.Draws
import Derived.Deep.AppendLies
import Derived.Maps.AppendAt
import Derived.OwnWalk
import Derived.Laws.BytesArg
import Derived.Laws.MakeOwn
import Derived.Laws.OwnMore
import Derived.Deep.OwnRows
import Derived.Tactics
import Derived.Lib.ConvBytes
import Derived.Laws.Slices
import Derived.WalkKit
import Derived.KernelRfl
import Derived.RowKit3
import Derived.Deep.LoopGhost
import Derived.Deep.QuietTactic
import Derived.BigQuiet
import Derived.WideLaws
import Derived.Deep.DeepCutAuto
import Derived.Deep.CutBlock
import Derived.Deep.RegionHeld3
import Derived.Laws.Rows
import Derived.Lib.AppendStr
import Derived.ArgAppend
import Derived.Laws.IdiomCopy
import Derived.OrdersHeld
import Derived.Laws.BitsLemmas
import Derived.RowKit
import Derived.BigCall
import Derived.Lib.Hide
import Derived.Deep.RegionLaw
import Derived.BigRegion
import Derived.Maps.OwnSet
import Derived.Lib.Builder
import Derived.Lib.UnsafeStr
import Derived.Lib.OthersKept
import Derived.Shelf.Strings.Builder1
import Derived.Shelf.Small.Strs
import Derived.Shelf.Strings.BuilderF
import Derived.Shelf.Strings.BuilderK
import Derived.Shelf.Strconv.Atoi
import Derived.Shelf.Strconv.Itoa0
import Derived.Shelf.Strconv.Itoa1
import Derived.Shelf.LaysM
import Derived.Shelf.Strconv.Itoa2
import Derived.Shelf.Strconv.Itoa3
import Derived.Shelf.Strconv.AtoiErrFast
import Derived.Shelf.Strconv.ParseIntEmpty
import Derived.Shelf.Strconv.AtoiFail
import Derived.Shelf.Strconv.Clone
import Derived.Shelf.Strconv.SyntaxError
import Derived.Shelf.LaysC
import Derived.Shelf.Strconv.ToError
import Derived.Shelf.Strconv.Lower
import Derived.Shelf.Strconv.ParseUint10
import Derived.Shelf.Strconv.ParseUint10Empty
import Derived.Shelf.Strconv.ParseUint10Any
import Derived.Shelf.Strconv.ParseInt10
import Derived.Shelf.Strconv.AtoiLong
import Derived.Shelf.Strconv.AtoiInnerAll
import Derived.Shelf.Strconv.RangeError
import Derived.Shelf.Strconv.ToErrorRange
import Derived.Shelf.Strconv.AtoiAll
import Derived.Shelf.Strconv.ErrVarAll
import Derived.Shelf.Strings.Search1
import Derived.WalkSmall
import Derived.Lib.AtoiAllCases
import Derived.Lib.AtoiErrMem
import Derived.Lib.LaidTab
import Derived.Lib.SmallJoins
import Derived.Lib.AppendIntMem
import Derived.Lib.ItoaLen
import Derived.Defers
import Derived.Recover
import Derived.Test.YtmpnkckaohfflaaDoorPtP1
section
namespace Go.Proofs.YtmpnkckaohfflaaDoor.K
open Go.RowKit Go.Proofs.YtmpnkckaohfflaaDoorW.PrintWords Go.Proofs.YtmpnkckaohfflaaDoorW.PrintLast Go.Proofs.YtmpnkckaohfflaaDoorW.PrintMore
attribute [local go_sem] max2_int min2_int max_two min_two max_three min_three max_four min_four
set_option linter.unusedVariables false
set_option linter.unusedSimpArgs false
def errW : Option Int → Value
 | none => .nilIface
 | some c => .iface 0 (.int .i64 c)
theorem errW_none : errW none = .nilIface := rfl
theorem errW_some (c : Int) : errW (some c) = .iface 0 (.int .i64 c) := rfl
theorem info3 : (Tryd.prog.info? 3).map (fun i => (i.zero, i.size, i.bytes)) = some (some (.int .i64 0), 1, 8) := by kernel_rfl
theorem info45 : (Tryd.prog.info? 45).map (fun i => (i.zero, i.size, i.bytes)) = some (some (.agg #[(.int .i64 0), (.int .i64 0), (.int .i64 0), (.int .i64 0), (.int .i64 0), (.int .i64 0), (.int .i64 0)]), 7, 56) := by kernel_rfl
theorem info72 : (Tryd.prog.info? 72).map (fun i => (i.zero, i.size, i.bytes)) = some (some (.agg #[(.int .i64 0), (.int .i64 0), (.int .i64 0), (.int .i64 0), (.slice none 0 0)]), 5, 56) := by kernel_rfl
structure S45 where
 f0 : Int
 f1 : Int
 f2 : Int
 f3 : Int
 f4 : Int
 f5 : Int
 f6 : Int
def z45 : S45 := ⟨(0 : Int), (0 : Int), (0 : Int), (0 : Int), (0 : Int), (0 : Int), (0 : Int)⟩
def k45 : Kd S45 := Kd.iso (Kd.pair (Kd.int .i64) (Kd.pair (Kd.int .i64) (Kd.pair (Kd.int .i64) (Kd.pair (Kd.int .i64) (Kd.pair (Kd.int .i64) (Kd.pair (Kd.int .i64) (Kd.int .i64))))))) (fun x : S45 => (x.f0, x.f1, x.f2, x.f3, x.f4, x.f5, x.f6))
theorem k45_open {w : World} {x : S45} {cs : List Value} (h : k45.K w x cs) : cs = [.int .i64 x.f0, .int .i64 x.f1, .int .i64 x.f2, .int .i64 x.f3, .int .i64 x.f4, .int .i64 x.f5, .int .i64 x.f6] := by
 obtain ⟨_, _, rfl, rfl, ⟨_, _, rfl, rfl, ⟨_, _, rfl, rfl, ⟨_, _, rfl, rfl, ⟨_, _, rfl, rfl, ⟨_, _, rfl, rfl, rfl⟩⟩⟩⟩⟩⟩ := h
 exact rfl
theorem k45_openM {w : World} {base : Nat} {ok : Nat → Prop} {x : S45} {cs : List Value} (h : k45.M w base ok x cs) : cs = [.int .i64 x.f0, .int .i64 x.f1, .int .i64 x.f2, .int .i64 x.f3, .int .i64 x.f4, .int .i64 x.f5, .int .i64 x.f6] := by
 obtain ⟨_, _, rfl, rfl, ⟨_, _, rfl, rfl, ⟨_, _, rfl, rfl, ⟨_, _, rfl, rfl, ⟨_, _, rfl, rfl, ⟨_, _, rfl, rfl, rfl⟩⟩⟩⟩⟩⟩ := h
 exact rfl
theorem k45_mkM (w : World) (base : Nat) (ok : Nat → Prop) (x : S45)  : k45.M w base ok x [.int .i64 x.f0, .int .i64 x.f1, .int .i64 x.f2, .int .i64 x.f3, .int .i64 x.f4, .int .i64 x.f5, .int .i64 x.f6] := ⟨[.int .i64 x.f0], [.int .i64 x.f1, .int .i64 x.f2, .int .i64 x.f3, .int .i64 x.f4, .int .i64 x.f5, .int .i64 x.f6], rfl, rfl, ⟨[.int .i64 x.f1], [.int .i64 x.f2, .int .i64 x.f3, .int .i64 x.f4, .int .i64 x.f5, .int .i64 x.f6], rfl, rfl, ⟨[.int .i64 x.f2], [.int .i64 x.f3, .int .i64 x.f4, .int .i64 x.f5, .int .i64 x.f6], rfl, rfl, ⟨[.int .i64 x.f3], [.int .i64 x.f4, .int .i64 x.f5, .int .i64 x.f6], rfl, rfl, ⟨[.int .i64 x.f4], [.int .i64 x.f5, .int .i64 x.f6], rfl, rfl, ⟨[.int .i64 x.f5], [.int .i64 x.f6], rfl, rfl, rfl⟩⟩⟩⟩⟩⟩
def rd_T45 (xs : List S45) (i : Int) : S45 := xs.getD i.toNat z45
theorem at_T45 {w : World} {A : Option Addr} {n : Nat} {xs : List S45} (h : Kd.C k45 w A n xs) (i : Int) (h0 : 0 ≤ i) (h1 : i < n) : ∃ ad , A = some ad ∧ w.cell? (ad.add (i.toNat * 7)) = some (.int .i64 (rd_T45 xs i).f0) ∧ w.cell? ⟨(ad.add (i.toNat * 7)).block, (ad.add (i.toNat * 7)).off + 1, none⟩ = some (.int .i64 (rd_T45 xs i).f1) ∧ w.cell? ⟨(ad.add (i.toNat * 7)).block, (ad.add (i.toNat * 7)).off + 2, none⟩ = some (.int .i64 (rd_T45 xs i).f2) ∧ w.cell? ⟨(ad.add (i.toNat * 7)).block, (ad.add (i.toNat * 7)).off + 3, none⟩ = some (.int .i64 (rd_T45 xs i).f3) ∧ w.cell? ⟨(ad.add (i.toNat * 7)).block, (ad.add (i.toNat * 7)).off + 4, none⟩ = some (.int .i64 (rd_T45 xs i).f4) ∧ w.cell? ⟨(ad.add (i.toNat * 7)).block, (ad.add (i.toNat * 7)).off + 5, none⟩ = some (.int .i64 (rd_T45 xs i).f5) ∧ w.cell? ⟨(ad.add (i.toNat * 7)).block, (ad.add (i.toNat * 7)).off + 6, none⟩ = some (.int .i64 (rd_T45 xs i).f6) := by
 obtain ⟨ad, c, e, _, hK, hc0⟩ := Kd.C_get h z45 i h0 h1
 have hc : ∀ j u, c[j]? = some u → w.cell? (ad.add (i.toNat * 7 + j)) = some u := hc0
 obtain rfl := k45_open hK
 exact ⟨ad, e, hc 0 _ rfl, by rw [← add_field _ _ 1 (by omega)]; exact hc 1 _ rfl, by rw [← add_field _ _ 2 (by omega)]; exact hc 2 _ rfl, by rw [← add_field _ _ 3 (by omega)]; exact hc 3 _ rfl, by rw [← add_field _ _ 4 (by omega)]; exact hc 4 _ rfl, by rw [← add_field _ _ 5 (by omega)]; exact hc 5 _ rfl, by rw [← add_field _ _ 6 (by omega)]; exact hc 6 _ rfl⟩
structure S72 where
 f0 : Int
 f1 : Int
 f2 : Int
 f3 : Int
 f4 : (List S72)
def z72 : S72 := ⟨(0 : Int), (0 : Int), (0 : Int), (0 : Int), ([] : List S72)⟩
def F72 (d : Kd S72) : Kd S72 := Kd.iso (Kd.pair (Kd.int .i64) (Kd.pair (Kd.int .i64) (Kd.pair (Kd.int .i64) (Kd.pair (Kd.int .i64) (Kd.slice 72 d))))) (fun x : S72 => (x.f0, x.f1, x.f2, x.f3, x.f4))
theorem mono72 : Kd.Mono F72 := Kd.mono_iso _ (Kd.mono_pair (Kd.mono_const _) (Kd.mono_pair (Kd.mono_const _) (Kd.mono_pair (Kd.mono_const _) (Kd.mono_pair (Kd.mono_const _) (Kd.mono_slice 72 Kd.mono_id)))))
theorem sub72 : Kd.Sub F72 [72] := Kd.sub_iso _ (Kd.sub_pair (Kd.sub_const _ (by decide)) (Kd.sub_pair (Kd.sub_const _ (by decide)) (Kd.sub_pair (Kd.sub_const _ (by decide)) (Kd.sub_pair (Kd.sub_const _ (by decide)) (Kd.sub_slice 72 (by decide) Kd.sub_id)))))
theorem sz72 : ∀ n, (Kd.upto F72 5 [72] n).sz = 5 := Kd.upto_sz (fun _ => rfl)
def k72 : Kd S72 := Kd.fix F72 5 [72] sz72 (Kd.upto_E sub72)
theorem k72_open {w : World} {x : S72} {cs : List Value} (h : k72.K w x cs) : ∃ A4 c4, cs = [.int .i64 x.f0, .int .i64 x.f1, .int .i64 x.f2, .int .i64 x.f3, .slice A4 x.f4.length c4] ∧ x.f4.length ≤ c4 ∧ k72.C w A4 x.f4.length x.f4 := by
 obtain ⟨n, h⟩ := h
 cases n with
 | zero => exact h.elim
 | succ n =>
   obtain ⟨_, _, rfl, rfl, ⟨_, _, rfl, rfl, ⟨_, _, rfl, rfl, ⟨_, _, rfl, rfl, ⟨A4, c4, rfl, l4, g4⟩⟩⟩⟩⟩ := h
   exact ⟨A4, c4, rfl, l4, Kd.fix_C g4⟩
theorem k72_mkM (w : World) (base : Nat) (ok : Nat → Prop) (x : S72) {v4 : Value} (g4 : k72.R 72 w base ok v4 x.f4) : k72.M w base ok x [.int .i64 x.f0, .int .i64 x.f1, .int .i64 x.f2, .int .i64 x.f3, v4] := by
 obtain ⟨n4, q4⟩ := Kd.fix_R_back mono72 g4
 have r4 := Kd.upto_R_le mono72 sz72 (show n4 ≤ n4 by omega) q4
 exact ⟨n4 + 1, ⟨[.int .i64 x.f0], [.int .i64 x.f1, .int .i64 x.f2, .int .i64 x.f3, v4], rfl, rfl, ⟨[.int .i64 x.f1], [.int .i64 x.f2, .int .i64 x.f3, v4], rfl, rfl, ⟨[.int .i64 x.f2], [.int .i64 x.f3, v4], rfl, rfl, ⟨[.int .i64 x.f3], [v4], rfl, rfl, ⟨v4, rfl, r4⟩⟩⟩⟩⟩⟩
def rd_T72 (xs : List S72) (i : Int) : S72 := xs.getD i.toNat z72
theorem at_T72 {w : World} {A : Option Addr} {n : Nat} {xs : List S72} (h : Kd.C k72 w A n xs) (i : Int) (h0 : 0 ≤ i) (h1 : i < n) : ∃ ad A4 c4, A = some ad ∧ w.cell? (ad.add (i.toNat * 5)) = some (.int .i64 (rd_T72 xs i).f0) ∧ w.cell? ⟨(ad.add (i.toNat * 5)).block, (ad.add (i.toNat * 5)).off + 1, none⟩ = some (.int .i64 (rd_T72 xs i).f1) ∧ w.cell? ⟨(ad.add (i.toNat * 5)).block, (ad.add (i.toNat * 5)).off + 2, none⟩ = some (.int .i64 (rd_T72 xs i).f2) ∧ w.cell? ⟨(ad.add (i.toNat * 5)).block, (ad.add (i.toNat * 5)).off + 3, none⟩ = some (.int .i64 (rd_T72 xs i).f3) ∧ w.cell? ⟨(ad.add (i.toNat * 5)).block, (ad.add (i.toNat * 5)).off + 4, none⟩ = some (.slice A4 (rd_T72 xs i).f4.length c4) ∧ (rd_T72 xs i).f4.length ≤ c4 ∧ k72.C w A4 (rd_T72 xs i).f4.length (rd_T72 xs i).f4 := by
 obtain ⟨ad, c, e, _, hK, hc0⟩ := Kd.C_get h z72 i h0 h1
 have hc : ∀ j u, c[j]? = some u → w.cell? (ad.add (i.toNat * 5 + j)) = some u := hc0
 obtain ⟨A4, c4, rfl, l4, g4⟩ := k72_open hK
 exact ⟨ad, A4, c4, e, hc 0 _ rfl, by rw [← add_field _ _ 1 (by omega)]; exact hc 1 _ rfl, by rw [← add_field _ _ 2 (by omega)]; exact hc 2 _ rfl, by rw [← add_field _ _ 3 (by omega)]; exact hc 3 _ rfl, by rw [← add_field _ _ 4 (by omega)]; exact hc 4 _ rfl, l4, g4⟩
end Go.Proofs.YtmpnkckaohfflaaDoor.K
end
section
namespace Go.Proofs.YtmpnkckaohfflaaDoor.K
open Go.RowKit Go.Proofs.YtmpnkckaohfflaaDoorW.PrintWords Go.Proofs.YtmpnkckaohfflaaDoorW.PrintLast Go.Proofs.YtmpnkckaohfflaaDoorW.PrintMore
attribute [local go_sem] max2_int min2_int max_two min_two max_three min_three max_four min_four
set_option linter.unusedVariables false
set_option linter.unusedSimpArgs false
theorem eqA45 (d : Nat) (w : World) (x0 y0 : Int) (x1 y1 : Int) (x2 y2 : Int) (x3 y3 : Int) (x4 y4 : Int) (x5 y5 : Int) (x6 y6 : Int) :
   (Op.equalIn (d + 2) 45 (.agg #[.int .i64 x0, .int .i64 x1, .int .i64 x2, .int .i64 x3, .int .i64 x4, .int .i64 x5, .int .i64 x6]) (.agg #[.int .i64 y0, .int .i64 y1, .int .i64 y2, .int .i64 y3, .int .i64 y4, .int .i64 y5, .int .i64 y6])).run Tryd.prog w = .ok (x0 == y0 && (x1 == y1 && (x2 == y2 && (x3 == y3 && (x4 == y4 && (x5 == y5 && (x6 == y6))))))) w := by
 refine eqA_of Tryd.underlying45 (by kernel_rfl) ?_
 refine eqf_cons (by rfl) (by go_simp; rfl) (by go_simp; rfl) (by go_simp) ?_
 refine eqf_cons (by rfl) (by go_simp; rfl) (by go_simp; rfl) (by go_simp) ?_
 refine eqf_cons (by rfl) (by go_simp; rfl) (by go_simp; rfl) (by go_simp) ?_
 refine eqf_cons (by rfl) (by go_simp; rfl) (by go_simp; rfl) (by go_simp) ?_
 refine eqf_cons (by rfl) (by go_simp; rfl) (by go_simp; rfl) (by go_simp) ?_
 refine eqf_cons (by rfl) (by go_simp; rfl) (by go_simp; rfl) (by go_simp) ?_
 exact eqf_last (by rfl) (by go_simp; rfl) (by go_simp; rfl) (by go_simp)
end Go.Proofs.YtmpnkckaohfflaaDoor.K
end
section
namespace Go.Proofs.YtmpnkckaohfflaaDoor.PGiv
open Go.RowKit Go.Proofs.YtmpnkckaohfflaaDoorW.PrintWords Go.Proofs.YtmpnkckaohfflaaDoorW.PrintLast Go.Proofs.YtmpnkckaohfflaaDoorW.PrintMore
set_option linter.unusedVariables false
set_option linter.unusedSimpArgs false
structure Tr where
 kind : Int
 w : Int
 h : Int
 id : Int
 kids : List Tr
def paneAt (w : World) (b : Nat) (t : Tr) : Prop := ∃ x y : Int, w.heap[b]? = some (.cells #[.int .i64 x, .int .i64 y, .int .i64 t.w, .int .i64 t.h, .int .i64 t.id] 107 (0, 0))
def splitAt (w : World) (b : Nat) (t : Tr) (v : Value) : Prop := ∃ x y : Int, w.heap[b]? = some (.cells #[.int .i64 x, .int .i64 y, .int .i64 t.w, .int .i64 t.h, .int .i64 t.kind, v] 120 (0, 0))
abbrev paneV (b : Nat) : Value := .iface 103 (.pointer (some ⟨b, 0, none⟩))
abbrev splitV (b : Nat) : Value := .iface 117 (.pointer (some ⟨b, 0, none⟩))
def MT (d : Kd Tr) (w : World) (base : Nat) (ok : Nat → Prop) (t : Tr) (cs : List Value) : Prop :=
 (t.kind = 1 ∧ t.kids = [] ∧ ∃ b, cs = [paneV b] ∧ ok b ∧ base ≤ b ∧ paneAt w b t) ∨
 (t.kind ≠ 1 ∧ t.id = 0 ∧ ∃ b v, cs = [splitV b] ∧ ok b ∧ base ≤ b ∧ splitAt w b t v ∧ d.R 65 w base (fun k => ok k ∧ k ≠ b) v t.kids)
theorem block_lt {w : World} {b : Nat} {o : Obj} (h : w.heap[b]? = some o) : b < w.heap.size := by
 rcases Nat.lt_or_ge b w.heap.size with h' | h'
 · exact h'
 · rw [Array.getElem?_eq_none h'] at h
   cases h
section
variable {d : Kd Tr} {w w1 : World} {base base' : Nat} {ok ok' : Nat → Prop} {t : Tr} {cs : List Value}
theorem MT_mono (hok : ∀ k, ok k → ok' k) (h : MT d w base ok t cs) : MT d w base ok' t cs := by
 rcases h with ⟨k1, k2, b, rfl, ho, hb, hp⟩ | ⟨k1, k2, b, v, rfl, ho, hb, hp, hr⟩
 · exact .inl ⟨k1, k2, b, rfl, hok b ho, hb, hp⟩
 · exact .inr ⟨k1, k2, b, v, rfl, hok b ho, hb, hp, Kd.R_mono hr (fun k hk => ⟨hok k hk.1, hk.2⟩)⟩
theorem MT_move (hm : ∀ k, ok k → w1.heap[k]? = w.heap[k]?) (h : MT d w base ok t cs) : MT d w1 base ok t cs := by
 rcases h with ⟨k1, k2, b, rfl, ho, hb, x, y, hp⟩ | ⟨k1, k2, b, v, rfl, ho, hb, ⟨x, y, hp⟩, hr⟩
 · exact .inl ⟨k1, k2, b, rfl, ho, hb, x, y, (hm b ho).trans hp⟩
 · exact .inr ⟨k1, k2, b, v, rfl, ho, hb, ⟨x, y, (hm b ho).trans hp⟩, Kd.R_move hr (fun k hk => hm k hk.1)⟩
theorem MT_lower (hb' : base' ≤ base) (h : MT d w base ok t cs) : MT d w base' ok t cs := by
 rcases h with ⟨k1, k2, b, rfl, ho, hb, hp⟩ | ⟨k1, k2, b, v, rfl, ho, hb, hp, hr⟩
 · exact .inl ⟨k1, k2, b, rfl, ho, by omega, hp⟩
 · exact .inr ⟨k1, k2, b, v, rfl, ho, by omega, hp, Kd.R_lower hr hb'⟩
theorem MT_bound (h : MT d w base ok t cs) : MT d w base (fun k => ok k ∧ base ≤ k ∧ k < w.heap.size ∧ ∃ q, q ∈ 107 :: 120 :: 65 :: d.E ∧ ∃ cells, w.heap[k]? = some (.cells cells q (0, 0))) t cs := by
 rcases h with ⟨k1, k2, b, rfl, ho, hb, x, y, hp⟩ | ⟨k1, k2, b, v, rfl, ho, hb, ⟨x, y, hp⟩, hr⟩
 · exact .inl ⟨k1, k2, b, rfl, ⟨ho, hb, block_lt hp, _, List.mem_cons_self, _, hp⟩, hb, x, y, hp⟩
 · refine .inr ⟨k1, k2, b, v, rfl, ⟨ho, hb, block_lt hp, _, List.mem_cons_of_mem _ List.mem_cons_self, _, hp⟩, hb, ⟨x, y, hp⟩, Kd.R_mono (Kd.R_bound hr) ?_⟩
   rintro k ⟨⟨h1, h2⟩, h3, h4, q, hq, hc⟩
   exact ⟨⟨h1, h3, h4, q, List.mem_cons_of_mem _ (List.mem_cons_of_mem _ hq), hc⟩, h2⟩
end
def KT (d : Kd Tr) (w : World) (t : Tr) (cs : List Value) : Prop :=
 (t.kind = 1 ∧ t.kids = [] ∧ ∃ b, cs = [paneV b] ∧ paneAt w b t) ∨
 (t.kind ≠ 1 ∧ t.id = 0 ∧ ∃ b A c, cs = [splitV b] ∧ splitAt w b t (.slice A t.kids.length c) ∧ t.kids.length ≤ c ∧ d.C w A t.kids.length t.kids)
section
variable {d : Kd Tr} {w w1 : World} {base : Nat} {ok : Nat → Prop} {t : Tr} {cs : List Value}
theorem KT_len (h : KT d w t cs) : cs.length = 1 := by
 rcases h with ⟨_, _, b, rfl, _⟩ | ⟨_, _, b, A, c, rfl, _⟩ <;> rfl
theorem KT_one (h : KT d w t cs) : ∀ u ∈ cs, u.oneCell' = true := by
 rcases h with ⟨_, _, b, rfl, _⟩ | ⟨_, _, b, A, c, rfl, _⟩ <;> (intro u hu; rw [List.mem_singleton.1 hu]; rfl)
theorem KT_below (hb : Below w.heap.size w w1) (h : KT d w t cs) : KT d w1 t cs := by
 rcases h with ⟨k1, k2, b, rfl, x, y, hp⟩ | ⟨k1, k2, b, A, c, rfl, ⟨x, y, hp⟩, hl, hr⟩
 · exact .inl ⟨k1, k2, b, rfl, x, y, (hb.block b (block_lt hp)).trans hp⟩
 · exact .inr ⟨k1, k2, b, A, c, rfl, ⟨x, y, (hb.block b (block_lt hp)).trans hp⟩, hl, Kd.C_below hr hb⟩
theorem KT_of (h : MT d w base ok t cs) : KT d w t cs := by
 rcases h with ⟨k1, k2, b, rfl, _, _, hp⟩ | ⟨k1, k2, b, v, rfl, _, _, hp, hr⟩
 · exact .inl ⟨k1, k2, b, rfl, hp⟩
 · obtain ⟨A, c, rfl, hl, hc⟩ := Kd.R_reads hr
   exact .inr ⟨k1, k2, b, A, c, rfl, hp, hl, hc⟩
end
def FT (d : Kd Tr) : Kd Tr where
 sz := 1
 E := 107 :: 120 :: 65 :: d.E
 K := KT d
 M := MT d
 K_len := KT_len
 K_one := KT_one
 K_below := KT_below
 K_of_M := KT_of
 M_mono := MT_mono
 M_bound := MT_bound
 M_move := MT_move
 M_lower := MT_lower
theorem MT_imp {d d' : Kd Tr} (hs : d.sz = d'.sz) (h : ∀ w base ok x cs, d.M w base ok x cs → d'.M w base ok x cs) {w : World} {base : Nat} {ok : Nat → Prop} {t : Tr} {cs : List Value} (hm : MT d w base ok t cs) : MT d' w base ok t cs := by
 rcases hm with ⟨k1, k2, b, rfl, ho, hb, hp⟩ | ⟨k1, k2, b, v, rfl, ho, hb, hp, hr⟩
 · exact .inl ⟨k1, k2, b, rfl, ho, hb, hp⟩
 · exact .inr ⟨k1, k2, b, v, rfl, ho, hb, hp, Kd.R_imp hs h hr⟩
theorem subT : Kd.Sub FT [107, 120, 65] := fun d h q hq => by
 have hq' : q ∈ 107 :: 120 :: 65 :: d.E := hq
 simp only [List.mem_cons] at hq' ⊢
 rcases hq' with e | e | e | e
 · exact .inl e
 · exact .inr (.inl e)
 · exact .inr (.inr (.inl e))
 · have := h q e
   simpa [List.mem_cons] using this
theorem szT : ∀ n, (Kd.upto FT 1 [107, 120, 65] n).sz = 1 := Kd.upto_sz (fun _ => rfl)
def kT : Kd Tr := Kd.fix FT 1 [107, 120, 65] szT (Kd.upto_E subT)
theorem monoT : Kd.Mono FT := by
 refine ⟨fun _ _ _ => rfl, ?_, fun d d' hs h w base ok x cs hm => MT_imp hs h hm⟩
 rintro d d' hs h w t cs (⟨k1, k2, b, rfl, hp⟩ | ⟨k1, k2, b, A, c, rfl, hp, hl, hr⟩)
 · exact .inl ⟨k1, k2, b, rfl, hp⟩
 · exact .inr ⟨k1, k2, b, A, c, rfl, hp, hl, Kd.C_imp hs h hr⟩
section
variable {w w1 : World} {base : Nat} {ok : Nat → Prop} {t : Tr} {cs : List Value}
theorem kT_open (h : kT.M w base ok t cs) : MT kT w base ok t cs := by
 obtain ⟨n, h⟩ := h
 cases n with
 | zero => exact h.elim
 | succ n =>
   rcases h with ⟨k1, k2, b, rfl, ho, hb, hp⟩ | ⟨k1, k2, b, v, rfl, ho, hb, hp, hr⟩
   · exact .inl ⟨k1, k2, b, rfl, ho, hb, hp⟩
   · exact .inr ⟨k1, k2, b, v, rfl, ho, hb, hp, Kd.fix_R hr⟩
theorem kT_mk (h : MT kT w base ok t cs) : kT.M w base ok t cs := by
 rcases h with ⟨k1, k2, b, rfl, ho, hb, hp⟩ | ⟨k1, k2, b, v, rfl, ho, hb, hp, hr⟩
 · exact ⟨1, .inl ⟨k1, k2, b, rfl, ho, hb, hp⟩⟩
 · obtain ⟨n, q⟩ := Kd.fix_R_back monoT hr
   exact ⟨n + 1, .inr ⟨k1, k2, b, v, rfl, ho, hb, hp, q⟩⟩
def Alike (a b : Option Obj) : Prop :=
 b = a ∨ (∃ x y x' y' r1 r2 r3, a = some (.cells #[.int .i64 x, .int .i64 y, r1, r2, r3] 107 (0, 0)) ∧ b = some (.cells #[.int .i64 x', .int .i64 y', r1, r2, r3] 107 (0, 0))) ∨
   (∃ x y x' y' r1 r2 r3 r4, a = some (.cells #[.int .i64 x, .int .i64 y, r1, r2, r3, r4] 120 (0, 0)) ∧ b = some (.cells #[.int .i64 x', .int .i64 y', r1, r2, r3, r4] 120 (0, 0)))
theorem Alike.refl (a : Option Obj) : Alike a a := .inl rfl
theorem Alike.trans {a b c : Option Obj} (h : Alike a b) (k : Alike b c) : Alike a c := by
 rcases h with rfl | ⟨x, y, x', y', r1, r2, r3, rfl, rfl⟩ | ⟨x, y, x', y', r1, r2, r3, r4, rfl, rfl⟩
 · exact k
 · rcases k with rfl | ⟨x2, y2, x3, y3, s1, s2, s3, e, rfl⟩ | ⟨x2, y2, x3, y3, s1, s2, s3, s4, e, rfl⟩
   · exact .inr (.inl ⟨_, _, _, _, _, _, _, rfl, rfl⟩)
   · injection e with e
     injection e with e _ _
     simp only [Array.mk.injEq, List.cons.injEq] at e
     obtain ⟨_, _, rfl, rfl, rfl, _⟩ := e
     exact .inr (.inl ⟨_, _, _, _, _, _, _, rfl, rfl⟩)
   · injection e with e
     injection e with e _ _
     simp at e
 · rcases k with rfl | ⟨x2, y2, x3, y3, s1, s2, s3, e, rfl⟩ | ⟨x2, y2, x3, y3, s1, s2, s3, s4, e, rfl⟩
   · exact .inr (.inr ⟨_, _, _, _, _, _, _, _, rfl, rfl⟩)
   · injection e with e
     injection e with e _ _
     simp at e
   · injection e with e
     injection e with e _ _
     simp only [Array.mk.injEq, List.cons.injEq] at e
     obtain ⟨_, _, rfl, rfl, rfl, rfl, _⟩ := e
     exact .inr (.inr ⟨_, _, _, _, _, _, _, _, rfl, rfl⟩)
theorem Alike.row {w w1 : World} {k : Nat} {cells : Array Value} (h : Alike w.heap[k]? w1.heap[k]?) (hc : w.heap[k]? = some (.cells cells 65 (0, 0))) : w1.heap[k]? = w.heap[k]? := by
 rcases h with h | ⟨x, y, x', y', r1, r2, r3, e, _⟩ | ⟨x, y, x', y', r1, r2, r3, r4, e, _⟩
 · exact h
 · rw [hc] at e
   injection e with e
   injection e with _ e _
   cases e
 · rw [hc] at e
   injection e with e
   injection e with _ e _
   cases e
theorem paneAt_alike {b : Nat} (h : Alike w.heap[b]? w1.heap[b]?) (hp : paneAt w b t) : paneAt w1 b t := by
 obtain ⟨x, y, hp⟩ := hp
 rcases h with h | ⟨x0, y0, x', y', r1, r2, r3, e, e'⟩ | ⟨x0, y0, x', y', r1, r2, r3, r4, e, _⟩
 · exact ⟨x, y, h.trans hp⟩
 · rw [hp] at e
   injection e with e
   injection e with e _ _
   simp only [Array.mk.injEq, List.cons.injEq] at e
   obtain ⟨_, _, rfl, rfl, rfl, _⟩ := e
   exact ⟨x', y', e'⟩
 · rw [hp] at e
   injection e with e
   injection e with e _ _
   simp at e
theorem splitAt_alike {b : Nat} {v : Value} (h : Alike w.heap[b]? w1.heap[b]?) (hp : splitAt w b t v) : splitAt w1 b t v := by
 obtain ⟨x, y, hp⟩ := hp
 rcases h with h | ⟨x0, y0, x', y', r1, r2, r3, e, _⟩ | ⟨x0, y0, x', y', r1, r2, r3, r4, e, e'⟩
 · exact ⟨x, y, h.trans hp⟩
 · rw [hp] at e
   injection e with e
   injection e with e _ _
   simp at e
 · rw [hp] at e
   injection e with e
   injection e with e _ _
   simp only [Array.mk.injEq, List.cons.injEq] at e
   obtain ⟨_, _, rfl, rfl, rfl, rfl, _⟩ := e
   exact ⟨x', y', e'⟩
theorem upto_alike : ∀ (n : Nat) {t : Tr} {ok : Nat → Prop} {cs : List Value}, (Kd.upto FT 1 [107, 120, 65] n).M w base ok t cs → (∀ k, ok k → Alike w.heap[k]? w1.heap[k]?) → (Kd.upto FT 1 [107, 120, 65] n).M w1 base ok t cs := by
 intro n
 induction n with
 | zero => intro t ok cs h _; exact h.elim
 | succ n ih =>
   intro t ok cs h hm
   rcases h with ⟨k1, k2, b, rfl, ho, hb, hp⟩ | ⟨k1, k2, b, v, rfl, ho, hb, hp, h0, inner, hown, hr⟩
   · exact .inl ⟨k1, k2, b, rfl, ho, hb, paneAt_alike (hm b ho) hp⟩
   · refine .inr ⟨k1, k2, b, v, rfl, ho, hb, splitAt_alike (hm b ho) hp, h0, inner, ?_, hr.imp_ (fun _ _ hp => ih hp (fun k hk => hm k hk.1.1))⟩
     refine own_move hown (fun k hk => ?_)
     obtain ⟨cells, hc⟩ := own_typed hown k hk
     exact (hm k (h0 k hk).1).row hc
theorem kT_alike (h : kT.M w base ok t cs) (hm : ∀ k, ok k → Alike w.heap[k]? w1.heap[k]?) : kT.M w1 base ok t cs := by
 obtain ⟨n, h⟩ := h
 exact ⟨n, upto_alike n h hm⟩
end
end Go.Proofs.YtmpnkckaohfflaaDoor.PGiv
end
section
namespace Go.Proofs.YtmpnkckaohfflaaDoor.PGiv
open Go.RowKit Go.Proofs.YtmpnkckaohfflaaDoorW.PrintWords Go.Proofs.YtmpnkckaohfflaaDoorW.PrintLast Go.Proofs.YtmpnkckaohfflaaDoorW.PrintMore Go.Proofs.YtmpnkckaohfflaaDoor.K
set_option linter.unusedVariables false
set_option linter.unusedSimpArgs false
theorem where_calls (a : Addr) (w : World) : Calls Tryd.prog 118 #[.pointer (some a)] w fun e w' => e = .returned (.pointer (some a)) ∧ w' = w := by
 go_enter Tryd.func118, Tryd.ntmps118
 go_wp2
 go_ret
 exact ⟨rfl, rfl⟩
def ext (kind W H : Int) : Int := if kind = 2 then W else H
theorem extent_calls (b : Nat) (kind W H : Int) (w : World) (hw : w.cell? ⟨b, 2, none⟩ = some (.int .i64 W)) (hh : w.cell? ⟨b, 3, none⟩ = some (.int .i64 H)) :
   Calls Tryd.prog 68 #[.pointer (some ⟨b, 0, none⟩), .int .i64 kind] w fun e w' => e = .returned (.int .i64 (ext kind W H)) ∧ w' = w := by
 unfold ext
 go_enter Tryd.func68, Tryd.ntmps68
 by_cases k : kind = 2
 · rw [if_pos k]
   go_wp2
   go_ret
   exact ⟨rfl, rfl⟩
 · rw [if_neg k]
   go_wp2
   go_ret
   exact ⟨rfl, rfl⟩
theorem whereP (b : Nat) (w : World) : (method 276 103 (.pointer (some ⟨b, 0, none⟩)) "mullion/layout.where").run Tryd.prog w = .ok (118, .pointer (some ⟨b, 0, none⟩)) w := by kernel_rfl
theorem whereS (b : Nat) (w : World) : (method 276 117 (.pointer (some ⟨b, 0, none⟩)) "mullion/layout.where").run Tryd.prog w = .ok (118, .pointer (some ⟨b, 0, none⟩)) w := by kernel_rfl
mutual
def growF : Nat → List S45 → Int → Option (Option (Tr × List S45))
 | 0, _, _ => none
 | k + 1, l, depth =>
   match l with
   | [] => none
   | c :: r => if c.f1 = 1 then some (some (⟨1, c.f4, c.f5, c.f6, []⟩, r)) else growL k c depth [] (-1) r
def growL : Nat → S45 → Int → List Tr → Int → List S45 → Option (Option (Tr × List S45))
 | 0, _, _, _, _, _ => none
 | k + 1, c, depth, kids, sum, l =>
   if (match l with | [] => false | x :: _ => x.f0 == wrap64 (depth + 1)) = true then
     if (match l with | [] => false | x :: _ => x.f1 == c.f1) = true then some none
     else (growF k l (wrap64 (depth + 1))).bind fun r =>
       match r with
       | none => some none
       | some (t, rest) => if ext (wrap64 (5 - c.f1)) t.w t.h = ext (wrap64 (5 - c.f1)) c.f4 c.f5 then growL k c depth (kids ++ [t]) (wrap64 (sum + wrap64 (ext c.f1 t.w t.h + 1))) rest else some none
   else if kids.length < 2 then some none else if sum = ext c.f1 c.f4 c.f5 then some (some (⟨c.f1, c.f4, c.f5, 0, kids⟩, l)) else some none
end
def GrowPost (w : World) (A : Option Addr) (l : List S45) (r : Option (Tr × List S45)) (e : Ending) (w' : World) : Prop :=
 match r with
 | none => e = .returned (.tuple #[.nilIface, .slice none 0 0]) ∧ Below w.heap.size w w'
 | some (t, rest) => ∃ (v : Value) (A' : Option Addr) (c' : Nat), e = .returned (.tuple #[v, .slice A' rest.length c']) ∧ kT.M w' w.heap.size (fun _ => True) t [v] ∧ rest.length ≤ c' ∧ (∀ W : World, Kd.C k45 W A l.length l → Kd.C k45 W A' rest.length rest) ∧ Below w.heap.size w w'
theorem three_new (w : World) (a b c : Obj) : (((w.alloc a).alloc b).alloc c).heap[w.heap.size]? = some a ∧ (((w.alloc a).alloc b).alloc c).heap[w.heap.size + 1]? = some b ∧ (((w.alloc a).alloc b).alloc c).heap[w.heap.size + 2]? = some c ∧ (((w.alloc a).alloc b).alloc c).heap.size = w.heap.size + 3 ∧ Below w.heap.size w (((w.alloc a).alloc b).alloc c) := by
 have e1 : (w.alloc a).heap = w.heap.push a := rfl
 have e2 : ((w.alloc a).alloc b).heap = (w.heap.push a).push b := rfl
 have e : (((w.alloc a).alloc b).alloc c).heap = ((w.heap.push a).push b).push c := rfl
 refine ⟨?_, ?_, ?_, ?_, (((Below.refl _ _).alloc (Nat.le_refl _) _).alloc ?_ _).alloc ?_ _⟩
 · rw [e, Array.getElem?_push, if_neg (by simp; omega), Array.getElem?_push, if_neg (by simp), Array.getElem?_push, if_pos rfl]
 · rw [e, Array.getElem?_push, if_neg (by simp), Array.getElem?_push, if_pos (by simp)]
 · rw [e, Array.getElem?_push, if_pos (by simp)]
 · rw [e]
   simp
 · rw [e1]
   simp
 · rw [e2]
   simp
   omega
theorem tail_cut (A : Option Addr) (c0 : Nat) (c : S45) (l : List S45) (hc : (c :: l).length ≤ c0) :
   ∃ A1 : Option Addr, (∀ W : World, (Instr.slice 22 (.slice A (c :: l).length c0) (some (.int .i64 1)) none none).run Tryd.prog W = .ok (.slice A1 l.length (c0 - 1)) W) ∧
     (∀ W : World, Kd.C k45 W A (c :: l).length (c :: l) → Kd.C k45 W A1 l.length l) := by
 obtain ⟨i, hi, hz⟩ := Option.map_eq_some_iff.1 info45
 simp only [Prod.mk.injEq] at hz
 have hcut := cut_from (P := Tryd.prog) 22 45 .i64 Tryd.underlying22 hi 7 hz.2.1 A (c :: l).length c0 1 (by omega) (by simp; omega)
 refine ⟨_, hcut, fun W h => ?_⟩
 exact Kd.C_drop (m := 1) h (by simp) hc
theorem tree_value {w : World} {base : Nat} {ok : Nat → Prop} {t : Tr} {v : Value} (h : kT.M w base ok t [v]) :
   ∃ (tp : TypeId) (b : Nat), v = .iface tp (.pointer (some ⟨b, 0, none⟩)) ∧ base ≤ b ∧ ok b ∧ w.cell? ⟨b, 2, none⟩ = some (.int .i64 t.w) ∧ w.cell? ⟨b, 3, none⟩ = some (.int .i64 t.h) ∧
     (∀ W : World, (method 276 tp (.pointer (some ⟨b, 0, none⟩)) "mullion/layout.where").run Tryd.prog W = .ok (118, .pointer (some ⟨b, 0, none⟩)) W) := by
 rcases kT_open h with ⟨_, _, b, e, ho, hb, x, y, hp⟩ | ⟨_, _, b, v', e, ho, hb, ⟨x, y, hp⟩, _⟩
 · injection e with e
   exact ⟨_, b, e, hb, ho, (blk_cell hp 2).trans rfl, (blk_cell hp 3).trans rfl, whereP b⟩
 · injection e with e
   exact ⟨_, b, e, hb, ho, (blk_cell hp 2).trans rfl, (blk_cell hp 3).trans rfl, whereS b⟩
theorem split_done (c : S45) (ck : ¬ c.f1 = 1) (kids : List Tr) (v : Value) (w wr : World) (HS : wr.heap[w.heap.size + 2]? = some (.cells #[.int .i64 0, .int .i64 0, .int .i64 c.f4, .int .i64 c.f5, .int .i64 c.f1, v] 120 (0, 0)))
   (RR : kT.R 65 wr (w.heap.size + 3) (fun _ => True) v kids) : kT.M wr w.heap.size (fun _ => True) ⟨c.f1, c.f4, c.f5, 0, kids⟩ [splitV (w.heap.size + 2)] :=
 kT_mk (.inr ⟨ck, rfl, w.heap.size + 2, v, rfl, trivial, by omega, ⟨0, 0, HS⟩, Kd.R_lower (Kd.R_mono (Kd.R_bound RR) (fun k hk => ⟨trivial, by have := hk.2.1; omega⟩)) (by omega)⟩)
theorem info_cell : (Tryd.prog.info? 65).map (fun i => (i.zero, i.size, i.bytes)) = some (some .nilIface, 1, 16) := by kernel_rfl
set_option maxHeartbeats 8000000 in
set_option maxRecDepth 100000 in
theorem grow_calls (k : Nat) (hk : k ≤ 1000000) : ∀ (A : Option Addr) (c0 : Nat) (l : List S45) (depth : Int) (r : Option (Tr × List S45)) (w : World) (hr : Kd.C k45 w A l.length l) (hc : l.length ≤ c0) (h : growF k l depth = some r),
   Calls Tryd.prog 52 #[.slice A l.length c0, .int .i64 depth] w fun e w' => GrowPost w A l r e w' := by
 induction k using Nat.strongRecOn with
 | _ k ih =>
 intro A c0 l depth r w hr hc h
 cases k with
 | zero => exact absurd h (by simp [growF])
 | succ k =>
 cases l with
 | nil => exact absurd h (by simp [growF])
 | cons c l =>
 obtain ⟨ad, rfl, h0, h1, h2, h3, h4, h5, h6⟩ := at_T45 hr 0 (by omega) (by simp)
 have ec : rd_T45 (c :: l) 0 = c := rfl
 have ea : ad.add (Int.toNat 0 * 7) = ad := rfl
 rw [ec, ea] at h0 h1 h2 h3 h4 h5 h6
 clear ec ea
 have eh : (if c.f1 = 1 then some (some (⟨1, c.f4, c.f5, c.f6, []⟩, l)) else growL k c depth [] (-1) l) = some r := h
 obtain ⟨A1, hcut, hA1⟩ := tail_cut (some ad) c0 c l hc
 have hA1' := Lib.hid hA1
 have hrow := Lib.hid hr
 clear hA1 hr
 have hE := Lib.hid eh
 clear h eh
 generalize hn : (c :: l).length = n at *
 have hn1 : 0 < n := by rw [← hn]; simp
 have hl1 : l.length + 1 ≤ c0 := by rw [← hn] at hc; simpa using hc
 go_enter Tryd.func52, Tryd.ntmps52
 by_cases ck : c.f1 = 1
 · have hE' : Hid (some (some (⟨1, c.f4, c.f5, c.f6, []⟩, l)) = some r) := Lib.hid (by have := hE.out; rwa [if_pos ck] at this)
   clear hE
   go_wp2
   go_ret2
   have er := Option.some.inj hE'.out
   subst er
   subst hn
   refine ⟨_, _, _, rfl, kT_mk (.inl ⟨rfl, rfl, w.heap.size + 2, rfl, trivial, by omega, 0, 0, ?_⟩), by simp only [List.length_cons] at hc; omega, hA1'.out, ?_⟩
   · exact (three_new w _ _ _).2.2.1
   · exact (three_new w _ _ _).2.2.2.2
 · have hE' : Hid (growL k c depth [] (-1) l = some r) := Lib.hid (by have := hE.out; rwa [if_neg ck] at this)
   clear hE
   have ck' : (c.f1 == 1) = false := beq_eq_false_iff_ne.mpr ck
   go_wp2
   go_loopg [0, 9] k (fun kq lv sv wr => ∃ (A' : Option Addr) (c' : Nat) (l' : List S45) (sum : Int) (kids : List Tr) (v : Value),
     lv = .slice A' l'.length c' ∧ sv = .int .i64 sum ∧ Aside0 (growL kq c depth kids sum l' = some r) ∧ Aside0 (kids.length + kq ≤ k) ∧ Aside0 (l'.length ≤ c') ∧ Aside0 (∀ W : World, Kd.C k45 W (some ad) n (c :: l) → Kd.C k45 W A' l'.length l') ∧
     Aside0 (Below w.heap.size w wr) ∧ Aside0 (w.heap.size + 3 ≤ wr.heap.size) ∧
     Aside0 (wr.heap[w.heap.size]? = some (.cells #[.int .i64 c.f0, .int .i64 c.f1, .int .i64 c.f2, .int .i64 c.f3, .int .i64 c.f4, .int .i64 c.f5, .int .i64 c.f6] 45 (0, 0))) ∧
     Aside0 (wr.heap[w.heap.size + 1]? = some (.cells #[.int .i64 0, .int .i64 0, .int .i64 c.f4, .int .i64 c.f5] 105 (0, 0))) ∧
     Aside0 (wr.heap[w.heap.size + 2]? = some (.cells #[.int .i64 0, .int .i64 0, .int .i64 c.f4, .int .i64 c.f5, .int .i64 c.f1, v] 120 (0, 0))) ∧
     Aside0 (kT.R 65 wr (w.heap.size + 3) (fun _ => True) v kids))
   case atStart =>
     refine ⟨A1, c0 - 1, l, -1, [], .slice none 0 0, rfl, rfl, ⟨hE'.out⟩, ⟨by simp⟩, ⟨by omega⟩, ⟨hA1'.out⟩, ?_, ?_, ?_, ?_, ?_, ⟨Kd.R_nil _ _ _ _ _⟩⟩
     · exact ⟨(three_new w _ _ _).2.2.2.2⟩
     · exact ⟨Nat.le_of_eq (three_new w _ _ _).2.2.2.1.symm⟩
     · exact ⟨(three_new w _ _ _).1⟩
     · exact ⟨(three_new w _ _ _).2.1⟩
     · exact ⟨(three_new w _ _ _).2.2.1⟩
   case round =>
     obtain ⟨A', c', l', sum, kids, v, rfl, rfl, RE, RK, RL, RC, RB, RS, HC, HB, HS, RR⟩ := hrel
     cases gk with
     | zero => exact absurd RE.out (by simp [growL])
     | succ gk =>
     have hc0 : wr.cell? ⟨w.heap.size, 1, none⟩ = some (.int .i64 c.f1) := (blk_cell HC.out 1).trans rfl
     have hc4 : wr.cell? ⟨w.heap.size, 4, none⟩ = some (.int .i64 c.f4) := (blk_cell HC.out 4).trans rfl
     have hc5 : wr.cell? ⟨w.heap.size, 5, none⟩ = some (.int .i64 c.f5) := (blk_cell HC.out 5).trans rfl
     have hb2 : wr.cell? ⟨w.heap.size + 1, 2, none⟩ = some (.int .i64 c.f4) := (blk_cell HB.out 2).trans rfl
     have hb3 : wr.cell? ⟨w.heap.size + 1, 3, none⟩ = some (.int .i64 c.f5) := (blk_cell HB.out 3).trans rfl
     have hs5 : wr.cell? ⟨w.heap.size + 2, 5, none⟩ = some v := (blk_cell HS.out 5).trans rfl
     cases l' with
     | nil =>
       have RE' : Hid ((if kids.length < 2 then some none else if sum = ext c.f1 c.f4 c.f5 then some (some (⟨c.f1, c.f4, c.f5, 0, kids⟩, [])) else some none) = some r) := Lib.hid (by have := RE.out; rw [growL, if_neg (by simp)] at this; exact this)
       clear RE
       obtain ⟨Av, cv, ev⟩ := Kd.R_slice RR.out
       subst ev
       by_cases hk2 : kids.length < 2
       · have RE2 : Hid (some none = some r) := Lib.hid (by have := RE'.out; rwa [if_pos hk2] at this)
         clear RE'
         go_wp2
         go_ret2
         obtain rfl := Option.some.inj RE2.out
         exact ⟨rfl, RB.out⟩
       · have RE2 : Hid ((if sum = ext c.f1 c.f4 c.f5 then some (some (⟨c.f1, c.f4, c.f5, 0, kids⟩, [])) else some none) = some r) := Lib.hid (by have := RE'.out; rwa [if_neg hk2] at this)
         clear RE'
         generalize hx : ext c.f1 c.f4 c.f5 = xt at *
         have hX := Lib.hid hx
         clear hx
         by_cases hs : sum = xt
         · have RE3 : Hid (some (some (⟨c.f1, c.f4, c.f5, 0, kids⟩, [])) = some r) := Lib.hid (by have := RE2.out; rwa [if_pos hs] at this)
           clear RE2
           go_wp2_with (go_at_call 68; refine (extent_calls (w.heap.size + 1) c.f1 c.f4 c.f5 _ hb2 hb3).mono ?_; rw [hX.out]; rintro e w' ⟨rfl, rfl⟩)
           go_wp2
           go_ret2
           obtain rfl := Option.some.inj RE3.out
           subst hn
           exact ⟨_, _, _, rfl, split_done c ck kids _ w _ HS.out RR.out, RL.out, RC.out, RB.out⟩
         · have hs' : (sum != xt) = true := bne_iff_ne.mpr hs
           have RE3 : Hid (some none = some r) := Lib.hid (by have := RE2.out; rwa [if_neg hs] at this)
           clear RE2
           go_wp2_with (go_at_call 68; refine (extent_calls (w.heap.size + 1) c.f1 c.f4 c.f5 _ hb2 hb3).mono ?_; rw [hX.out]; rintro e w' ⟨rfl, rfl⟩)
           go_wp2
           go_ret2
           obtain rfl := Option.some.inj RE3.out
           exact ⟨rfl, RB.out⟩
     | cons x l' =>
       have hq := Lib.hid RC.out
       obtain ⟨ad', rfl, q0, q1, q2, q3, q4, q5, q6⟩ := at_T45 (Kd.C_below (hq.out _ hrow.out) RB.out) 0 (by omega) (by simp)
       have ec : rd_T45 (x :: l') 0 = x := rfl
       have ea : ad'.add (Int.toNat 0 * 7) = ad' := rfl
       rw [ec, ea] at q0 q1 q2 q3 q4 q5 q6
       clear ec ea
       by_cases hd : x.f0 = wrap64 (depth + 1)
       · have hd' : (x.f0 == wrap64 (depth + 1)) = true := beq_iff_eq.mpr hd
         have RE1 : Hid ((if x.f1 = c.f1 then some none
     else (growF gk (x :: l') (wrap64 (depth + 1))).bind fun r =>
       match r with
       | none => some none
       | some (t, rest) => if ext (wrap64 (5 - c.f1)) t.w t.h = ext (wrap64 (5 - c.f1)) c.f4 c.f5 then growL gk c depth (kids ++ [t]) (wrap64 (sum + wrap64 (ext c.f1 t.w t.h + 1))) rest else some none) = some r) := Lib.hid (by
           have := RE.out
           rw [growL, if_pos (by simpa using hd)] at this
           by_cases e : x.f1 = c.f1
           · rw [if_pos e]
             rw [if_pos (by simpa using e)] at this
             exact this
           · rw [if_neg e]
             rw [if_neg (by simpa using e)] at this
             exact this)
         clear RE
         by_cases hf : x.f1 = c.f1
         · have hf' : (x.f1 == c.f1) = true := beq_iff_eq.mpr hf
           have RE2 : Hid (some none = some r) := Lib.hid (by have := RE1.out; rwa [if_pos hf] at this)
           clear RE1
           go_wp2
           go_quiet (fail)
           go_wp2
           go_ret2
           obtain rfl := Option.some.inj RE2.out
           exact ⟨rfl, pw_below_drewN RB.out _⟩
         · have hf' : (x.f1 == c.f1) = false := beq_eq_false_iff_ne.mpr hf
           have RE2 := RE1.out
           rw [if_neg hf] at RE2
           clear RE1
           obtain ⟨g, hg, RE3⟩ := Option.bind_eq_some_iff.mp RE2
           clear RE2
           have RE4 := Lib.hid RE3
           clear RE3
           have IH := Lib.hid (fun (W : World) (hC : Kd.C k45 W (some ad') (x :: l').length (x :: l')) => ih gk (by have := RK.out; omega) (by have := RK.out; omega) (some ad') c' (x :: l') (wrap64 (depth + 1)) g W hC RL.out hg)
           have HCx := Lib.hid (Kd.C_below (hq.out _ hrow.out) RB.out)
           clear hg
           go_wp2
           go_quiet (fail)
           go_wp2_with (go_at_call 52; refine (IH.out _ (Kd.C_drewN HCx.out _)).mono ?_)
           cases g with
           | none =>
             rintro e w2 ⟨rfl, b2⟩
             go_wp2
             go_ret2
             obtain rfl := Option.some.inj RE4.out
             exact ⟨rfl, RB.out.trans ((pw_below_drewN (Below.refl _ _) _).trans (b2.mono RB.out.size))⟩
           | some tr =>
             obtain ⟨t, rest⟩ := tr
             rintro e w2 ⟨v2, A2, c2, rfl, m2, l2, cc2, b2⟩
             obtain ⟨tp, bx, rfl, hbx, _, hw2, hh2, hme⟩ := tree_value m2
             have B2 : Below (w.heap.size + 3) wr w2 := (pw_below_drewN (Below.refl _ _) _).trans (b2.mono RS.out)
             have HC2 := Lib.hid ((B2.block _ (by omega)).trans HC.out)
             have HB2 := Lib.hid ((B2.block _ (by omega)).trans HB.out)
             have HS2 := Lib.hid ((B2.block _ (by omega)).trans HS.out)
             have RR2 := Lib.hid (Kd.R_below RR.out ((pw_below_drewN (Below.refl _ _) _).trans b2))
             have M2 := Lib.hid m2
             have BB2 := Lib.hid b2
             clear m2 b2 B2 hc0 hc4 hc5 hb2 hb3 hs5 q0 q1 q2 q3 q4 q5 q6
             have hc0 : w2.cell? ⟨w.heap.size, 1, none⟩ = some (.int .i64 c.f1) := (blk_cell HC2.out 1).trans rfl
             have hb2 : w2.cell? ⟨w.heap.size + 1, 2, none⟩ = some (.int .i64 c.f4) := (blk_cell HB2.out 2).trans rfl
             have hb3 : w2.cell? ⟨w.heap.size + 1, 3, none⟩ = some (.int .i64 c.f5) := (blk_cell HB2.out 3).trans rfl
             have hs5 : w2.cell? ⟨w.heap.size + 2, 5, none⟩ = some v := (blk_cell HS2.out 5).trans rfl
             go_wp2_with ((with_reducible refine gate_builtin (b := .append) (xs := #[.tmp 68, .tmp 70]) rfl ?_); at_builtin; refine Kd.R_append kT (w0 := w2) (w.heap.size + 3) rfl (.tmp 68) (.tmp 70) 118 65 .nilIface 16 rfl Tryd.underlying118 info_cell rfl (by decide) (by decide) v kids t _ (fun _ => True) (fun k => wr.heap.size ≤ k) rfl rfl ?hp ?hok (fun _ _ => trivial) ?HO ?HB ?hb ?hl ?_)
             case hp => exact kT.M_lower RS.out (kT.M_mono (fun _ hk => hk.2.1) (kT.M_bound M2.out))
             case hok => exact fun q hq => ⟨trivial, fun e => by obtain ⟨inner, hown⟩ := Kd.R_own RR.out; have := own_lt hown q e.symm; omega⟩
             case HO => exact RR2.out
             case HB => exact Below.refl _ _
             case hb => exact Nat.le_trans RS.out BB2.out.size
             case hl => have := RK.out; omega
             intro v1 w1 R1 hb1 hg1 hat1
             have HC3 := Lib.hid ((hb1.block _ (by omega)).trans HC2.out)
             have HB3 := Lib.hid ((hb1.block _ (by omega)).trans HB2.out)
             have HS3 := Lib.hid ((hb1.block _ (by omega)).trans HS2.out)
             have hnb : some bx ≠ v.ownBlock := fun e => by
               obtain ⟨inner, hown⟩ := Kd.R_own RR.out
               have := own_lt hown bx e.symm
               have hbx' : wr.heap.size ≤ bx := hbx
               omega
             have hbe : w1.heap[bx]? = w2.heap[bx]? := hg1.block bx (World.block_lt_of_cell? w2 _ hw2) hnb
             have hw3 : w1.cell? ⟨bx, 2, none⟩ = some (.int .i64 t.w) := by rw [← hw2]; simp only [World.cell?, hbe]
             have hh3 : w1.cell? ⟨bx, 3, none⟩ = some (.int .i64 t.h) := by rw [← hh2]; simp only [World.cell?, hbe]
             have RR3 := Lib.hid R1
             have BB3 := Lib.hid hb1
             have hbx1 : ¬ bx = w.heap.size + 1 + 1 := by have h := RS.out; have hbx' : wr.heap.size ≤ bx := hbx; omega
             have hbx2 : ¬ w.heap.size + 1 + 1 = bx := fun e => hbx1 e.symm
             clear R1 hb1 hg1 hat1 hbe hnb hc0 hb2 hb3 hs5 hw2 hh2
             have hc0 : w1.cell? ⟨w.heap.size, 1, none⟩ = some (.int .i64 c.f1) := (blk_cell HC3.out 1).trans rfl
             have hb2 : w1.cell? ⟨w.heap.size + 1, 2, none⟩ = some (.int .i64 c.f4) := (blk_cell HB3.out 2).trans rfl
             have hb3 : w1.cell? ⟨w.heap.size + 1, 3, none⟩ = some (.int .i64 c.f5) := (blk_cell HB3.out 3).trans rfl
             have hs5 : w1.cell? ⟨w.heap.size + 1 + 1, 5, none⟩ = some v := (blk_cell HS3.out 5).trans rfl
             have hfz : w1.frozen? ⟨w.heap.size + 1 + 1, 5, none⟩ = false := blk_frozen HS3.out 5
             obtain ⟨Av1, cv1, rfl⟩ := Kd.R_slice RR3.out
             go_wp2
             have elen : (kids ++ [t]).length = kids.length + 1 := by simp
             have RR4 := Lib.hid (Kd.R_far (p := ⟨w.heap.size + 1 + 1, 5, none⟩) (Kd.R_mono (Kd.R_bound RR3.out) (fun q hq => (show True ∧ q ≠ w.heap.size + 1 + 1 from ⟨trivial, by have := hq.2.1; omega⟩))) (fun q hq => hq.2) (.slice Av1 (kids.length + 1) cv1))
             have HC4 := Lib.hid (blk_far HC3.out (p := ⟨w.heap.size + 1 + 1, 5, none⟩) (by show w.heap.size ≠ w.heap.size + 1 + 1; omega) (.slice Av1 (kids.length + 1) cv1))
             have HB4 := Lib.hid (blk_far HB3.out (p := ⟨w.heap.size + 1 + 1, 5, none⟩) (by show w.heap.size + 1 ≠ w.heap.size + 1 + 1; omega) (.slice Av1 (kids.length + 1) cv1))
             have HS4 := Lib.hid (blk_put HS3.out 5 (.slice Av1 (kids.length + 1) cv1) rfl)
             have hw4 : (w1.setCell ⟨w.heap.size + 1 + 1, 5, none⟩ (.slice Av1 (kids.length + 1) cv1)).cell? ⟨bx, 2, none⟩ = some (.int .i64 t.w) := (cell_far hbx1 _).trans hw3
             have hh4 : (w1.setCell ⟨w.heap.size + 1 + 1, 5, none⟩ (.slice Av1 (kids.length + 1) cv1)).cell? ⟨bx, 3, none⟩ = some (.int .i64 t.h) := (cell_far hbx1 _).trans hh3
             have BB4 := Lib.hid (below_set (g := w.heap.size + 1 + 1) (j := 5) (v := .slice Av1 (kids.length + 1) cv1) ((RB.out.trans ((pw_below_drewN (Below.refl _ _) _).trans (BB2.out.mono RB.out.size))).trans (BB3.out.mono (by omega))) (by omega))
             have SZ4 : Hid (w.heap.size + 3 ≤ (w1.setCell ⟨w.heap.size + 1 + 1, 5, none⟩ (.slice Av1 (kids.length + 1) cv1)).heap.size) := Lib.hid (Nat.lt_of_lt_of_le (Nat.lt_succ_self _) (blk_lt HS4.out))
             clear hc0 hb2 hb3 hs5 hfz hw3 hh3 HC3 HB3 HS3 BB3 RR3
             generalize w1.setCell ⟨w.heap.size + 1 + 1, 5, none⟩ (.slice Av1 (kids.length + 1) cv1) = wq at RR4 HC4 HB4 HS4 hw4 hh4 BB4 SZ4 ⊢
             have hc0 : wq.cell? ⟨w.heap.size, 1, none⟩ = some (.int .i64 c.f1) := (blk_cell HC4.out 1).trans rfl
             have hb2 : wq.cell? ⟨w.heap.size + 1, 2, none⟩ = some (.int .i64 c.f4) := (blk_cell HB4.out 2).trans rfl
             have hb3 : wq.cell? ⟨w.heap.size + 1, 3, none⟩ = some (.int .i64 c.f5) := (blk_cell HB4.out 3).trans rfl
             go_quiet (first | (with_reducible exact Calls.quiet_of_same (where_calls _ _)) | ((with_reducible refine Calls.quiet_of_same (extent_calls bx _ t.w t.h _ ?_ ?_)); exact hw4; exact hh4))
             have hc1 : (wq.drewN nq).cell? ⟨w.heap.size, 1, none⟩ = some (.int .i64 c.f1) := hc0
             have hb12 : (wq.drewN nq).cell? ⟨w.heap.size + 1, 2, none⟩ = some (.int .i64 c.f4) := hb2
             have hb13 : (wq.drewN nq).cell? ⟨w.heap.size + 1, 3, none⟩ = some (.int .i64 c.f5) := hb3
             have hw5 : (wq.drewN nq).cell? ⟨bx, 2, none⟩ = some (.int .i64 t.w) := hw4
             have hh5 : (wq.drewN nq).cell? ⟨bx, 3, none⟩ = some (.int .i64 t.h) := hh4
             have XH : Hid ((wq.drewN nq).heap = wq.heap) := Lib.hid rfl
             have XB : Hid (∀ B, Below B wq (wq.drewN nq)) := Lib.hid (fun B => pw_below_drewN (Below.refl B wq) nq)
             clear hc0 hb2 hb3 hw4 hh4
             generalize wq.drewN nq = wq2 at hc1 hb12 hb13 hw5 hh5 XH XB ⊢
             by_cases he : ext (wrap64 (5 - c.f1)) t.w t.h = ext (wrap64 (5 - c.f1)) c.f4 c.f5
             · have he' : (ext (wrap64 (5 - c.f1)) t.w t.h != ext (wrap64 (5 - c.f1)) c.f4 c.f5) = false := bne_eq_false_iff_eq.mpr he
               have RE5 : Hid (growL gk c depth (kids ++ [t]) (wrap64 (sum + wrap64 (ext c.f1 t.w t.h + 1))) rest = some r) := Lib.hid (by have h : (if ext (wrap64 (5 - c.f1)) t.w t.h = ext (wrap64 (5 - c.f1)) c.f4 c.f5 then growL gk c depth (kids ++ [t]) (wrap64 (sum + wrap64 (ext c.f1 t.w t.h + 1))) rest else some none) = some r := RE4.out; rwa [if_pos he] at h)
               clear RE4
               go_wp2
               go_quiet (first | (with_reducible exact Calls.quiet_of_same (where_calls _ _)) | ((with_reducible refine Calls.quiet_of_same (extent_calls bx _ t.w t.h _ ?_ ?_)); exact hw5; exact hh5) | ((with_reducible refine Calls.quiet_of_same (extent_calls (w.heap.size + 1) _ c.f4 c.f5 _ ?_ ?_)); exact hb12; exact hb13))
               go_wp2
               go_roundg gk
               case measure => omega
               case rel =>
                 refine ⟨A2, c2, rest, _, kids ++ [t], .slice Av1 (kids.length + 1) cv1, rfl, rfl, ⟨RE5.out⟩, ⟨by have := RK.out; simp; omega⟩, ⟨l2⟩, ⟨fun W hW => cc2 W (RC.out W hW)⟩, ?_, ?_, ?_, ?_, ?_, ?_⟩
                 · exact ⟨pw_below_drewN (BB4.out.trans (XB.out _)) _⟩
                 · exact ⟨by have h := SZ4.out; rw [← XH.out] at h; exact h⟩
                 · exact ⟨by have h := HC4.out; rw [← XH.out] at h; exact h⟩
                 · exact ⟨by have h := HB4.out; rw [← XH.out] at h; exact h⟩
                 · exact ⟨by have h := HS4.out; rw [← XH.out] at h; exact h⟩
                 · have h := RR4.out
                   rw [elen] at h
                   exact ⟨Kd.R_mono (ok' := fun _ => True) (Kd.R_move (w1 := wq2.drewN nq) h (fun k _ => congrArg (fun hp => hp[k]?) XH.out)) (fun _ _ => trivial)⟩
             · have he' : (ext (wrap64 (5 - c.f1)) t.w t.h != ext (wrap64 (5 - c.f1)) c.f4 c.f5) = true := bne_iff_ne.mpr he
               have RE5 : Hid (some none = some r) := Lib.hid (by have h : (if ext (wrap64 (5 - c.f1)) t.w t.h = ext (wrap64 (5 - c.f1)) c.f4 c.f5 then growL gk c depth (kids ++ [t]) (wrap64 (sum + wrap64 (ext c.f1 t.w t.h + 1))) rest else some none) = some r := RE4.out; rwa [if_neg he] at h)
               clear RE4
               go_wp2
               go_quiet (first | (with_reducible exact Calls.quiet_of_same (where_calls _ _)) | ((with_reducible refine Calls.quiet_of_same (extent_calls bx _ t.w t.h _ ?_ ?_)); exact hw5; exact hh5) | ((with_reducible refine Calls.quiet_of_same (extent_calls (w.heap.size + 1) _ c.f4 c.f5 _ ?_ ?_)); exact hb12; exact hb13))
               go_wp2
               go_ret2
               obtain rfl := Option.some.inj RE5.out
               exact ⟨rfl, pw_below_drewN (BB4.out.trans (XB.out _)) _⟩
       · have RE' : Hid ((if kids.length < 2 then some none else if sum = ext c.f1 c.f4 c.f5 then some (some (⟨c.f1, c.f4, c.f5, 0, kids⟩, x :: l')) else some none) = some r) := Lib.hid (by have := RE.out; rw [growL, if_neg (by simpa using hd)] at this; exact this)
         clear RE
         obtain ⟨Av, cv, ev⟩ := Kd.R_slice RR.out
         subst ev
         by_cases hk2 : kids.length < 2
         · have RE2 : Hid (some none = some r) := Lib.hid (by have := RE'.out; rwa [if_pos hk2] at this)
           clear RE'
           go_wp2
           go_ret2
           obtain rfl := Option.some.inj RE2.out
           exact ⟨rfl, RB.out⟩
         · have RE2 : Hid ((if sum = ext c.f1 c.f4 c.f5 then some (some (⟨c.f1, c.f4, c.f5, 0, kids⟩, x :: l')) else some none) = some r) := Lib.hid (by have := RE'.out; rwa [if_neg hk2] at this)
           clear RE'
           generalize hx : ext c.f1 c.f4 c.f5 = xt at *
           have hX := Lib.hid hx
           clear hx
           by_cases hs : sum = xt
           · have RE3 : Hid (some (some (⟨c.f1, c.f4, c.f5, 0, kids⟩, x :: l')) = some r) := Lib.hid (by have := RE2.out; rwa [if_pos hs] at this)
             clear RE2
             go_wp2_with (go_at_call 68; refine (extent_calls (w.heap.size + 1) c.f1 c.f4 c.f5 _ hb2 hb3).mono ?_; rw [hX.out]; rintro e w' ⟨rfl, rfl⟩)
             go_wp2
             go_ret2
             obtain rfl := Option.some.inj RE3.out
             subst hn
             exact ⟨_, _, _, rfl, split_done c ck kids _ w _ HS.out RR.out, RL.out, RC.out, RB.out⟩
           · have hs' : (sum != xt) = true := bne_iff_ne.mpr hs
             have RE3 : Hid (some none = some r) := Lib.hid (by have := RE2.out; rwa [if_neg hs] at this)
             clear RE2
             go_wp2_with (go_at_call 68; refine (extent_calls (w.heap.size + 1) c.f1 c.f4 c.f5 _ hb2 hb3).mono ?_; rw [hX.out]; rintro e w' ⟨rfl, rfl⟩)
             go_wp2
             go_ret2
             obtain rfl := Option.some.inj RE3.out
             exact ⟨rfl, RB.out⟩
end Go.Proofs.YtmpnkckaohfflaaDoor.PGiv
end
section
namespace Go.Proofs.YtmpnkckaohfflaaDoor.PGiv
open Go.RowKit Go.Proofs.YtmpnkckaohfflaaDoorW.PrintWords Go.Proofs.YtmpnkckaohfflaaDoorW.PrintLast Go.Proofs.YtmpnkckaohfflaaDoorW.PrintMore Go.Proofs.YtmpnkckaohfflaaDoor.K
set_option linter.unusedVariables false
set_option linter.unusedSimpArgs false
theorem Tr.ind {P : Tr → Prop} (h : ∀ kind W H id kids, (∀ t ∈ kids, P t) → P ⟨kind, W, H, id, kids⟩) : ∀ t, P t :=
 Tr.rec (motive_1 := P) (motive_2 := fun ts => ∀ t ∈ ts, P t) h (fun t ht => by cases ht) (fun t ts ht hts u hu => by
   rcases List.mem_cons.1 hu with rfl | hu
   · exact ht
   · exact hts u hu)
mutual
def layT : Tr → Int → Int → Int → List S45
 | ⟨kind, W, H, id, kids⟩, d, x, y => if kind = 1 then [⟨d, 1, x, y, W, H, id⟩] else ⟨d, kind, x, y, W, H, 0⟩ :: layL kind kids (wrap64 (d + 1)) x y
def layL : Int → List Tr → Int → Int → Int → List S45
 | _, [], _, _, _ => []
 | kind, k :: r, d, x, y => layT k d x y ++ layL kind r d (if kind = 2 then wrap64 (x + wrap64 (k.w + 1)) else x) (if kind = 2 then y else wrap64 (y + wrap64 (k.h + 1)))
end
mutual
def cntT : Tr → Nat
 | ⟨_, _, _, _, kids⟩ => 1 + cntL kids
def cntL : List Tr → Nat
 | [] => 0
 | k :: r => cntT k + cntL r
end
theorem cntT_pos : ∀ t, 1 ≤ cntT t := fun ⟨_, _, _, _, _⟩ => by rw [cntT]; omega
theorem len_cntL : ∀ ks : List Tr, ks.length ≤ cntL ks
 | [] => by simp
 | k :: r => by
   have := len_cntL r
   have := cntT_pos k
   rw [cntL, List.length_cons]
   omega
theorem layL_len : ∀ (ks : List Tr), (∀ t ∈ ks, ∀ d x y, (layT t d x y).length ≤ cntT t) → ∀ kind d x y, (layL kind ks d x y).length ≤ cntL ks
 | [], _, _, _, _, _ => by simp [layL]
 | k :: r, h, kind, d, x, y => by
   have h1 := h k List.mem_cons_self d x y
   have h2 := layL_len r (fun t ht => h t (List.mem_cons_of_mem _ ht)) kind d (if kind = 2 then wrap64 (x + wrap64 (k.w + 1)) else x) (if kind = 2 then y else wrap64 (y + wrap64 (k.h + 1)))
   rw [layL, cntL, List.length_append]
   omega
theorem layT_len : ∀ (t : Tr) (d x y : Int), (layT t d x y).length ≤ cntT t := Tr.ind fun kind W H id kids ih d x y => by
 rw [layT, cntT]
 split
 · simp
 · have := layL_len kids ih kind (wrap64 (d + 1)) x y
   simp
   omega
theorem tree_cells {w : World} {base : Nat} {ok : Nat → Prop} {t : Tr} {tp : TypeId} {b : Nat} (h : kT.M w base ok t [.iface tp (.pointer (some ⟨b, 0, none⟩))]) :
   base ≤ b ∧ ok b ∧ w.cell? ⟨b, 2, none⟩ = some (.int .i64 t.w) ∧ w.cell? ⟨b, 3, none⟩ = some (.int .i64 t.h) ∧
     (∀ W : World, (method 276 tp (.pointer (some ⟨b, 0, none⟩)) "mullion/layout.where").run Tryd.prog W = .ok (118, .pointer (some ⟨b, 0, none⟩)) W) := by
 obtain ⟨tp', b', e, h1, h2, h3, h4, h5⟩ := tree_value h
 injection e with e1 e2
 injection e2 with e2
 injection e2 with e2
 injection e2 with e2
 subst e1 e2
 exact ⟨h1, h2, h3, h4, h5⟩
theorem pane_moved {w : World} {b base : Nat} {r1 r2 r3 x0 y0 : Value} (x y : Int) (hb : base ≤ b) (h : w.heap[b]? = some (.cells #[x0, y0, r1, r2, r3] 107 (0, 0))) (hx : ∃ i, x0 = .int .i64 i) (hy : ∃ i, y0 = .int .i64 i) :
   ((w.setCell ⟨b, 0, none⟩ (.int .i64 x)).setCell ⟨b, 1, none⟩ (.int .i64 y)).heap[b]? = some (.cells #[.int .i64 x, .int .i64 y, r1, r2, r3] 107 (0, 0)) ∧
   (∀ k : Nat, Alike w.heap[k]? ((w.setCell ⟨b, 0, none⟩ (.int .i64 x)).setCell ⟨b, 1, none⟩ (.int .i64 y)).heap[k]?) ∧ Below base w ((w.setCell ⟨b, 0, none⟩ (.int .i64 x)).setCell ⟨b, 1, none⟩ (.int .i64 y)) := by
 obtain ⟨i, rfl⟩ := hx
 obtain ⟨j, rfl⟩ := hy
 have h1 := blk_put h 0 (.int .i64 x) rfl
 have h2 := blk_put h1 1 (.int .i64 y) rfl
 refine ⟨h2, fun k => ?_, ((Below.refl _ _).setCell hb _).setCell hb _⟩
 by_cases e : k = b
 · subst e
   rw [h, h2]
   exact .inr (.inl ⟨_, _, _, _, _, _, _, rfl, rfl⟩)
 · rw [Below.heap_setCell _ _ _ k e, Below.heap_setCell _ _ _ k e]
   exact .refl _
theorem split_moved {w : World} {b base : Nat} {r1 r2 r3 r4 x0 y0 : Value} (x y : Int) (hb : base ≤ b) (h : w.heap[b]? = some (.cells #[x0, y0, r1, r2, r3, r4] 120 (0, 0))) (hx : ∃ i, x0 = .int .i64 i) (hy : ∃ i, y0 = .int .i64 i) :
   ((w.setCell ⟨b, 0, none⟩ (.int .i64 x)).setCell ⟨b, 1, none⟩ (.int .i64 y)).heap[b]? = some (.cells #[.int .i64 x, .int .i64 y, r1, r2, r3, r4] 120 (0, 0)) ∧
   (∀ k : Nat, Alike w.heap[k]? ((w.setCell ⟨b, 0, none⟩ (.int .i64 x)).setCell ⟨b, 1, none⟩ (.int .i64 y)).heap[k]?) ∧ Below base w ((w.setCell ⟨b, 0, none⟩ (.int .i64 x)).setCell ⟨b, 1, none⟩ (.int .i64 y)) := by
 obtain ⟨i, rfl⟩ := hx
 obtain ⟨j, rfl⟩ := hy
 have h1 := blk_put h 0 (.int .i64 x) rfl
 have h2 := blk_put h1 1 (.int .i64 y) rfl
 refine ⟨h2, fun k => ?_, ((Below.refl _ _).setCell hb _).setCell hb _⟩
 by_cases e : k = b
 · subst e
   rw [h, h2]
   exact .inr (.inr ⟨_, _, _, _, _, _, _, _, rfl, rfl⟩)
 · rw [Below.heap_setCell _ _ _ k e, Below.heap_setCell _ _ _ k e]
   exact .refl _
theorem cell_new (w1 : World) (o : Obj) : (w1.alloc o).drew.heap[w1.heap.size]? = some o ∧ (∀ k : Nat, k < w1.heap.size → (w1.alloc o).drew.heap[k]? = w1.heap[k]?) ∧ (w1.alloc o).drew.heap.size = w1.heap.size + 1 ∧ (∀ B, B ≤ w1.heap.size → Below B w1 (w1.alloc o).drew) := by
 have e : (w1.alloc o).drew.heap = w1.heap.push o := rfl
 refine ⟨by rw [e]; simp, fun k hk => by rw [e, Array.getElem?_push_lt hk, Array.getElem?_eq_getElem hk], by rw [e]; simp, fun B hB => ?_⟩
 exact (Below.refl _ _).trans (((Below.refl B w1).alloc hB o).drew)
def LayPost (base h0 : Nat) (l' : List S45) (w : World) (e : Ending) (w' : World) : Prop :=
 e = .returned (.tuple #[]) ∧ Below base w w' ∧ (∀ k, k < h0 → Alike w.heap[k]? w'.heap[k]?) ∧ ∃ vs, w'.heap[h0]? = some (.cells #[vs] 22 (0, 0)) ∧ Kd.R k45 45 w' (h0 + 1) (fun _ => True) vs l'
theorem noSplit (b : Nat) (w : World) : (Instr.typeAssert (paneV b) 65 117 true).run Tryd.prog w = .ok (.tuple #[.pointer none, .bool false]) w := by kernel_rfl
theorem isLeaf (b : Nat) (w : World) : (Instr.typeAssert (paneV b) 65 103 false).run Tryd.prog w = .ok (.pointer (some ⟨b, 0, none⟩)) w := by kernel_rfl
theorem isSplit (b : Nat) (w : World) : (Instr.typeAssert (splitV b) 65 117 true).run Tryd.prog w = .ok (.tuple #[.pointer (some ⟨b, 0, none⟩), .bool true]) w := by kernel_rfl
set_option maxHeartbeats 8000000 in
set_option maxRecDepth 100000 in
theorem lay_pane (base h0 b : Nat) (W H id d x y : Int) (l : List S45) (vs : Value) (w : World) (hbase : base ≤ h0) (hbb : base ≤ b) (hbh : b < h0)
   (hp : paneAt w b ⟨1, W, H, id, []⟩) (ho : w.heap[h0]? = some (.cells #[vs] 22 (0, 0))) (hR : Kd.R k45 45 w (h0 + 1) (fun _ => True) vs l) (hl : l.length < 1000000) :
   Calls Tryd.prog 69 #[paneV b, .int .i64 d, .int .i64 x, .int .i64 y, .pointer (some ⟨h0, 0, none⟩)] w fun e w' => LayPost base h0 (l ++ [⟨d, 1, x, y, W, H, id⟩]) w e w' := by
 obtain ⟨x0, y0, hp⟩ := hp
 obtain ⟨M1, M2, M3⟩ := pane_moved x y hbb hp ⟨_, rfl⟩ ⟨_, rfl⟩
 have hx0 : w.cell? ⟨b, 0, none⟩ = some (.int .i64 x0) := (blk_cell hp 0).trans rfl
 have hy0 : w.cell? ⟨b, 1, none⟩ = some (.int .i64 y0) := (blk_cell hp 1).trans rfl
 have hfx : w.frozen? ⟨b, 0, none⟩ = false := blk_frozen hp 0
 have hfy : w.frozen? ⟨b, 1, none⟩ = false := blk_frozen hp 1
 have hme := whereP b
 have hns := noSplit b
 have hil := isLeaf b
 have HP := Lib.hid M1
 have HA := Lib.hid M2
 have HB := Lib.hid M3
 have HO := Lib.hid (((Below.heap_setCell _ ⟨b, 1, none⟩ (.int .i64 y) h0 (by show h0 ≠ b; omega)).trans (Below.heap_setCell w ⟨b, 0, none⟩ (.int .i64 x) h0 (by show h0 ≠ b; omega))).trans ho)
 have HR := Lib.hid (Kd.R_far (p := ⟨b, 1, none⟩) (Kd.R_far (p := ⟨b, 0, none⟩) (Kd.R_mono (Kd.R_bound hR) (fun k hk => (show True ∧ k ≠ b from ⟨trivial, by have := hk.2.1; omega⟩))) (fun k hk => hk.2) (.int .i64 x)) (fun k hk => hk.2) (.int .i64 y))
 clear M1 M2 M3 ho hR hp
 go_enter Tryd.func69, Tryd.ntmps69
 go_wp2
 generalize (w.setCell ⟨b, 0, none⟩ (.int .i64 x)).setCell ⟨b, 1, none⟩ (.int .i64 y) = w1 at HP HA HB HO HR ⊢
 have hb2 : w1.cell? ⟨b, 2, none⟩ = some (.int .i64 W) := (blk_cell HP.out 2).trans rfl
 have hb3 : w1.cell? ⟨b, 3, none⟩ = some (.int .i64 H) := (blk_cell HP.out 3).trans rfl
 clear hx0 hy0 hfx hfy
 have ha2 : ∀ o : Obj, (w1.alloc o).cell? ⟨b, 2, none⟩ = some (.int .i64 W) := fun o => (World.cell?_alloc_lt _ _ _ (blk_lt HP.out)).trans hb2
 have ha3 : ∀ o : Obj, (w1.alloc o).cell? ⟨b, 3, none⟩ = some (.int .i64 H) := fun o => (World.cell?_alloc_lt _ _ _ (blk_lt HP.out)).trans hb3
 go_region
 obtain ⟨N1, N2, N3, N4⟩ := cell_new w1 (.cells #[.int .i64 d, .int .i64 1, .int .i64 x, .int .i64 y, .int .i64 W, .int .i64 H, .int .i64 0] 45 (0, 0))
 generalize (w1.alloc (.cells #[.int .i64 d, .int .i64 1, .int .i64 x, .int .i64 y, .int .i64 W, .int .i64 H, .int .i64 0] 45 (0, 0))).drew = w2 at N1 N2 N3 N4 ⊢
 have hb0 := blk_lt HO.out
 have hbw : b < w1.heap.size := blk_lt HP.out
 have HP2 := Lib.hid ((N2 b hbw).trans HP.out)
 have HO2 := Lib.hid ((N2 h0 hb0).trans HO.out)
 have HR2 := Lib.hid (Kd.R_move (Kd.R_bound HR.out) (fun k hk => N2 k hk.2.2.1))
 have hcb : h0 + 1 ≤ w1.heap.size := hb0
 have hfb : w2.frozen? ⟨w1.heap.size, 6, none⟩ = false := blk_frozen N1 6
 have hcb6 : w2.cell? ⟨w1.heap.size, 6, none⟩ = some (.int .i64 0) := (blk_cell N1 6).trans rfl
 have hb4 : w2.cell? ⟨b, 4, none⟩ = some (.int .i64 id) := (blk_cell HP2.out 4).trans rfl
 have C3 := Lib.hid (blk_put N1 6 (.int .i64 id) rfl)
 have O3 := Lib.hid ((Below.heap_setCell w2 ⟨w1.heap.size, 6, none⟩ (.int .i64 id) h0 (by show h0 ≠ w1.heap.size; omega)).trans HO2.out)
 have R3 := Lib.hid (Kd.R_far (p := ⟨w1.heap.size, 6, none⟩) (Kd.R_mono HR2.out (fun k hk => (show True ∧ k ≠ w1.heap.size from ⟨trivial, by have := hk.2.2.1; omega⟩))) (fun k hk => hk.2) (.int .i64 id))
 have B3 := Lib.hid (((HB.out).trans (N4 base (by omega))).setCell (p := ⟨w1.heap.size, 6, none⟩) (by show base ≤ w1.heap.size; omega) (.int .i64 id))
 have A3 := Lib.hid (fun (k : Nat) (hk : k < h0) => (HA.out k).trans (show Alike w1.heap[k]? (w2.setCell ⟨w1.heap.size, 6, none⟩ (.int .i64 id)).heap[k]? by rw [Below.heap_setCell _ _ _ k (by show k ≠ w1.heap.size; omega), N2 k (by omega)]; exact .refl _))
 clear N1 N2 N3 N4 hb2 hb3 ha2 ha3 HP HA HB HO HR
 go_wp2
 generalize w2.setCell ⟨w1.heap.size, 6, none⟩ (.int .i64 id) = w3 at C3 O3 R3 B3 A3 ⊢
 have hO0 : w3.cell? ⟨h0, 0, none⟩ = some vs := (blk_cell O3.out 0).trans rfl
 have hc0 : w3.cell? ⟨w1.heap.size, 0, none⟩ = some (.int .i64 d) := (blk_cell C3.out 0).trans rfl
 have hc1 : w3.cell? ⟨w1.heap.size, 1, none⟩ = some (.int .i64 1) := (blk_cell C3.out 1).trans rfl
 have hc2 : w3.cell? ⟨w1.heap.size, 2, none⟩ = some (.int .i64 x) := (blk_cell C3.out 2).trans rfl
 have hc3 : w3.cell? ⟨w1.heap.size, 3, none⟩ = some (.int .i64 y) := (blk_cell C3.out 3).trans rfl
 have hc4 : w3.cell? ⟨w1.heap.size, 4, none⟩ = some (.int .i64 W) := (blk_cell C3.out 4).trans rfl
 have hc5 : w3.cell? ⟨w1.heap.size, 5, none⟩ = some (.int .i64 H) := (blk_cell C3.out 5).trans rfl
 have hc6 : w3.cell? ⟨w1.heap.size, 6, none⟩ = some (.int .i64 id) := (blk_cell C3.out 6).trans rfl
 clear hfb hcb6 hb4
 have L3 := Lib.hid (blk_lt C3.out)
 have hOa : ∀ o : Obj, (w3.alloc o).cell? ⟨h0, 0, none⟩ = some vs := fun o => (World.cell?_alloc_lt _ _ _ (blk_lt O3.out)).trans hO0
 go_region_law (refine Kd.R_append_step k45 (w0 := w3.drew) (W := w3.drew) (h0 + 1) (by kernel_rfl) (.tmp 54) (.tmp 56) 22 45 _ 56 rfl Tryd.underlying22 info45 rfl (by decide) (by decide) vs l ⟨d, 1, x, y, W, H, id⟩ _ (fun _ => True) (fun _ => False) rfl rfl (k45_mkM _ _ _ _) (fun _ h => h.elim) (fun _ _ => trivial) (Kd.R_mono (Kd.R_move (w1 := w3.drew) R3.out (fun _ _ => rfl)) (fun _ _ => trivial)) (Below.refl _ _) (by have := L3.out; show h0 + 1 ≤ w3.heap.size; omega) (by omega) ?_; intro v1 w5 r5 hb5 hg5 hat5; obtain ⟨Av, cv, rfl⟩ := Kd.R_slice r5; have O5 := Lib.hid ((hg5.block h0 (blk_lt O3.out) (fun e => by obtain ⟨inner, hown⟩ := Kd.R_own R3.out; exact absurd (own_base hown h0 e.symm) (by omega))).trans O3.out); have hO5 : w5.cell? ⟨h0, 0, none⟩ = some vs := (blk_cell O5.out 0).trans rfl; have hf5 : w5.frozen? ⟨h0, 0, none⟩ = false := blk_frozen O5.out 0; have R5 := Lib.hid r5; have B5 := Lib.hid hb5; clear r5 hb5 hg5 hat5)
 all_goals
   go_wp2
   refine bodyPost_ret (results_none rfl _ _ _) rfl ?_
   refine ⟨rfl, ?_, ?_, _, blk_put O5.out 0 _ rfl, ?_⟩
   · exact ((B3.out.drew).trans (B5.out.mono (by omega))).setCell (p := ⟨h0, 0, none⟩) hbase _
   · intro k hk
     rw [Below.heap_setCell _ _ _ k (by show k ≠ h0; omega), B5.out.block k (by omega)]
     exact A3.out k hk
   · have h5 := R5.out
     rw [List.length_append, List.length_singleton] at h5
     exact Kd.R_mono (Kd.R_far (p := ⟨h0, 0, none⟩) (Kd.R_mono (Kd.R_bound h5) (fun k hk => (show True ∧ k ≠ h0 from ⟨trivial, by have := hk.2.1; omega⟩))) (fun k hk => hk.2) _) (fun _ _ => trivial)
theorem split_again {w w1 : World} {base b : Nat} {ok : Nat → Prop} {t : Tr} {v : Value} (hM : kT.M w base ok t [splitV b]) (hp : splitAt w b t v) (hb : ok b) (ha : ∀ k, ok k → Alike w.heap[k]? w1.heap[k]?) :
   splitAt w1 b t v ∧ kT.R 65 w1 base (fun k => ok k ∧ k ≠ b) v t.kids := by
 obtain ⟨x, y, h1⟩ := splitAt_alike (ha b hb) hp
 rcases kT_open (kT_alike hM ha) with ⟨_, _, b', e, _⟩ | ⟨_, _, b', v', e, _, _, ⟨x', y', h2⟩, hr⟩
 · injection e with e
   injection e with e
   cases e
 · injection e with e
   injection e with _ e
   injection e with e
   injection e with e
   injection e with e
   subst e
   rw [h1] at h2
   injection h2 with h2
   injection h2 with h2 _ _
   simp only [Array.mk.injEq, List.cons.injEq] at h2
   obtain ⟨_, _, _, _, _, e, _⟩ := h2
   subst e
   exact ⟨⟨x, y, h1⟩, hr⟩
theorem kid_at {w : World} {base : Nat} {ok : Nat → Prop} {A : Option Addr} {n c : Nat} {kids : List Tr} (h : kT.R 65 w base ok (.slice A n c) kids) (i : Nat) (hi : i < kids.length) :
   ∃ (g : Nat) (tp : TypeId) (bk : Nat), A = some ⟨g, 0, none⟩ ∧ w.cell? ⟨g, i, none⟩ = some (.iface tp (.pointer (some ⟨bk, 0, none⟩))) ∧ kT.M w base ok (kids[i]) [.iface tp (.pointer (some ⟨bk, 0, none⟩))] := by
 obtain ⟨g, cap, e, _⟩ := Kd.R_form h (by omega)
 injection e with e1 e2 e3
 subst e1 e2 e3
 obtain ⟨cs, hl, hM, hc⟩ := Kd.R_get h kids[i] (i : Int) (by omega) (by omega)
 have hM' : kT.M w base ok kids[i] cs := by
   have h1 := kT.M_mono (ok' := ok) (fun k hk => hk.1) hM
   simpa [List.getD_eq_getElem?_getD, List.getElem?_eq_getElem hi] using h1
 have hl' : cs.length = 1 := hl
 obtain ⟨u, rfl⟩ := List.length_eq_one_iff.1 hl'
 obtain ⟨tp, bk, rfl, _⟩ := tree_value hM'
 refine ⟨g, tp, bk, rfl, ?_, hM'⟩
 have h1 := hc 0 _ rfl
 have e : (⟨g, 0, none⟩ : Addr).add ((i : Int).toNat * kT.sz + 0) = ⟨g, i, none⟩ := by
   rw [add_at]
   have e1 : kT.sz = 1 := rfl
   rw [e1]
   simp
 rwa [e] at h1
set_option maxHeartbeats 16000000 in
set_option maxRecDepth 100000 in
theorem lay_calls (base h0 : Nat) (hbase : base ≤ h0) : ∀ (t : Tr) (d x y : Int) (l : List S45) (vs v : Value) (w : World), kT.M w base (fun k => k < h0) t [v] → w.heap[h0]? = some (.cells #[vs] 22 (0, 0)) →
   Kd.R k45 45 w (h0 + 1) (fun _ => True) vs l → l.length + cntT t ≤ 1000000 →
   Calls Tryd.prog 69 #[v, .int .i64 d, .int .i64 x, .int .i64 y, .pointer (some ⟨h0, 0, none⟩)] w fun e w' => LayPost base h0 (l ++ layT t d x y) w e w' := by
 refine Tr.ind ?_
 intro kind W H id kids ih d x y l vs v w hM ho hR hl
 rcases kT_open hM with ⟨k1, k2, b, e, hbh, hbb, hp⟩ | ⟨k1, k2, b, v', e, hbh, hbb, ⟨x0, y0, hp⟩, hr⟩
 · injection e with e
   subst e
   obtain rfl : kind = 1 := k1
   obtain rfl : kids = [] := k2
   rw [layT, if_pos rfl]
   exact lay_pane base h0 b W H id d x y l vs w hbase hbb hbh hp ho hR (by rw [cntT] at hl; omega)
 · injection e with e
   subst e
   have k1 : kind ≠ 1 := k1
   clear k2
   obtain ⟨A, c, rfl⟩ := Kd.R_slice hr
   have hn : (⟨kind, W, H, id, kids⟩ : Tr).kids.length = kids.length := rfl
   rw [hn] at hp hr
   have hTM := Lib.hid hM
   have hTP := Lib.hid (show splitAt w b ⟨kind, W, H, id, kids⟩ (.slice A kids.length c) from ⟨x0, y0, hp⟩)
   have IH := Lib.hid ih
   have HL := Lib.hid hl
   obtain ⟨M1, M2, M3⟩ := split_moved x y hbb hp ⟨_, rfl⟩ ⟨_, rfl⟩
   have hx0 : w.cell? ⟨b, 0, none⟩ = some (.int .i64 x0) := (blk_cell hp 0).trans rfl
   have hy0 : w.cell? ⟨b, 1, none⟩ = some (.int .i64 y0) := (blk_cell hp 1).trans rfl
   have hfx : w.frozen? ⟨b, 0, none⟩ = false := blk_frozen hp 0
   have hfy : w.frozen? ⟨b, 1, none⟩ = false := blk_frozen hp 1
   have hme := whereS b
   have his := isSplit b
   have HP := Lib.hid M1
   have HA := Lib.hid M2
   have HB := Lib.hid M3
   have HO := Lib.hid (((Below.heap_setCell _ ⟨b, 1, none⟩ (.int .i64 y) h0 (by show h0 ≠ b; omega)).trans (Below.heap_setCell w ⟨b, 0, none⟩ (.int .i64 x) h0 (by show h0 ≠ b; omega))).trans ho)
   have HR := Lib.hid (Kd.R_far (p := ⟨b, 1, none⟩) (Kd.R_far (p := ⟨b, 0, none⟩) (Kd.R_mono (Kd.R_bound hR) (fun k hk => (show True ∧ k ≠ b from ⟨trivial, by have := hk.2.1; omega⟩))) (fun k hk => hk.2) (.int .i64 x)) (fun k hk => hk.2) (.int .i64 y))
   clear M1 M2 M3 ho hR hp hM hr ih hl
   go_enter Tryd.func69, Tryd.ntmps69
   go_wp2
   generalize (w.setCell ⟨b, 0, none⟩ (.int .i64 x)).setCell ⟨b, 1, none⟩ (.int .i64 y) = w1 at HP HA HB HO HR ⊢
   have hb2 : w1.cell? ⟨b, 2, none⟩ = some (.int .i64 W) := (blk_cell HP.out 2).trans rfl
   have hb3 : w1.cell? ⟨b, 3, none⟩ = some (.int .i64 H) := (blk_cell HP.out 3).trans rfl
   clear hx0 hy0 hfx hfy
   have ha2 : ∀ o : Obj, (w1.alloc o).cell? ⟨b, 2, none⟩ = some (.int .i64 W) := fun o => (World.cell?_alloc_lt _ _ _ (blk_lt HP.out)).trans hb2
   have ha3 : ∀ o : Obj, (w1.alloc o).cell? ⟨b, 3, none⟩ = some (.int .i64 H) := fun o => (World.cell?_alloc_lt _ _ _ (blk_lt HP.out)).trans hb3
   go_region
   obtain ⟨N1, N2, N3, N4⟩ := cell_new w1 (.cells #[.int .i64 d, .int .i64 1, .int .i64 x, .int .i64 y, .int .i64 W, .int .i64 H, .int .i64 0] 45 (0, 0))
   generalize (w1.alloc (.cells #[.int .i64 d, .int .i64 1, .int .i64 x, .int .i64 y, .int .i64 W, .int .i64 H, .int .i64 0] 45 (0, 0))).drew = w2 at N1 N2 N3 N4 ⊢
   have hb0 := blk_lt HO.out
   have hbw : b < w1.heap.size := blk_lt HP.out
   have HP2 := Lib.hid ((N2 b hbw).trans HP.out)
   have HO2 := Lib.hid ((N2 h0 hb0).trans HO.out)
   have HR2 := Lib.hid (Kd.R_move (Kd.R_bound HR.out) (fun k hk => N2 k hk.2.2.1))
   have hcb : h0 + 1 ≤ w1.heap.size := hb0
   have hfb : w2.frozen? ⟨w1.heap.size, 1, none⟩ = false := blk_frozen N1 1
   have hcb6 : w2.cell? ⟨w1.heap.size, 1, none⟩ = some (.int .i64 1) := (blk_cell N1 1).trans rfl
   have hb4 : w2.cell? ⟨b, 4, none⟩ = some (.int .i64 kind) := (blk_cell HP2.out 4).trans rfl
   have C3 := Lib.hid (blk_put N1 1 (.int .i64 kind) rfl)
   have O3 := Lib.hid ((Below.heap_setCell w2 ⟨w1.heap.size, 1, none⟩ (.int .i64 kind) h0 (by show h0 ≠ w1.heap.size; omega)).trans HO2.out)
   have R3 := Lib.hid (Kd.R_far (p := ⟨w1.heap.size, 1, none⟩) (Kd.R_mono HR2.out (fun k hk => (show True ∧ k ≠ w1.heap.size from ⟨trivial, by have := hk.2.2.1; omega⟩))) (fun k hk => hk.2) (.int .i64 kind))
   have B3 := Lib.hid (((HB.out).trans (N4 base (by omega))).setCell (p := ⟨w1.heap.size, 1, none⟩) (by show base ≤ w1.heap.size; omega) (.int .i64 kind))
   have A3 := Lib.hid (fun (k : Nat) (hk : k < h0) => (HA.out k).trans (show Alike w1.heap[k]? (w2.setCell ⟨w1.heap.size, 1, none⟩ (.int .i64 kind)).heap[k]? by rw [Below.heap_setCell _ _ _ k (by show k ≠ w1.heap.size; omega), N2 k (by omega)]; exact .refl _))
   clear N1 N2 N3 N4 hb2 hb3 ha2 ha3 HP HA HB HO HR
   go_wp2
   generalize w2.setCell ⟨w1.heap.size, 1, none⟩ (.int .i64 kind) = w3 at C3 O3 R3 B3 A3 ⊢
   have hO0 : w3.cell? ⟨h0, 0, none⟩ = some vs := (blk_cell O3.out 0).trans rfl
   have hc0 : w3.cell? ⟨w1.heap.size, 0, none⟩ = some (.int .i64 d) := (blk_cell C3.out 0).trans rfl
   have hc1 : w3.cell? ⟨w1.heap.size, 1, none⟩ = some (.int .i64 kind) := (blk_cell C3.out 1).trans rfl
   have hc2 : w3.cell? ⟨w1.heap.size, 2, none⟩ = some (.int .i64 x) := (blk_cell C3.out 2).trans rfl
   have hc3 : w3.cell? ⟨w1.heap.size, 3, none⟩ = some (.int .i64 y) := (blk_cell C3.out 3).trans rfl
   have hc4 : w3.cell? ⟨w1.heap.size, 4, none⟩ = some (.int .i64 W) := (blk_cell C3.out 4).trans rfl
   have hc5 : w3.cell? ⟨w1.heap.size, 5, none⟩ = some (.int .i64 H) := (blk_cell C3.out 5).trans rfl
   have hc6 : w3.cell? ⟨w1.heap.size, 6, none⟩ = some (.int .i64 0) := (blk_cell C3.out 6).trans rfl
   clear hfb hcb6 hb4
   have L3 := Lib.hid (blk_lt C3.out)
   have hOa : ∀ o : Obj, (w3.alloc o).cell? ⟨h0, 0, none⟩ = some vs := fun o => (World.cell?_alloc_lt _ _ _ (blk_lt O3.out)).trans hO0
   go_cut [70] (fun sv wx => Aside0 (wx.heap[h0]? = some (.cells #[sv] 22 (0, 0))) ∧ Aside0 (Kd.R k45 45 wx (h0 + 1) (fun _ => True) sv (l ++ [⟨d, kind, x, y, W, H, 0⟩])) ∧ Aside0 (Below base w wx) ∧ Aside0 (∀ k, k < h0 → Alike w.heap[k]? wx.heap[k]?))
   case first =>
     go_region_law (refine Kd.R_append_step k45 (w0 := w3.drew) (W := w3.drew) (h0 + 1) (by kernel_rfl) (.tmp 67) (.tmp 69) 22 45 _ 56 rfl Tryd.underlying22 info45 rfl (by decide) (by decide) vs l ⟨d, kind, x, y, W, H, 0⟩ _ (fun _ => True) (fun _ => False) rfl rfl (k45_mkM _ _ _ _) (fun _ h => h.elim) (fun _ _ => trivial) (Kd.R_mono (Kd.R_move (w1 := w3.drew) R3.out (fun _ _ => rfl)) (fun _ _ => trivial)) (Below.refl _ _) (by have := L3.out; show h0 + 1 ≤ w3.heap.size; omega) (by have := HL.out; omega) ?_; intro v1 w5 r5 hb5 hg5 hat5; obtain ⟨Av, cv, rfl⟩ := Kd.R_slice r5; have O5 := Lib.hid ((hg5.block h0 (blk_lt O3.out) (fun e => by obtain ⟨inner, hown⟩ := Kd.R_own R3.out; exact absurd (own_base hown h0 e.symm) (by omega))).trans O3.out); have hO5 : w5.cell? ⟨h0, 0, none⟩ = some vs := (blk_cell O5.out 0).trans rfl; have hf5 : w5.frozen? ⟨h0, 0, none⟩ = false := blk_frozen O5.out 0; have R5 := Lib.hid r5; have B5 := Lib.hid hb5; clear r5 hb5 hg5 hat5)
     all_goals
       go_wp2_with fail
       go_meet
       refine ⟨⟨blk_put O5.out 0 _ rfl⟩, ⟨?_⟩, ⟨?_⟩, ⟨?_⟩⟩
       · have h5 := R5.out
         rw [List.length_append, List.length_singleton] at h5
         exact Kd.R_mono (Kd.R_far (p := ⟨h0, 0, none⟩) (Kd.R_mono (Kd.R_bound h5) (fun k hk => (show True ∧ k ≠ h0 from ⟨trivial, by have := hk.2.1; omega⟩))) (fun k hk => hk.2) _) (fun _ _ => trivial)
       · exact ((B3.out.drew).trans (B5.out.mono (by omega))).setCell (p := ⟨h0, 0, none⟩) hbase _
       · intro k hk
         rw [Below.heap_setCell _ _ _ k (by show k ≠ h0; omega), B5.out.block k (by omega)]
         exact A3.out k hk
   case rest =>
     obtain ⟨O5, R5, B5, A5⟩ := hcut
     clear hO0 hc0 hc1 hc2 hc3 hc4 hc5 hc6 L3 hOa C3 O3 R3 B3 A3 HP2 HO2 HR2 hcb hbw hb0
     obtain ⟨⟨x5, y5, S5⟩, _⟩ := split_again hTM.out hTP.out hbh (fun k hk => A5.out k hk)
     have hk5 : wc.cell? ⟨b, 5, none⟩ = some (.slice A kids.length c) := (blk_cell S5 5).trans rfl
     go_wp2
     go_loopg [2, 3, 77] kids.length (fun kq xv yv iv wr => ∃ (i : Nat) (xi yi : Int) (L : List S45) (us : Value), xv = .int .i64 xi ∧ yv = .int .i64 yi ∧ iv = .int .i64 (i : Int) ∧ Aside0 (i + kq = kids.length) ∧
       Aside0 (L ++ layL kind (kids.drop i) (wrap64 (d + 1)) xi yi = l ++ layT ⟨kind, W, H, id, kids⟩ d x y) ∧ Aside0 (L.length + cntL (kids.drop i) ≤ 1000000) ∧
       Aside0 (wr.heap[h0]? = some (.cells #[us] 22 (0, 0))) ∧ Aside0 (Kd.R k45 45 wr (h0 + 1) (fun _ => True) us L) ∧ Aside0 (Below base w wr) ∧ Aside0 (∀ k, k < h0 → Alike w.heap[k]? wr.heap[k]?))
     case atStart =>
       refine ⟨0, x, y, l ++ [⟨d, kind, x, y, W, H, 0⟩], _, rfl, rfl, rfl, ⟨by simp⟩, ⟨?_⟩, ⟨?_⟩, O5, R5, B5, A5⟩
       · rw [layT, if_neg k1]
         simp
       · have := HL.out
         rw [cntT] at this
         simp
         omega
     case round =>
       obtain ⟨i, xi, yi, L, us, rfl, rfl, rfl, RI, RL, RN, RO, RR, RB, RA⟩ := hrel
       cases gk with
       | zero =>
         have hi : i = kids.length := RI.out
         subst hi
         have hlt : ¬ (kids.length : Int) < (kids.length : Int) := by omega
         go_wp2
         refine bodyPost_ret (results_none rfl _ _ _) rfl ?_
         have h := RL.out
         rw [List.drop_length, layL, List.append_nil] at h
         rw [← h]
         exact ⟨rfl, RB.out, RA.out, us, RO.out, RR.out⟩
       | succ gk =>
         have hi : i < kids.length := by have := RI.out; omega
         have hlt : (i : Int) < (kids.length : Int) := by omega
         have hw1 := Lib.hid (show wrap64 ((i : Int) + 1) = ((i + 1 : Nat) : Int) by
           have := HL.out
           have := len_cntL kids
           rw [cntT] at *
           exact (IntWalk.wrap64_in _ (by omega)).trans (by omega))
         obtain ⟨S6, r6⟩ := split_again hTM.out hTP.out hbh (fun k hk => RA.out k hk)
         obtain ⟨g, tp, bk, rfl, hcell, hkM⟩ := kid_at r6 i hi
         have hdr : kids.drop i = kids[i] :: kids.drop (i + 1) := List.drop_eq_getElem_cons hi
         have KM := Lib.hid (kT.M_mono (ok' := fun k => k < h0) (fun k hk => hk.1) hkM)
         have hn0 : L.length + cntT kids[i] ≤ 1000000 := by have := RN.out; rw [hdr, cntL] at this; omega
         have HI := Lib.hid (IH.out kids[i] (List.getElem_mem hi) (wrap64 (d + 1)) xi yi L us _ wr KM.out RO.out RR.out hn0)
         have hdr := Lib.hid hdr
         clear S6 r6 hkM hn0
         go_wp2_with (go_at_call 69; refine (HI.out).mono ?_)
         rintro e w6 ⟨rfl, B6, A6, vs6, O6, R6⟩
         have A7 : ∀ k, k < h0 → Alike w.heap[k]? w6.heap[k]? := fun k hk => (RA.out k hk).trans (A6 k hk)
         obtain ⟨⟨x7, y7, S7⟩, _⟩ := split_again hTM.out hTP.out hbh A7
         obtain ⟨_, _, hw2, hh3, hmk⟩ := tree_cells (kT_alike KM.out A6)
         have hb4 : w6.cell? ⟨b, 4, none⟩ = some (.int .i64 kind) := (blk_cell S7 4).trans rfl
         have F6 := Lib.hid (And.intro B6 (And.intro A7 (And.intro O6 R6)))
         clear A6 B6 A7 O6 R6 S7
         have REL : ∀ xn yn : Int, xn = (if kind = 2 then wrap64 (xi + wrap64 (kids[i].w + 1)) else xi) → yn = (if kind = 2 then yi else wrap64 (yi + wrap64 (kids[i].h + 1))) →
             (L ++ layT kids[i] (wrap64 (d + 1)) xi yi) ++ layL kind (kids.drop (i + 1)) (wrap64 (d + 1)) xn yn = l ++ layT ⟨kind, W, H, id, kids⟩ d x y := by
           rintro xn yn rfl rfl
           have h := RL.out
           rw [hdr.out, layL] at h
           rw [List.append_assoc]
           exact h
         have REL := Lib.hid REL
         by_cases hk2 : kind = 2
         · have hk2' : (kind == 2) = true := beq_iff_eq.mpr hk2
           go_wp2
           go_roundg gk
           case measure => omega
           case rel =>
             refine ⟨i + 1, _, _, _, vs6, rfl, rfl, congrArg (Value.int .i64) hw1.out, ⟨by have := RI.out; omega⟩, ⟨REL.out _ _ (by rw [if_pos hk2]) (by rw [if_pos hk2])⟩, ⟨?_⟩, ⟨F6.out.2.2.1⟩, ⟨F6.out.2.2.2⟩, ⟨RB.out.trans F6.out.1⟩, ⟨F6.out.2.1⟩⟩
             have h1 := RN.out
             have h2 := layT_len kids[i] (wrap64 (d + 1)) xi yi
             rw [hdr.out, cntL] at h1
             rw [List.length_append]
             omega
         · have hk2' : (kind == 2) = false := beq_eq_false_iff_ne.mpr hk2
           go_wp2
           go_roundg gk
           case measure => omega
           case rel =>
             refine ⟨i + 1, _, _, _, vs6, rfl, rfl, congrArg (Value.int .i64) hw1.out, ⟨by have := RI.out; omega⟩, ⟨REL.out _ _ (by rw [if_neg hk2]) (by rw [if_neg hk2])⟩, ⟨?_⟩, ⟨F6.out.2.2.1⟩, ⟨F6.out.2.2.2⟩, ⟨RB.out.trans F6.out.1⟩, ⟨F6.out.2.1⟩⟩
             have h1 := RN.out
             have h2 := layT_len kids[i] (wrap64 (d + 1)) xi yi
             rw [hdr.out, cntL] at h1
             rw [List.length_append]
             omega
end Go.Proofs.YtmpnkckaohfflaaDoor.PGiv
end
section
namespace Go.Proofs.YtmpnkckaohfflaaDoor.E
open Go.Proofs.YtmpnkckaohfflaaDoor.K Go.RowKit Go.Proofs.YtmpnkckaohfflaaDoorW.PrintWords Go.Proofs.YtmpnkckaohfflaaDoorW.PrintLast Go.Proofs.YtmpnkckaohfflaaDoorW.PrintMore
attribute [local go_sem] max2_int min2_int max_two min_two max_three min_three max_four min_four
set_option linter.unusedVariables false
set_option linter.unusedSimpArgs false
attribute [local go_sem high] eqA45
def api_Cell.l0 : Nat → List (S45) → List (S45) → Int → Int → Option (Bool)
 | 0, _, _, _, _ => none
 | k + 1, x0, x1, x12, x13 => if x13 < x12 then (if 0 ≤ x13 then (if x13 < (x0.length : Int) then (if x13 < (x1.length : Int) then (if (!(((rd_T45 x0 x13).f0) == ((rd_T45 x1 x13).f0)) || (!(((rd_T45 x0 x13).f1) == ((rd_T45 x1 x13).f1)) || (!(((rd_T45 x0 x13).f2) == ((rd_T45 x1 x13).f2)) || (!(((rd_T45 x0 x13).f3) == ((rd_T45 x1 x13).f3)) || (!(((rd_T45 x0 x13).f4) == ((rd_T45 x1 x13).f4)) || (!(((rd_T45 x0 x13).f5) == ((rd_T45 x1 x13).f5)) || (!(((rd_T45 x0 x13).f6) == ((rd_T45 x1 x13).f6))))))))) = true then (some false) else (api_Cell.l0 k x0 x1 x12 (wrap64 (x13 + 1)))) else (none)) else (none)) else (none)) else (some true)
def api_Cell.f (k : Nat) (l0 : List (S45)) (l1 : List (S45)) : Option (Bool) := if (l0.length : Int) = (l1.length : Int) then (api_Cell.l0 k l0 l1 (l0.length : Int) 0) else (some false)
theorem api_Cell.mono_l : ∀ k, (∀ y0 y1 y2 y3, LeO (api_Cell.l0 k y0 y1 y2 y3) (api_Cell.l0 (k + 1) y0 y1 y2 y3))
 | 0 => fun _ _ _ _ r h => by simp [api_Cell.l0] at h
 | k + 1 => by
   have ih0 := api_Cell.mono_l k
   · intro y0 y1 y2 y3
     unfold api_Cell.l0
     repeat' first
     | (with_reducible exact ih0 _ _ _ _)
     | (with_reducible exact LeO.refl _)
     | (with_reducible exact LeO.none _)
     | (with_reducible refine LeO.ite ?_ ?_)
     | (with_reducible refine LeO.bind ?_ (fun _ => ?_))
     | exact ih0 _ _ _ _
     | exact LeO.none _
     | refine LeO.ite ?_ ?_
     | refine LeO.bind ?_ (fun _ => ?_)
theorem api_Cell.mono : ∀ a0 a1 k, LeO (api_Cell.f k a0 a1) (api_Cell.f (k + 1) a0 a1) := by
 intro a0 a1 k
 have ih0 := api_Cell.mono_l k
 unfold api_Cell.f
 repeat' first
     | (with_reducible exact ih0 _ _ _ _)
     | (with_reducible exact LeO.refl _)
     | (with_reducible exact LeO.none _)
     | (with_reducible refine LeO.ite ?_ ?_)
     | (with_reducible refine LeO.bind ?_ (fun _ => ?_))
     | exact ih0 _ _ _ _
     | exact LeO.none _
     | refine LeO.ite ?_ ?_
     | refine LeO.bind ?_ (fun _ => ?_)
set_option maxHeartbeats 8000000 in
set_option maxRecDepth 100000 in
theorem api_Cell.calls (k : Nat) (A0 : Option Addr) (c0 : Nat) (l0 : List (S45)) (A1 : Option Addr) (c1 : Nat) (l1 : List (S45)) (r : Bool) (w : World) (hr0 : Kd.C k45 w A0 l0.length l0) (hc0 : l0.length ≤ c0) (hr1 : Kd.C k45 w A1 l1.length l1) (hc1 : l1.length ≤ c1) (h : api_Cell.f k l0 l1 = some r) :
   Calls Tryd.prog 53 #[.slice A0 l0.length c0, .slice A1 l1.length c1] w fun e w' => e = .returned (.bool r) ∧ Drawn0 w w' := by
 have hu45 := Tryd.underlying45
 have HR0 := Aside0.mk hr0
 have HC0 := Aside0.mk hc0
 clear hr0 hc0
 have HR1 := Aside0.mk hr1
 have HC1 := Aside0.mk hc1
 clear hr1 hc1
 have H : (if (l0.length : Int) = (l1.length : Int) then (api_Cell.l0 k l0 l1 (l0.length : Int) 0) else (some false)) = some r := h
 clear h
 by_cases c3 : (l0.length : Int) = (l1.length : Int)
 · rw [if_pos c3] at H
   have c3b0 : ((l0.length : Int) == (l1.length : Int)) = true := beq_iff_eq.mpr c3
   have c3b1 : ((l0.length : Int) != (l1.length : Int)) = false := bne_eq_false_iff_eq.mpr c3
   have c3b2 : (l0.length == l1.length) = true := by first | simpa using c3 | (simp at c3 ⊢; omega)
   clear c3
   have H' := Aside0.mk H
   clear H
   go_enter Tryd.func53, Tryd.ntmps53
   go_wp2
   repeat (go_quiet (fail); try go_wp2)
   go_loopg [13] k (fun kq v13 w' => ∃ (x13_1 : Int), v13 = .int .i64 x13_1 ∧ Aside0 (api_Cell.l0 kq l0 l1 (l0.length : Int) x13_1 = some r) ∧ Aside0 (kq ≤ k) ∧ Drawn0 w w')
   case atStart => exact ⟨(0), (by first | rfl | (simp; done) | (simp [*]; done)), H', ⟨Nat.le_refl _⟩, by repeat (first | exact Drawn0.refl _ | apply Drawn0.step)⟩
   case round =>
     clear H'
     try clear c1
     try clear p2
     try clear c3
     try clear c3b0
     try clear c3b1
     try clear c3b2
     obtain ⟨x13_1, rfl, HA, HK1, ⟨m1, rfl⟩⟩ := hrel
     cases gk with
     | zero => exact absurd HA.out (by simp [api_Cell.l0])
     | succ k1 =>
       have H := HA.out
       clear HA
       simp only [api_Cell.l0] at H
       by_cases c4 : x13_1 < (l0.length : Int)
       · rw [if_pos c4] at H
         have c4b0 : decide (x13_1 < (l0.length : Int)) = true := decide_eq_true c4
         clear c4
         by_cases c5 : 0 ≤ x13_1
         · rw [if_pos c5] at H
           have c5b0 : decide (0 ≤ x13_1) = true := decide_eq_true c5
           clear c5
           by_cases c6 : x13_1 < (l0.length : Int)
           · rw [if_pos c6] at H
             have c6b0 : decide (x13_1 < (l0.length : Int)) = true := decide_eq_true c6
             clear c6
             by_cases c7 : x13_1 < (l1.length : Int)
             · rw [if_pos c7] at H
               have c7b0 : decide (x13_1 < (l1.length : Int)) = true := decide_eq_true c7
               clear c7
               by_cases c8 : (!(((rd_T45 l0 x13_1).f0) == ((rd_T45 l1 x13_1).f0)) || (!(((rd_T45 l0 x13_1).f1) == ((rd_T45 l1 x13_1).f1)) || (!(((rd_T45 l0 x13_1).f2) == ((rd_T45 l1 x13_1).f2)) || (!(((rd_T45 l0 x13_1).f3) == ((rd_T45 l1 x13_1).f3)) || (!(((rd_T45 l0 x13_1).f4) == ((rd_T45 l1 x13_1).f4)) || (!(((rd_T45 l0 x13_1).f5) == ((rd_T45 l1 x13_1).f5)) || (!(((rd_T45 l0 x13_1).f6) == ((rd_T45 l1 x13_1).f6))))))))) = true
               · rw [if_pos c8] at H
                 have c8b0 : (!(((rd_T45 l0 x13_1).f0) == ((rd_T45 l1 x13_1).f0)) || (!(((rd_T45 l0 x13_1).f1) == ((rd_T45 l1 x13_1).f1)) || (!(((rd_T45 l0 x13_1).f2) == ((rd_T45 l1 x13_1).f2)) || (!(((rd_T45 l0 x13_1).f3) == ((rd_T45 l1 x13_1).f3)) || (!(((rd_T45 l0 x13_1).f4) == ((rd_T45 l1 x13_1).f4)) || (!(((rd_T45 l0 x13_1).f5) == ((rd_T45 l1 x13_1).f5)) || (!(((rd_T45 l0 x13_1).f6) == ((rd_T45 l1 x13_1).f6))))))))) = true := c8
                 clear c8
                 obtain rfl := Option.some.inj H
                 have p101 : 0 ≤ (x13_1 : Int) := of_decide_eq_true (by first | (with_reducible assumption) | assumption)
                 have q101 : x13_1 < (l0.length : Int) := of_decide_eq_true (by first | (with_reducible assumption) | assumption)
                 obtain ⟨ad101, e101, hx101_0, hx101_1, hx101_2, hx101_3, hx101_4, hx101_5, hx101_6⟩ := at_T45 HR0.out x13_1 p101 q101
                 cases e101
                 replace p101 := eq_true p101
                 replace q101 := eq_true q101
                 have p102 : 0 ≤ (x13_1 : Int) := of_decide_eq_true (by first | (with_reducible assumption) | assumption)
                 have q102 : x13_1 < (l1.length : Int) := of_decide_eq_true (by first | (with_reducible assumption) | assumption)
                 obtain ⟨ad102, e102, hx102_0, hx102_1, hx102_2, hx102_3, hx102_4, hx102_5, hx102_6⟩ := at_T45 HR1.out x13_1 p102 q102
                 cases e102
                 replace p102 := eq_true p102
                 replace q102 := eq_true q102
                 go_wp2
                 repeat (go_quiet (fail); try go_wp2)
                 go_ret
                 exact ⟨by first | rfl | (simp; done) | (simp [*]; done), by repeat (first | exact Drawn0.refl _ | apply Drawn0.step)⟩
               · rw [if_neg c8] at H
                 have c8b0 : (!(((rd_T45 l0 x13_1).f0) == ((rd_T45 l1 x13_1).f0)) || (!(((rd_T45 l0 x13_1).f1) == ((rd_T45 l1 x13_1).f1)) || (!(((rd_T45 l0 x13_1).f2) == ((rd_T45 l1 x13_1).f2)) || (!(((rd_T45 l0 x13_1).f3) == ((rd_T45 l1 x13_1).f3)) || (!(((rd_T45 l0 x13_1).f4) == ((rd_T45 l1 x13_1).f4)) || (!(((rd_T45 l0 x13_1).f5) == ((rd_T45 l1 x13_1).f5)) || (!(((rd_T45 l0 x13_1).f6) == ((rd_T45 l1 x13_1).f6))))))))) = false := by simpa using c8
                 clear c8
                 have H' := Aside0.mk H
                 clear H
                 have p101 : 0 ≤ (x13_1 : Int) := of_decide_eq_true (by first | (with_reducible assumption) | assumption)
                 have q101 : x13_1 < (l0.length : Int) := of_decide_eq_true (by first | (with_reducible assumption) | assumption)
                 obtain ⟨ad101, e101, hx101_0, hx101_1, hx101_2, hx101_3, hx101_4, hx101_5, hx101_6⟩ := at_T45 HR0.out x13_1 p101 q101
                 cases e101
                 replace p101 := eq_true p101
                 replace q101 := eq_true q101
                 have p102 : 0 ≤ (x13_1 : Int) := of_decide_eq_true (by first | (with_reducible assumption) | assumption)
                 have q102 : x13_1 < (l1.length : Int) := of_decide_eq_true (by first | (with_reducible assumption) | assumption)
                 obtain ⟨ad102, e102, hx102_0, hx102_1, hx102_2, hx102_3, hx102_4, hx102_5, hx102_6⟩ := at_T45 HR1.out x13_1 p102 q102
                 cases e102
                 replace p102 := eq_true p102
                 replace q102 := eq_true q102
                 go_wp2
                 repeat (go_quiet (fail); try go_wp2)
                 go_roundg k1
                 case measure => have := HK1.out; omega
                 case rel => exact ⟨(wrap64 (x13_1 + 1)), (by first | rfl | (simp; done) | (simp [*]; done)), H', ⟨by have := HK1.out; omega⟩, by repeat (first | exact Drawn0.refl _ | apply Drawn0.step)⟩
             · rw [if_neg c7] at H
               exact absurd H (by simp)
           · rw [if_neg c6] at H
             exact absurd H (by simp)
         · rw [if_neg c5] at H
           exact absurd H (by simp)
       · rw [if_neg c4] at H
         have c4b0 : decide (x13_1 < (l0.length : Int)) = false := decide_eq_false c4
         clear c4
         obtain rfl := Option.some.inj H
         go_wp2
         repeat (go_quiet (fail); try go_wp2)
         go_ret
         exact ⟨by first | rfl | (simp; done) | (simp [*]; done), by repeat (first | exact Drawn0.refl _ | apply Drawn0.step)⟩
 · rw [if_neg c3] at H
   have c3b0 : ((l0.length : Int) == (l1.length : Int)) = false := beq_eq_false_iff_ne.mpr c3
   have c3b1 : ((l0.length : Int) != (l1.length : Int)) = true := bne_iff_ne.mpr c3
   have c3b2 : (l0.length == l1.length) = false := by first | simpa using c3 | (simp at c3 ⊢; omega)
   obtain rfl := Option.some.inj H
   go_enter Tryd.func53, Tryd.ntmps53
   go_wp2
   repeat (go_quiet (fail); try go_wp2)
   go_ret
   exact ⟨by first | rfl | (simp; done) | (simp [*]; done), by repeat (first | exact Drawn0.refl _ | apply Drawn0.step)⟩
def layout_side.f (a0 : Int) : Option (Bool) := if a0 ≥ 1 then (some (decide (a0 ≤ 1000))) else (some false)
set_option maxHeartbeats 8000000 in
set_option maxRecDepth 100000 in
theorem layout_side.calls (a0 : Int) (r : Bool) (w : World) (h : layout_side.f a0 = some r) :
   Calls Tryd.prog 49 #[.int .i64 a0] w fun e w' => e = .returned (.bool r) ∧ Drawn0 w w' := by
 have H : (if a0 ≥ 1 then (some (decide (a0 ≤ 1000))) else (some false)) = some r := h
 clear h
 by_cases c2 : a0 ≥ 1
 · rw [if_pos c2] at H
   have c2b0 : decide (1 ≤ a0) = true := decide_eq_true c2
   clear c2
   obtain rfl := Option.some.inj H
   go_enter Tryd.func49, Tryd.ntmps49
   go_wp2
   go_ret
   exact ⟨by first | rfl | (simp; done) | (simp [*]; done), by repeat (first | exact Drawn0.refl _ | apply Drawn0.step)⟩
 · rw [if_neg c2] at H
   have c2b0 : decide (1 ≤ a0) = false := decide_eq_false c2
   clear c2
   obtain rfl := Option.some.inj H
   go_enter Tryd.func49, Tryd.ntmps49
   go_wp2
   go_ret
   exact ⟨by first | rfl | (simp; done) | (simp [*]; done), by repeat (first | exact Drawn0.refl _ | apply Drawn0.step)⟩
def layout_id.f (a0 : Int) : Option (Bool) := if a0 ≥ 1 then (some (decide (a0 ≤ 4611686018427387904))) else (some false)
set_option maxHeartbeats 8000000 in
set_option maxRecDepth 100000 in
theorem layout_id.calls (a0 : Int) (r : Bool) (w : World) (h : layout_id.f a0 = some r) :
   Calls Tryd.prog 50 #[.int .i64 a0] w fun e w' => e = .returned (.bool r) ∧ Drawn0 w w' := by
 have H : (if a0 ≥ 1 then (some (decide (a0 ≤ 4611686018427387904))) else (some false)) = some r := h
 clear h
 by_cases c2 : a0 ≥ 1
 · rw [if_pos c2] at H
   have c2b0 : decide (1 ≤ a0) = true := decide_eq_true c2
   clear c2
   obtain rfl := Option.some.inj H
   go_enter Tryd.func50, Tryd.ntmps50
   go_wp2
   go_ret
   exact ⟨by first | rfl | (simp; done) | (simp [*]; done), by repeat (first | exact Drawn0.refl _ | apply Drawn0.step)⟩
 · rw [if_neg c2] at H
   have c2b0 : decide (1 ≤ a0) = false := decide_eq_false c2
   clear c2
   obtain rfl := Option.some.inj H
   go_enter Tryd.func50, Tryd.ntmps50
   go_wp2
   go_ret
   exact ⟨by first | rfl | (simp; done) | (simp [*]; done), by repeat (first | exact Drawn0.refl _ | apply Drawn0.step)⟩
def layout_kindOf.f (a0 : Int) : Option (Bool) := if a0 = 2 then (some true) else (some (a0 == 3))
set_option maxHeartbeats 8000000 in
set_option maxRecDepth 100000 in
theorem layout_kindOf.calls (a0 : Int) (r : Bool) (w : World) (h : layout_kindOf.f a0 = some r) :
   Calls Tryd.prog 51 #[.int .i64 a0] w fun e w' => e = .returned (.bool r) ∧ Drawn0 w w' := by
 have H : (if a0 = 2 then (some true) else (some (a0 == 3))) = some r := h
 clear h
 by_cases c2 : a0 = 2
 · rw [if_pos c2] at H
   have c2b0 : (a0 == 2) = true := beq_iff_eq.mpr c2
   have c2b1 : (a0 != 2) = false := bne_eq_false_iff_eq.mpr c2
   clear c2
   obtain rfl := Option.some.inj H
   go_enter Tryd.func51, Tryd.ntmps51
   go_wp2
   go_ret
   exact ⟨by first | rfl | (simp; done) | (simp [*]; done), by repeat (first | exact Drawn0.refl _ | apply Drawn0.step)⟩
 · rw [if_neg c2] at H
   have c2b0 : (a0 == 2) = false := beq_eq_false_iff_ne.mpr c2
   have c2b1 : (a0 != 2) = true := bne_iff_ne.mpr c2
   obtain rfl := Option.some.inj H
   go_enter Tryd.func51, Tryd.ntmps51
   go_wp2
   go_ret
   exact ⟨by first | rfl | (simp; done) | (simp [*]; done), by repeat (first | exact Drawn0.refl _ | apply Drawn0.step)⟩
def plan_four.f (a0 : Int) : Option (ByteArray) := if 0 ≤ (Go.bits .and .i64 (a0 / 4096) 15) then (if (Go.bits .and .i64 (a0 / 4096) 15) < 16 then (if 0 ≤ (Go.bits .and .i64 (a0 / 256) 15) then (if (Go.bits .and .i64 (a0 / 256) 15) < 16 then (if 0 ≤ (Go.bits .and .i64 (a0 / 16) 15) then (if (Go.bits .and .i64 (a0 / 16) 15) < 16 then (if 0 ≤ (Go.bits .and .i64 a0 15) then (if (Go.bits .and .i64 a0 15) < 16 then (some (strOfNums (([bt (⟨#[48, 49, 50, 51, 52, 53, 54, 55, 56, 57, 97, 98, 99, 100, 101, 102]⟩ : ByteArray) (Go.bits .and .i64 (a0 / 4096) 15), bt (⟨#[48, 49, 50, 51, 52, 53, 54, 55, 56, 57, 97, 98, 99, 100, 101, 102]⟩ : ByteArray) (Go.bits .and .i64 (a0 / 256) 15), bt (⟨#[48, 49, 50, 51, 52, 53, 54, 55, 56, 57, 97, 98, 99, 100, 101, 102]⟩ : ByteArray) (Go.bits .and .i64 (a0 / 16) 15), bt (⟨#[48, 49, 50, 51, 52, 53, 54, 55, 56, 57, 97, 98, 99, 100, 101, 102]⟩ : ByteArray) (Go.bits .and .i64 a0 15)] : List Int)))) else (none)) else (none)) else (none)) else (none)) else (none)) else (none)) else (none)) else (none)
def plan_four.T1 : Bool × List (List Nat × List Nat) := (true, [([], []), ([0], [0]), ([1], [1]), ([2], [2]), ([], []), ([4], [4]), ([5], [5]), ([6], [6]), ([], []), ([8], [8]), ([9], [9]), ([10], [10]), ([], []), ([12], [12]), ([13], [13]), ([3, 7, 11, 14], [3, 7, 11, 14]), ([15], [15]), ([16, 0, 1, 2, 3, 4, 5, 6, 7, 8, 9, 10, 11, 12, 13, 14, 15, 16], [16])])
def plan_four.B1 : List Nat := [0, 1, 3, 7, 0, 16, 48, 112, 0, 256, 768, 1792, 0, 4096, 12288, 32767, 65535, 131071]
theorem plan_four.tab1 : rtab .any (opsOf Tryd.f24 1) = plan_four.T1 := by kernel_rfl
theorem plan_four.bits1 : waitsOk plan_four.T1.2 plan_four.B1 = true := by kernel_rfl
set_option maxHeartbeats 8000000 in
set_option maxRecDepth 100000 in
theorem plan_four.calls (a0 : Int) (r : ByteArray) (w : World) (h : plan_four.f a0 = some r) :
   Calls Tryd.prog 24 #[.int .i64 a0] w fun e w' => e = .returned (.string r) ∧ Below w.heap.size w w' := by
 have HB := Aside0.mk (Below.refl w.heap.size w)
 have H : (if 0 ≤ (Go.bits .and .i64 (a0 / 4096) 15) then (if (Go.bits .and .i64 (a0 / 4096) 15) < 16 then (if 0 ≤ (Go.bits .and .i64 (a0 / 256) 15) then (if (Go.bits .and .i64 (a0 / 256) 15) < 16 then (if 0 ≤ (Go.bits .and .i64 (a0 / 16) 15) then (if (Go.bits .and .i64 (a0 / 16) 15) < 16 then (if 0 ≤ (Go.bits .and .i64 a0 15) then (if (Go.bits .and .i64 a0 15) < 16 then (some (strOfNums (([bt (⟨#[48, 49, 50, 51, 52, 53, 54, 55, 56, 57, 97, 98, 99, 100, 101, 102]⟩ : ByteArray) (Go.bits .and .i64 (a0 / 4096) 15), bt (⟨#[48, 49, 50, 51, 52, 53, 54, 55, 56, 57, 97, 98, 99, 100, 101, 102]⟩ : ByteArray) (Go.bits .and .i64 (a0 / 256) 15), bt (⟨#[48, 49, 50, 51, 52, 53, 54, 55, 56, 57, 97, 98, 99, 100, 101, 102]⟩ : ByteArray) (Go.bits .and .i64 (a0 / 16) 15), bt (⟨#[48, 49, 50, 51, 52, 53, 54, 55, 56, 57, 97, 98, 99, 100, 101, 102]⟩ : ByteArray) (Go.bits .and .i64 a0 15)] : List Int)))) else (none)) else (none)) else (none)) else (none)) else (none)) else (none)) else (none)) else (none)) = some r := h
 clear h
 obtain ⟨ji2, hji2⟩ : ∃ j_ : Int, (Go.bits .and .i64 (a0 / 4096) 15) = j_ := ⟨_, rfl⟩
 replace H : (if 0 ≤ (ji2) then (if (ji2) < 16 then (if 0 ≤ (Go.bits .and .i64 (a0 / 256) 15) then (if (Go.bits .and .i64 (a0 / 256) 15) < 16 then (if 0 ≤ (Go.bits .and .i64 (a0 / 16) 15) then (if (Go.bits .and .i64 (a0 / 16) 15) < 16 then (if 0 ≤ (Go.bits .and .i64 a0 15) then (if (Go.bits .and .i64 a0 15) < 16 then (some (strOfNums (([bt (⟨#[48, 49, 50, 51, 52, 53, 54, 55, 56, 57, 97, 98, 99, 100, 101, 102]⟩ : ByteArray) (ji2), bt (⟨#[48, 49, 50, 51, 52, 53, 54, 55, 56, 57, 97, 98, 99, 100, 101, 102]⟩ : ByteArray) (Go.bits .and .i64 (a0 / 256) 15), bt (⟨#[48, 49, 50, 51, 52, 53, 54, 55, 56, 57, 97, 98, 99, 100, 101, 102]⟩ : ByteArray) (Go.bits .and .i64 (a0 / 16) 15), bt (⟨#[48, 49, 50, 51, 52, 53, 54, 55, 56, 57, 97, 98, 99, 100, 101, 102]⟩ : ByteArray) (Go.bits .and .i64 a0 15)] : List Int)))) else (none)) else (none)) else (none)) else (none)) else (none)) else (none)) else (none)) else (none)) = some r := by first | (rw [hji2] at H; exact H) | (simp only [hji2] at H ⊢; exact H)
 by_cases c3 : 0 ≤ (ji2)
 · rw [if_pos c3] at H
   have c3b0 : decide (0 ≤ (ji2)) = true := decide_eq_true c3
   clear c3
   by_cases c4 : (ji2) < 16
   · rw [if_pos c4] at H
     have c4b0 : decide ((ji2) < 16) = true := decide_eq_true c4
     clear c4
     obtain ⟨ji6, hji6⟩ : ∃ j_ : Int, (Go.bits .and .i64 (a0 / 256) 15) = j_ := ⟨_, rfl⟩
     replace H : (if 0 ≤ (ji6) then (if (ji6) < 16 then (if 0 ≤ (Go.bits .and .i64 (a0 / 16) 15) then (if (Go.bits .and .i64 (a0 / 16) 15) < 16 then (if 0 ≤ (Go.bits .and .i64 a0 15) then (if (Go.bits .and .i64 a0 15) < 16 then (some (strOfNums (([bt (⟨#[48, 49, 50, 51, 52, 53, 54, 55, 56, 57, 97, 98, 99, 100, 101, 102]⟩ : ByteArray) (ji2), bt (⟨#[48, 49, 50, 51, 52, 53, 54, 55, 56, 57, 97, 98, 99, 100, 101, 102]⟩ : ByteArray) (ji6), bt (⟨#[48, 49, 50, 51, 52, 53, 54, 55, 56, 57, 97, 98, 99, 100, 101, 102]⟩ : ByteArray) (Go.bits .and .i64 (a0 / 16) 15), bt (⟨#[48, 49, 50, 51, 52, 53, 54, 55, 56, 57, 97, 98, 99, 100, 101, 102]⟩ : ByteArray) (Go.bits .and .i64 a0 15)] : List Int)))) else (none)) else (none)) else (none)) else (none)) else (none)) else (none)) = some r := by first | (rw [hji6] at H; exact H) | (simp only [hji6] at H ⊢; exact H)
     by_cases c7 : 0 ≤ (ji6)
     · rw [if_pos c7] at H
       have c7b0 : decide (0 ≤ (ji6)) = true := decide_eq_true c7
       clear c7
       by_cases c8 : (ji6) < 16
       · rw [if_pos c8] at H
         have c8b0 : decide ((ji6) < 16) = true := decide_eq_true c8
         clear c8
         obtain ⟨ji10, hji10⟩ : ∃ j_ : Int, (Go.bits .and .i64 (a0 / 16) 15) = j_ := ⟨_, rfl⟩
         replace H : (if 0 ≤ (ji10) then (if (ji10) < 16 then (if 0 ≤ (Go.bits .and .i64 a0 15) then (if (Go.bits .and .i64 a0 15) < 16 then (some (strOfNums (([bt (⟨#[48, 49, 50, 51, 52, 53, 54, 55, 56, 57, 97, 98, 99, 100, 101, 102]⟩ : ByteArray) (ji2), bt (⟨#[48, 49, 50, 51, 52, 53, 54, 55, 56, 57, 97, 98, 99, 100, 101, 102]⟩ : ByteArray) (ji6), bt (⟨#[48, 49, 50, 51, 52, 53, 54, 55, 56, 57, 97, 98, 99, 100, 101, 102]⟩ : ByteArray) (ji10), bt (⟨#[48, 49, 50, 51, 52, 53, 54, 55, 56, 57, 97, 98, 99, 100, 101, 102]⟩ : ByteArray) (Go.bits .and .i64 a0 15)] : List Int)))) else (none)) else (none)) else (none)) else (none)) = some r := by first | (rw [hji10] at H; exact H) | (simp only [hji10] at H ⊢; exact H)
         by_cases c11 : 0 ≤ (ji10)
         · rw [if_pos c11] at H
           have c11b0 : decide (0 ≤ (ji10)) = true := decide_eq_true c11
           clear c11
           by_cases c12 : (ji10) < 16
           · rw [if_pos c12] at H
             have c12b0 : decide ((ji10) < 16) = true := decide_eq_true c12
             clear c12
             by_cases c14 : 0 ≤ (Go.bits .and .i64 a0 15)
             · rw [if_pos c14] at H
               have c14b0 : decide (0 ≤ (Go.bits .and .i64 a0 15)) = true := decide_eq_true c14
               clear c14
               by_cases c15 : (Go.bits .and .i64 a0 15) < 16
               · rw [if_pos c15] at H
                 have c15b0 : decide ((Go.bits .and .i64 a0 15) < 16) = true := decide_eq_true c15
                 clear c15
                 obtain ⟨y103, hy103⟩ : ∃ y_ : List Int, y_ = (([bt (⟨#[48, 49, 50, 51, 52, 53, 54, 55, 56, 57, 97, 98, 99, 100, 101, 102]⟩ : ByteArray) (ji2), bt (⟨#[48, 49, 50, 51, 52, 53, 54, 55, 56, 57, 97, 98, 99, 100, 101, 102]⟩ : ByteArray) (ji6), bt (⟨#[48, 49, 50, 51, 52, 53, 54, 55, 56, 57, 97, 98, 99, 100, 101, 102]⟩ : ByteArray) (ji10), bt (⟨#[48, 49, 50, 51, 52, 53, 54, 55, 56, 57, 97, 98, 99, 100, 101, 102]⟩ : ByteArray) (Go.bits .and .i64 a0 15)] : List Int)) := ⟨_, rfl⟩
                 replace H : (some (strOfNums y103)) = some r := by first | (rw [hy103]; with_reducible exact H) | (have H2_ := (Option.bind_some _ _).symm.trans H; rw [hy103]; with_reducible exact H2_) | (have H2_ := (Option.bind_some _ _).symm.trans H; with_reducible exact H2_) | with_reducible exact H | (rw [hy103]; exact H) | exact H
                 have Ny103 := Aside0.mk hy103
                 clear hy103
                 obtain rfl := Option.some.inj H
                 go_enter Tryd.func24, Tryd.ntmps24
                 try go_wp2
                 have n0_ := Aside0.mk (below_drew1 HB.out)
                 clear HB
                 have HB := n0_
                 clear n0_
                 have p5 : 0 ≤ ((ji2) : Int) := of_decide_eq_true (by first | (with_reducible assumption) | assumption)
                 have q5 : (ji2) < (16 : Int) := of_decide_eq_true (by first | (with_reducible assumption) | assumption)
                 have hx5 := bt_at (⟨#[48, 49, 50, 51, 52, 53, 54, 55, 56, 57, 97, 98, 99, 100, 101, 102]⟩ : ByteArray) (ji2)
                 replace p5 := eq_true p5
                 replace q5 := eq_true q5
                 have p9 : 0 ≤ ((ji6) : Int) := of_decide_eq_true (by first | (with_reducible assumption) | assumption)
                 have q9 : (ji6) < (16 : Int) := of_decide_eq_true (by first | (with_reducible assumption) | assumption)
                 have hx9 := bt_at (⟨#[48, 49, 50, 51, 52, 53, 54, 55, 56, 57, 97, 98, 99, 100, 101, 102]⟩ : ByteArray) (ji6)
                 replace p9 := eq_true p9
                 replace q9 := eq_true q9
                 have p13 : 0 ≤ ((ji10) : Int) := of_decide_eq_true (by first | (with_reducible assumption) | assumption)
                 have q13 : (ji10) < (16 : Int) := of_decide_eq_true (by first | (with_reducible assumption) | assumption)
                 have hx13 := bt_at (⟨#[48, 49, 50, 51, 52, 53, 54, 55, 56, 57, 97, 98, 99, 100, 101, 102]⟩ : ByteArray) (ji10)
                 replace p13 := eq_true p13
                 replace q13 := eq_true q13
                 have p16 : 0 ≤ ((Go.bits .and .i64 a0 15) : Int) := of_decide_eq_true (by first | (with_reducible assumption) | assumption)
                 have q16 : (Go.bits .and .i64 a0 15) < (16 : Int) := of_decide_eq_true (by first | (with_reducible assumption) | assumption)
                 have hx16 := bt_at (⟨#[48, 49, 50, 51, 52, 53, 54, 55, 56, 57, 97, 98, 99, 100, 101, 102]⟩ : ByteArray) (Go.bits .and .i64 a0 15)
                 replace p16 := eq_true p16
                 replace q16 := eq_true q16
                 refine start_ (n := 18) (S := fun w' => True) (ds := []) #[false, false, false, false, false, false, false, false, false, false, false, false, false, false, false, false, false, false] (by kernel_rfl) rfl rfl trivial (fun hHeld => ?_); refine with_tabW plan_four.tab1 plan_four.bits1 (fun HT_ HW_ => ?_)
                 generalize w.drew = w17 at HB hHeld ⊢
                 refine pure_ (i := 0) (N := some 3) (v := ?_) (a' := ?_) #[true, false, false, false, false, false, false, false, false, false, false, false, false, false, false, false, false, false] rfl rfl (any_of HT_.out (by kernel_rfl)) (fun _ _ _ h => h) (Or.inl ⟨by rfl, ?_⟩) ?_ ?_
                 rotate_left
                 · intro w'
                   go_simp
                   with_reducible rfl
                 rotate_left
                 · simp only [Act.put, List.setIfInBounds_toArray, List.set_cons_zero, List.set_cons_succ, i64_w, i32_w]
                   rfl
                 refine pure_ (i := 1) (N := some 4) (v := ?_) (a' := ?_) #[true, true, false, false, false, false, false, false, false, false, false, false, false, false, false, false, false, false] rfl rfl (any_of HT_.out (by kernel_rfl)) (fun _ _ _ h => h) (Or.inl ⟨by rfl, ?_⟩) ?_ ?_
                 rotate_left
                 · intro w'
                   go_simp
                   with_reducible rfl
                 rotate_left
                 · simp only [Act.put, List.setIfInBounds_toArray, List.set_cons_zero, List.set_cons_succ, i64_w, i32_w]
                   rfl
                 refine pure_ (i := 2) (N := some 5) (v := ?_) (a' := ?_) #[true, true, true, false, false, false, false, false, false, false, false, false, false, false, false, false, false, false] rfl rfl (any_of HT_.out (by kernel_rfl)) (fun _ _ _ h => h) (Or.inl ⟨by rfl, ?_⟩) ?_ ?_
                 rotate_left
                 · intro w'
                   go_simp
                   with_reducible rfl
                 rotate_left
                 · simp only [Act.put, List.setIfInBounds_toArray, List.set_cons_zero, List.set_cons_succ, i64_w, i32_w]
                   rfl
                 refine pure_ (i := 4) (N := some 7) (v := ?_) (a' := ?_) #[true, true, true, false, true, false, false, false, false, false, false, false, false, false, false, false, false, false] rfl rfl (any_of HT_.out (by kernel_rfl)) (fun _ _ _ h => h) (Or.inl ⟨by rfl, ?_⟩) ?_ ?_
                 rotate_left
                 · intro w'
                   go_simp
                   with_reducible rfl
                 rotate_left
                 · simp only [Act.put, List.setIfInBounds_toArray, List.set_cons_zero, List.set_cons_succ, i64_w, i32_w]
                   rfl
                 refine pure_ (i := 5) (N := some 8) (v := ?_) (a' := ?_) #[true, true, true, false, true, true, false, false, false, false, false, false, false, false, false, false, false, false] rfl rfl (any_of HT_.out (by kernel_rfl)) (fun _ _ _ h => h) (Or.inl ⟨by rfl, ?_⟩) ?_ ?_
                 rotate_left
                 · intro w'
                   go_simp
                   with_reducible rfl
                 rotate_left
                 · simp only [Act.put, List.setIfInBounds_toArray, List.set_cons_zero, List.set_cons_succ, i64_w, i32_w]
                   rfl
                 refine pure_ (i := 6) (N := some 9) (v := ?_) (a' := ?_) #[true, true, true, false, true, true, true, false, false, false, false, false, false, false, false, false, false, false] rfl rfl (any_of HT_.out (by kernel_rfl)) (fun _ _ _ h => h) (Or.inl ⟨by rfl, ?_⟩) ?_ ?_
                 rotate_left
                 · intro w'
                   go_simp
                   with_reducible rfl
                 rotate_left
                 · simp only [Act.put, List.setIfInBounds_toArray, List.set_cons_zero, List.set_cons_succ, i64_w, i32_w]
                   rfl
                 refine pure_ (i := 8) (N := some 11) (v := ?_) (a' := ?_) #[true, true, true, false, true, true, true, false, true, false, false, false, false, false, false, false, false, false] rfl rfl (any_of HT_.out (by kernel_rfl)) (fun _ _ _ h => h) (Or.inl ⟨by rfl, ?_⟩) ?_ ?_
                 rotate_left
                 · intro w'
                   go_simp
                   with_reducible rfl
                 rotate_left
                 · simp only [Act.put, List.setIfInBounds_toArray, List.set_cons_zero, List.set_cons_succ, i64_w, i32_w]
                   rfl
                 refine pure_ (i := 9) (N := some 12) (v := ?_) (a' := ?_) #[true, true, true, false, true, true, true, false, true, true, false, false, false, false, false, false, false, false] rfl rfl (any_of HT_.out (by kernel_rfl)) (fun _ _ _ h => h) (Or.inl ⟨by rfl, ?_⟩) ?_ ?_
                 rotate_left
                 · intro w'
                   go_simp
                   with_reducible rfl
                 rotate_left
                 · simp only [Act.put, List.setIfInBounds_toArray, List.set_cons_zero, List.set_cons_succ, i64_w, i32_w]
                   rfl
                 refine pure_ (i := 10) (N := some 13) (v := ?_) (a' := ?_) #[true, true, true, false, true, true, true, false, true, true, true, false, false, false, false, false, false, false] rfl rfl (any_of HT_.out (by kernel_rfl)) (fun _ _ _ h => h) (Or.inl ⟨by rfl, ?_⟩) ?_ ?_
                 rotate_left
                 · intro w'
                   go_simp
                   with_reducible rfl
                 rotate_left
                 · simp only [Act.put, List.setIfInBounds_toArray, List.set_cons_zero, List.set_cons_succ, i64_w, i32_w]
                   rfl
                 refine pure_ (i := 12) (N := some 15) (v := ?_) (a' := ?_) #[true, true, true, false, true, true, true, false, true, true, true, false, true, false, false, false, false, false] rfl rfl (any_of HT_.out (by kernel_rfl)) (fun _ _ _ h => h) (Or.inl ⟨by rfl, ?_⟩) ?_ ?_
                 rotate_left
                 · intro w'
                   go_simp
                   with_reducible rfl
                 rotate_left
                 · simp only [Act.put, List.setIfInBounds_toArray, List.set_cons_zero, List.set_cons_succ, i64_w, i32_w]
                   rfl
                 refine pure_ (i := 13) (N := some 16) (v := ?_) (a' := ?_) #[true, true, true, false, true, true, true, false, true, true, true, false, true, true, false, false, false, false] rfl rfl (any_of HT_.out (by kernel_rfl)) (fun _ _ _ h => h) (Or.inl ⟨by rfl, ?_⟩) ?_ ?_
                 rotate_left
                 · intro w'
                   go_simp
                   with_reducible rfl
                 rotate_left
                 · simp only [Act.put, List.setIfInBounds_toArray, List.set_cons_zero, List.set_cons_succ, i64_w, i32_w]
                   rfl
                 refine take_ (i := 3) (N := some 6) (v := ?_) (a' := ?_) #[true, true, true, true, true, true, true, false, true, true, true, false, true, true, false, false, false, false] rfl rfl (take_ofW HT_.out HW_.out (by kernel_rfl)) (fun _ _ _ h => h) (Or.inl ⟨by rfl, ?_⟩) hHeld ?_ ?_
                 rotate_left
                 · intro w' _
                   go_simp
                   with_reducible rfl
                 rotate_left
                 · simp only [Act.put, List.setIfInBounds_toArray, List.set_cons_zero, List.set_cons_succ, i64_w, i32_w]
                   rfl
                 refine take_ (i := 7) (N := some 10) (v := ?_) (a' := ?_) #[true, true, true, true, true, true, true, true, true, true, true, false, true, true, false, false, false, false] rfl rfl (take_ofW HT_.out HW_.out (by kernel_rfl)) (fun _ _ _ h => h) (Or.inl ⟨by rfl, ?_⟩) hHeld ?_ ?_
                 rotate_left
                 · intro w' _
                   go_simp
                   with_reducible rfl
                 rotate_left
                 · simp only [Act.put, List.setIfInBounds_toArray, List.set_cons_zero, List.set_cons_succ, i64_w, i32_w]
                   rfl
                 refine take_ (i := 11) (N := some 14) (v := ?_) (a' := ?_) #[true, true, true, true, true, true, true, true, true, true, true, true, true, true, false, false, false, false] rfl rfl (take_ofW HT_.out HW_.out (by kernel_rfl)) (fun _ _ _ h => h) (Or.inl ⟨by rfl, ?_⟩) hHeld ?_ ?_
                 rotate_left
                 · intro w' _
                   go_simp
                   with_reducible rfl
                 rotate_left
                 · simp only [Act.put, List.setIfInBounds_toArray, List.set_cons_zero, List.set_cons_succ, i64_w, i32_w]
                   rfl
                 refine take_ (i := 14) (N := some 17) (v := ?_) (a' := ?_) #[true, true, true, true, true, true, true, true, true, true, true, true, true, true, true, false, false, false] rfl rfl (take_ofW HT_.out HW_.out (by kernel_rfl)) (fun _ _ _ h => h) (Or.inl ⟨by rfl, ?_⟩) hHeld ?_ ?_
                 rotate_left
                 · intro w' _
                   go_simp
                   with_reducible rfl
                 rotate_left
                 · simp only [Act.put, List.setIfInBounds_toArray, List.set_cons_zero, List.set_cons_succ, i64_w, i32_w]
                   rfl
                 refine one_ (i := 15) (N := some 18) #[true, true, true, true, true, true, true, true, true, true, true, true, true, true, true, true, false, false] rfl rfl (one_of HT_.out (by kernel_rfl)) (by decide) (fun K hK => ?_)
                 refine Kd.R_lit_step (Kd.int .u8) _ 5 ?hg (N := 18) ?hd (xs := ([bt (⟨#[48, 49, 50, 51, 52, 53, 54, 55, 56, 57, 97, 98, 99, 100, 101, 102]⟩ : ByteArray) (ji2), bt (⟨#[48, 49, 50, 51, 52, 53, 54, 55, 56, 57, 97, 98, 99, 100, 101, 102]⟩ : ByteArray) (ji6), bt (⟨#[48, 49, 50, 51, 52, 53, 54, 55, 56, 57, 97, 98, 99, 100, 101, 102]⟩ : ByteArray) (ji10), bt (⟨#[48, 49, 50, 51, 52, 53, 54, 55, 56, 57, 97, 98, 99, 100, 101, 102]⟩ : ByteArray) (Go.bits .and .i64 a0 15)] : List Int)) (inner := [.int .u8 (bt (⟨#[48, 49, 50, 51, 52, 53, 54, 55, 56, 57, 97, 98, 99, 100, 101, 102]⟩ : ByteArray) (ji2)), .int .u8 (bt (⟨#[48, 49, 50, 51, 52, 53, 54, 55, 56, 57, 97, 98, 99, 100, 101, 102]⟩ : ByteArray) (ji6)), .int .u8 (bt (⟨#[48, 49, 50, 51, 52, 53, 54, 55, 56, 57, 97, 98, 99, 100, 101, 102]⟩ : ByteArray) (ji10)), .int .u8 (bt (⟨#[48, 49, 50, 51, 52, 53, 54, 55, 56, 57, 97, 98, 99, 100, 101, 102]⟩ : ByteArray) (Go.bits .and .i64 a0 15))]) (ok := fun _ => True) (okp := fun _ => True) ?hr ?hp (fun _ hk => hk) trivial (Below.refl _ _) (Nat.le_refl _) (by simp) ?_; (case hd => rfl); (case hg => rfl); (case hr => first | (go_simp; done) | (go_simp; rfl)); (case hp => exact (Reps.one (show Kd.M (Kd.int .u8) _ _ _ (bt (⟨#[48, 49, 50, 51, 52, 53, 54, 55, 56, 57, 97, 98, 99, 100, 101, 102]⟩ : ByteArray) (ji2)) [.int .u8 (bt (⟨#[48, 49, 50, 51, 52, 53, 54, 55, 56, 57, 97, 98, 99, 100, 101, 102]⟩ : ByteArray) (ji2))] from rfl) (Reps.one (show Kd.M (Kd.int .u8) _ _ _ (bt (⟨#[48, 49, 50, 51, 52, 53, 54, 55, 56, 57, 97, 98, 99, 100, 101, 102]⟩ : ByteArray) (ji6)) [.int .u8 (bt (⟨#[48, 49, 50, 51, 52, 53, 54, 55, 56, 57, 97, 98, 99, 100, 101, 102]⟩ : ByteArray) (ji6))] from rfl) (Reps.one (show Kd.M (Kd.int .u8) _ _ _ (bt (⟨#[48, 49, 50, 51, 52, 53, 54, 55, 56, 57, 97, 98, 99, 100, 101, 102]⟩ : ByteArray) (ji10)) [.int .u8 (bt (⟨#[48, 49, 50, 51, 52, 53, 54, 55, 56, 57, 97, 98, 99, 100, 101, 102]⟩ : ByteArray) (ji10))] from rfl) (Reps.one (show Kd.M (Kd.int .u8) _ _ _ (bt (⟨#[48, 49, 50, 51, 52, 53, 54, 55, 56, 57, 97, 98, 99, 100, 101, 102]⟩ : ByteArray) (Go.bits .and .i64 a0 15)) [.int .u8 (bt (⟨#[48, 49, 50, 51, 52, 53, 54, 55, 56, 57, 97, 98, 99, 100, 101, 102]⟩ : ByteArray) (Go.bits .and .i64 a0 15))] from rfl) (Reps.none _ _))))))
                 intro v104 w18 ho19 hb hg_ hnew_
                 clear hg_ hnew_
                 (first | rw [← Ny103.out] at ho19 | (simp only [Int.reduceToNat] at ho19; rw [← Ny103.out] at ho19))
                 have n0_ := Aside0.mk (Kd.R_lower ho19 (below_size (by repeat (first | (with_reducible first | exact HB.out | apply below_alloc | apply pw_below_drewN | apply below_drew1) | exact HB.out))))
                 have n1_ := Aside0.mk (below_step (by repeat (first | (with_reducible first | exact HB.out | apply below_alloc | apply pw_below_drewN | apply below_drew1) | exact HB.out)) hb)
                 clear HB
                 have HO105 := n0_
                 have HB := n1_
                 clear n0_ n1_
                 clear hb ho19
                 refine hK.out _ _ trivial (fun hHeld => ?_)
                 clear hK K
                 refine norm_ (a' := ?_) ?_ ?_
                 rotate_left
                 · show Act.put _ (some 18) _ = _
                   simp only [Act.put, List.setIfInBounds_toArray, List.set_cons_zero, List.set_cons_succ, i64_w, i32_w]
                   rfl
                 refine one_ (i := 16) (N := some 19) #[true, true, true, true, true, true, true, true, true, true, true, true, true, true, true, true, true, false] rfl rfl (one_of HT_.out (by kernel_rfl)) (by decide) (fun K hK => ?_)
                 have hcv20 := own_string (P := Tryd.prog) Tryd.underlying37 Tryd.underlying5 Tryd.underlying9 (Kd.own_of_R HO105.out)
                 refine value_ (w1 := ?_) (v := ?_) (by rfl) rfl ?_ ?_
                 rotate_left 2
                 · go_simp
                   constructor
                   · rfl
                   · rfl
                 clear hcv20
                 refine hK.out _ _ trivial (fun hHeld => ?_)
                 clear hK K
                 refine norm_ (a' := ?_) ?_ ?_
                 rotate_left
                 · show Act.put _ (some 19) _ = _
                   simp only [Act.put, List.setIfInBounds_toArray, List.set_cons_zero, List.set_cons_succ, i64_w, i32_w]
                   rfl
                 refine pure_ (i := 17) (N := some 2) (v := ?_) (a' := ?_) #[true, true, true, true, true, true, true, true, true, true, true, true, true, true, true, true, true, true] rfl rfl (any_of HT_.out (by kernel_rfl)) (fun _ _ _ h => h) (Or.inl ⟨by rfl, ?_⟩) ?_ ?_
                 rotate_left
                 · intro w'
                   go_simp
                   with_reducible rfl
                 rotate_left
                 · simp only [Act.put, List.setIfInBounds_toArray, List.set_cons_zero, List.set_cons_succ, i64_w, i32_w]
                   rfl
                 refine done_ (done_of HT_.out (by kernel_rfl)) ?_
                 try go_wp2
                 go_ret
                 exact ⟨by first | rfl | (simp [errW_none, errW_some] <;> rfl) | (simp only [← hji2, ← hji6, ← hji10]; first | rfl | (simp [errW_none, errW_some] <;> rfl)) | (simp [*, errW_none, errW_some] <;> rfl), by repeat (first | (with_reducible first | exact HB.out | apply below_alloc | apply pw_below_drewN | apply below_drew1) | exact HB.out)⟩
               · rw [if_neg c15] at H
                 exact absurd H (by simp)
             · rw [if_neg c14] at H
               exact absurd H (by simp)
           · rw [if_neg c12] at H
             exact absurd H (by simp)
         · rw [if_neg c11] at H
           exact absurd H (by simp)
       · rw [if_neg c8] at H
         exact absurd H (by simp)
     · rw [if_neg c7] at H
       exact absurd H (by simp)
   · rw [if_neg c4] at H
     exact absurd H (by simp)
 · rw [if_neg c3] at H
   exact absurd H (by simp)
def plan_Sum.l0 : Nat → ByteArray → Int → Int → Option (Int)
 | 0, _, _, _ => none
 | k + 1, x0, x3, x4 => if x4 < (x0.size : Int) then (if 0 ≤ x4 then (plan_Sum.l0 k x0 (IntKind.u16.wrap ((Go.bits .or .u16 (x3 / 2) (IntKind.u16.wrap (x3 * 32768))) + (IntKind.u16.wrap (bt x0 x4)))) (wrap64 (x4 + 1))) else (none)) else (some (wrap64 (x3)))
def plan_Sum.f (k : Nat) (a0 : ByteArray) : Option (Int) := plan_Sum.l0 k a0 0 0
theorem plan_Sum.mono_l : ∀ k, (∀ y0 y1 y2, LeO (plan_Sum.l0 k y0 y1 y2) (plan_Sum.l0 (k + 1) y0 y1 y2))
 | 0 => fun _ _ _ r h => by simp [plan_Sum.l0] at h
 | k + 1 => by
   have ih0 := plan_Sum.mono_l k
   · intro y0 y1 y2
     unfold plan_Sum.l0
     repeat' first
     | (with_reducible exact ih0 _ _ _)
     | (with_reducible exact LeO.refl _)
     | (with_reducible exact LeO.none _)
     | (with_reducible refine LeO.ite ?_ ?_)
     | (with_reducible refine LeO.bind ?_ (fun _ => ?_))
     | exact ih0 _ _ _
     | exact LeO.none _
     | refine LeO.ite ?_ ?_
     | refine LeO.bind ?_ (fun _ => ?_)
theorem plan_Sum.mono : ∀ a0 k, LeO (plan_Sum.f k a0) (plan_Sum.f (k + 1) a0) := by
 intro a0 k
 have ih0 := plan_Sum.mono_l k
 unfold plan_Sum.f
 repeat' first
     | (with_reducible exact ih0 _ _ _)
     | (with_reducible exact LeO.refl _)
     | (with_reducible exact LeO.none _)
     | (with_reducible refine LeO.ite ?_ ?_)
     | (with_reducible refine LeO.bind ?_ (fun _ => ?_))
     | exact ih0 _ _ _
     | exact LeO.none _
     | refine LeO.ite ?_ ?_
     | refine LeO.bind ?_ (fun _ => ?_)
set_option maxHeartbeats 8000000 in
set_option maxRecDepth 100000 in
theorem plan_Sum.calls (k : Nat) (a0 : ByteArray) (r : Int) (w : World) (h : plan_Sum.f k a0 = some r) :
   Calls Tryd.prog 25 #[.string a0] w fun e w' => e = .returned (.int .i64 r) ∧ Drawn0 w w' := by
 have H : (plan_Sum.l0 k a0 0 0) = some r := h
 clear h
 have H' := Aside0.mk H
 clear H
 go_enter Tryd.func25, Tryd.ntmps25
 go_wp2
 go_loopg [3, 4] k (fun kq v3 v4 w' => ∃ (x3_1 : Int) (x4_1 : Int), v3 = .int .u16 x3_1 ∧ v4 = .int .i64 x4_1 ∧ Aside0 (plan_Sum.l0 kq a0 x3_1 x4_1 = some r) ∧ Aside0 (kq ≤ k) ∧ Drawn0 w w')
 case atStart => exact ⟨(0), (0), (by first | rfl | (simp; done) | (simp [*]; done)), (by first | rfl | (simp; done) | (simp [*]; done)), H', ⟨Nat.le_refl _⟩, by repeat (first | exact Drawn0.refl _ | apply Drawn0.step)⟩
 case round =>
   clear H'
   obtain ⟨x3_1, x4_1, rfl, rfl, HA, HK1, ⟨m1, rfl⟩⟩ := hrel
   cases gk with
   | zero => exact absurd HA.out (by simp [plan_Sum.l0])
   | succ k1 =>
     have H := HA.out
     clear HA
     simp only [plan_Sum.l0] at H
     by_cases c2 : x4_1 < (a0.size : Int)
     · rw [if_pos c2] at H
       have c2b0 : decide (x4_1 < (a0.size : Int)) = true := decide_eq_true c2
       clear c2
       by_cases c3 : 0 ≤ x4_1
       · rw [if_pos c3] at H
         have c3b0 : decide (0 ≤ x4_1) = true := decide_eq_true c3
         clear c3
         have H' := Aside0.mk H
         clear H
         have p4 : 0 ≤ (x4_1 : Int) := of_decide_eq_true (by first | (with_reducible assumption) | assumption)
         have q4 : x4_1 < (a0.size : Int) := of_decide_eq_true (by first | (with_reducible assumption) | assumption)
         have hx4 := bt_at a0 x4_1
         replace p4 := eq_true p4
         replace q4 := eq_true q4
         go_wp2
         go_roundg k1
         case measure => have := HK1.out; omega
         case rel => exact ⟨(IntKind.u16.wrap ((Go.bits .or .u16 (x3_1 / 2) (IntKind.u16.wrap (x3_1 * 32768))) + (IntKind.u16.wrap (bt a0 x4_1)))), (wrap64 (x4_1 + 1)), (by first | rfl | (simp; done) | (simp [*]; done)), (by first | rfl | (simp; done) | (simp [*]; done)), H', ⟨by have := HK1.out; omega⟩, by repeat (first | exact Drawn0.refl _ | apply Drawn0.step)⟩
       · rw [if_neg c3] at H
         exact absurd H (by simp)
     · rw [if_neg c2] at H
       have c2b0 : decide (x4_1 < (a0.size : Int)) = false := decide_eq_false c2
       clear c2
       obtain rfl := Option.some.inj H
       go_wp2
       go_ret
       exact ⟨by first | rfl | (simp; done) | (simp [*]; done), by repeat (first | exact Drawn0.refl _ | apply Drawn0.step)⟩
end Go.Proofs.YtmpnkckaohfflaaDoor.E
end
section
namespace Go.Proofs.YtmpnkckaohfflaaDoor.PGiv
open Go.RowKit Go.Proofs.YtmpnkckaohfflaaDoorW.PrintWords Go.Proofs.YtmpnkckaohfflaaDoorW.PrintLast Go.Proofs.YtmpnkckaohfflaaDoorW.PrintMore Go.Proofs.YtmpnkckaohfflaaDoor.K Go.Maps
set_option linter.unusedVariables false
set_option linter.unusedSimpArgs false
def sideB (n : Int) : Bool := decide (1 ≤ n) && decide (n ≤ 1000)
def idB (n : Int) : Bool := decide (1 ≤ n) && decide (n ≤ 4611686018427387904)
def kindB (n : Int) : Bool := n == 2 || n == 3
theorem side_calls (n : Int) (r : Bool) (h : sideB n = r) (w : World) : Calls Tryd.prog 49 #[.int .i64 n] w fun e w' => e = .returned (.bool r) ∧ w' = w := by
 subst h
 unfold sideB
 go_enter Tryd.func49, Tryd.ntmps49
 by_cases k : 1 ≤ n
 · have k' : decide (1 ≤ n) = true := decide_eq_true k
   go_wp2
   go_ret
   exact ⟨by simp [k], rfl⟩
 · have k' : decide (1 ≤ n) = false := decide_eq_false k
   go_wp2
   go_ret
   exact ⟨by simp [k], rfl⟩
theorem id_calls (n : Int) (r : Bool) (h : idB n = r) (w : World) : Calls Tryd.prog 50 #[.int .i64 n] w fun e w' => e = .returned (.bool r) ∧ w' = w := by
 subst h
 unfold idB
 go_enter Tryd.func50, Tryd.ntmps50
 by_cases k : 1 ≤ n
 · have k' : decide (1 ≤ n) = true := decide_eq_true k
   go_wp2
   go_ret
   exact ⟨by simp [k], rfl⟩
 · have k' : decide (1 ≤ n) = false := decide_eq_false k
   go_wp2
   go_ret
   exact ⟨by simp [k], rfl⟩
theorem kindOf_calls (n : Int) (r : Bool) (h : kindB n = r) (w : World) : Calls Tryd.prog 51 #[.int .i64 n] w fun e w' => e = .returned (.bool r) ∧ w' = w := by
 subst h
 unfold kindB
 go_enter Tryd.func51, Tryd.ntmps51
 by_cases k : n = 2
 · have k' : (n == 2) = true := beq_iff_eq.mpr k
   go_wp2
   go_ret
   exact ⟨by simp [k], rfl⟩
 · have k' : (n == 2) = false := beq_eq_false_iff_ne.mpr k
   go_wp2
   go_ret
   exact ⟨by simp [k], rfl⟩
theorem write_calls (base : Nat) (t : Tr) (v : Value) (w : World) (hb : base ≤ w.heap.size) (hM : kT.M w base (fun _ => True) t [v]) (hc : cntT t ≤ 1000000) :
   Calls Tryd.prog 54 #[v] w fun e w' => ∃ (A : Option Addr) (c : Nat), e = .returned (.slice A (layT t 0 0 0).length c) ∧ (layT t 0 0 0).length ≤ c ∧ Kd.C k45 w' A (layT t 0 0 0).length (layT t 0 0 0) ∧
     Below base w w' ∧ ∀ k, k < w.heap.size → Alike w.heap[k]? w'.heap[k]? := by
 have e1 : (w.alloc (.cells #[.slice none 0 0] 22 (0, 0))).heap = w.heap.push (.cells #[.slice none 0 0] 22 (0, 0)) := rfl
 have hO := Lib.hid (show (w.alloc (.cells #[.slice none 0 0] 22 (0, 0))).heap[w.heap.size]? = some (.cells #[.slice none 0 0] 22 (0, 0)) by rw [e1]; simp)
 have hA := Lib.hid (show ∀ k, k < w.heap.size → (w.alloc (.cells #[.slice none 0 0] 22 (0, 0))).heap[k]? = w.heap[k]? from fun k hk => Below.heap_alloc w _ k hk)
 have hM1 := Lib.hid (kT.M_move (w1 := w.alloc (.cells #[.slice none 0 0] 22 (0, 0))) (fun k hk => hA.out k hk) (kT.M_mono (ok' := fun k => k < w.heap.size) (fun k hk => hk.2.2.1) (kT.M_bound hM)))
 have hB := Lib.hid (show Below base w (w.alloc (.cells #[.slice none 0 0] 22 (0, 0))) from (Below.refl _ _).alloc hb _)
 go_enter Tryd.func54, Tryd.ntmps54
 go_wp2_with (go_at_call 69; refine (lay_calls base w.heap.size hb t 0 0 0 [] (.slice none 0 0) v _ hM1.out hO.out (Kd.R_nil _ _ _ _ _) (by simpa using hc)).mono ?_)
 rintro e w1 ⟨rfl, B1, A1, vs, O1, R1⟩
 obtain ⟨Av, cv, rfl, hl, hC⟩ := Kd.R_reads R1
 have hv : w1.cell? ⟨w.heap.size, 0, none⟩ = some (.slice Av ([] ++ layT t 0 0 0).length cv) := (blk_cell O1 0).trans rfl
 have F := Lib.hid (And.intro hl (And.intro hC (And.intro B1 A1)))
 clear B1 A1 O1 R1 hl hC
 go_wp2
 go_ret
 have F := F.out
 rw [List.nil_append] at F
 refine ⟨Av, cv, rfl, F.1, F.2.1, hB.out.trans F.2.2.1, fun k hk => ?_⟩
 have := F.2.2.2 k hk
 rwa [hA.out k hk] at this
def seenD : List Int → DataW Unit
 | [] => .map []
 | p :: S => (seenD S).put (.int .i64 p) (.lit (.int .i64 1))
theorem seenD_tidy : ∀ S, Tidy (seenD S)
 | [] => tidy_empty
 | p :: S => (seenD_tidy S).put (show WideAt.IsKeyLit (.int .i64 p) from trivial) _
theorem seenD_has (p : Int) : ∀ S, has (seenD S) (.int .i64 p) = decide (p ∈ S)
 | [] => by simp [seenD, has]
 | q :: S => by
   by_cases e : p = q
   · subst e
     rw [seenD, has_put_same (seenD_tidy S).isMap (show WideAt.IsKeyLit (.int .i64 p) from trivial)]
     simp
   · rw [seenD, has_put_other (fun h => e (by injection h)), seenD_has p S]
     simp [e]
theorem seenD_at (p : Int) (z : DataW Unit) : ∀ S, (seenD S).atKey (.int .i64 p) z = if p ∈ S then .lit (.int .i64 1) else z
 | [] => by
   rw [atKey_of_not_has (by rw [seenD_has]; simp)]
   simp
 | q :: S => by
   by_cases e : p = q
   · subst e
     rw [seenD, atKey_put_same (seenD_tidy S).isMap (show WideAt.IsKeyLit (.int .i64 p) from trivial)]
     simp
   · rw [seenD, atKey_put_other (fun h => e (by injection h)), seenD_at p z S]
     simp [e]
theorem seenD_size : ∀ S, S.Nodup → size (seenD S) = S.length
 | [], _ => rfl
 | p :: S, h => by
   obtain ⟨h1, h2⟩ := List.nodup_cons.1 h
   rw [seenD, size_put (seenD_tidy S), seenD_has, seenD_size S h2]
   simp [h1]
def seenF : List S45 → List Int → Option (List Int)
 | [], S => some S
 | c :: r, S => if c.f4 < 1 ∨ 1000 < c.f4 ∨ c.f5 < 1 ∨ 1000 < c.f5 then none
   else if c.f1 = 1 then (if idB c.f6 = false ∨ c.f6 ∈ S then none else seenF r (c.f6 :: S))
   else if c.f6 ≠ 0 ∨ kindB c.f1 = false then none else seenF r S
instance decS : DecidableEq S45 := fun a b => decidable_of_iff (a.f0 = b.f0 ∧ a.f1 = b.f1 ∧ a.f2 = b.f2 ∧ a.f3 = b.f3 ∧ a.f4 = b.f4 ∧ a.f5 = b.f5 ∧ a.f6 = b.f6) (by
 cases a
 cases b
 simp)
def readF : List S45 → Option (Option Tr)
 | [] => some none
 | c :: l => if 64 < (c :: l).length then some none else if sideB c.f4 = false then some none else if sideB c.f5 = false then some none
   else match seenF (c :: l) [] with
     | none => some none
     | some S => if 32 < S.length then some none
       else (growF 1000 (c :: l) 0).bind fun r => match r with
         | none => some none
         | some (t, rest) => if 0 < rest.length then some none else if layT t 0 0 0 = c :: l then some (some t) else some none
theorem law_int : Keyed Tryd.prog 3 := int_keyed Tryd.underlying3
theorem zero_int (w : World) : (zeroValue 3).run Tryd.prog w = .ok (.int .i64 0) w := by kernel_rfl
theorem rd_at (l : List S45) (i : Nat) (h : i < l.length) : rd_T45 l (i : Int) = l[i] := by
 simp [rd_T45, List.getD_eq_getElem?_getD, List.getElem?_eq_getElem h]
def ReadPost (w : World) (r : Option Tr) (e : Ending) (w' : World) : Prop :=
 match r with
 | none => e = .returned .nilIface ∧ Below w.heap.size w w'
 | some t => ∃ v, e = .returned v ∧ kT.M w' w.heap.size (fun _ => True) t [v] ∧ Below w.heap.size w w'
theorem seenF_step (c : S45) (r : List S45) (S : List Int) : seenF (c :: r) S = if c.f4 < 1 ∨ 1000 < c.f4 ∨ c.f5 < 1 ∨ 1000 < c.f5 then none
   else if c.f1 = 1 then (if idB c.f6 = false ∨ c.f6 ∈ S then none else seenF r (c.f6 :: S))
   else if c.f6 ≠ 0 ∨ kindB c.f1 = false then none else seenF r S := rfl
theorem id_wf {n : Int} (h : idB n = true) : (Lit.int .i64 n).wf = true := by
 simp [idB] at h
 exact WalkArith.wf_i64 (by omega)
theorem cntL_snoc (t : Tr) : ∀ ks, cntL (ks ++ [t]) = cntL ks + cntT t
 | [] => by simp [cntL]
 | k :: r => by
   rw [List.cons_append, cntL, cntL, cntL_snoc t r]
   omega
theorem tail_cnt {c : S45} {kids : List Tr} {sum e : Int} {l rest : List S45} {t : Tr} (h : (if kids.length < 2 then some none else if sum = e then some (some ((⟨c.f1, c.f4, c.f5, 0, kids⟩ : Tr), l)) else some none) = some (some (t, rest))) : cntT t + rest.length = 1 + cntL kids + l.length := by
 split at h
 · simp at h
 · split at h
   · simp only [Option.some.injEq, Prod.mk.injEq] at h
     obtain ⟨rfl, rfl⟩ := h
     simp [cntT]
   · simp at h
theorem grow_cnt : ∀ k, (∀ l d t rest, growF k l d = some (some (t, rest)) → cntT t + rest.length = l.length) ∧ (∀ c d kids sum l t rest, growL k c d kids sum l = some (some (t, rest)) → cntT t + rest.length = 1 + cntL kids + l.length) := by
 intro k
 induction k with
 | zero => exact ⟨fun l d t rest h => by simp [growF] at h, fun c d kids sum l t rest h => by simp [growL] at h⟩
 | succ k ih =>
   obtain ⟨ih1, ih2⟩ := ih
   constructor
   · intro l d t rest h
     cases l with
     | nil => simp [growF] at h
     | cons c r =>
       rw [growF] at h
       split at h
       · simp only [Option.some.injEq, Prod.mk.injEq] at h
         obtain ⟨rfl, rfl⟩ := h
         simp [cntT, cntL]
         omega
       · have := ih2 _ _ _ _ _ _ _ h
         simp [cntL] at this ⊢
         omega
   · intro c d kids sum l t rest h
     cases l with
     | nil =>
       rw [growL, if_neg (by simp)] at h
       exact tail_cnt h
     | cons x r =>
       rw [growL] at h
       split at h
       · split at h
         · simp at h
         · obtain ⟨g, hg, h⟩ := Option.bind_eq_some_iff.1 h
           cases g with
           | none => simp at h
           | some tr =>
             obtain ⟨t', rest'⟩ := tr
             have h1 := ih1 _ _ _ _ hg
             simp only at h
             split at h
             · have h2 := ih2 _ _ _ _ _ _ _ h
               rw [cntL_snoc] at h2
               omega
             · simp at h
       · exact tail_cnt h
theorem cell_eq {a b : S45} (h : (!(a.f0 == b.f0) || (!(a.f1 == b.f1) || (!(a.f2 == b.f2) || (!(a.f3 == b.f3) || (!(a.f4 == b.f4) || (!(a.f5 == b.f5) || !(a.f6 == b.f6))))))) = false) : a = b := by
 cases a
 cases b
 simp only [Bool.or_eq_false_iff, Bool.not_eq_false', beq_iff_eq] at h
 obtain ⟨h0, h1, h2, h3, h4, h5, h6⟩ := h
 subst h0 h1 h2 h3 h4 h5 h6
 rfl
theorem equal_l (a b : List S45) (hn : a.length = b.length) (hb : a.length ≤ 1000000) : ∀ (k i : Nat), i ≤ a.length → a.length < k + i → E.api_Cell.l0 k a b (a.length : Int) (i : Int) = some (decide (a.drop i = b.drop i)) := by
 intro k
 induction k with
 | zero => intro i h1 h2; omega
 | succ k ih =>
   intro i h1 h2
   rw [E.api_Cell.l0]
   by_cases hi : i < a.length
   · have hi' : i < b.length := by omega
     rw [if_pos (by omega), if_pos (by omega), if_pos (by omega), if_pos (by omega), rd_at a i hi, rd_at b i hi']
     have da : a.drop i = a[i] :: a.drop (i + 1) := List.drop_eq_getElem_cons hi
     have db : b.drop i = b[i] :: b.drop (i + 1) := List.drop_eq_getElem_cons hi'
     have hw : wrap64 ((i : Int) + 1) = ((i + 1 : Nat) : Int) := (IntWalk.wrap64_in _ (by omega)).trans (by omega)
     have hiff : (a.drop i = b.drop i) ↔ (a[i] = b[i] ∧ a.drop (i + 1) = b.drop (i + 1)) := by
       rw [da, db]
       simp only [List.cons.injEq]
     split
     · rename_i h
       have hne : ¬ a.drop i = b.drop i := fun e => by
         rw [(hiff.1 e).1] at h
         simp at h
       simp only [hne, decide_false]
     · rename_i h
       have e := cell_eq (by simpa using h)
       rw [hw, ih (i + 1) (by omega) (by omega)]
       simp only [hiff, e, true_and]
   · rw [if_neg (by omega), List.drop_eq_nil_of_le (by omega), List.drop_eq_nil_of_le (by omega)]
     simp
theorem equal_f (a b : List S45) (hb : a.length ≤ 1000) : E.api_Cell.f 10000 a b = some (decide (a = b)) := by
 rw [E.api_Cell.f]
 by_cases hn : a.length = b.length
 · rw [if_pos (by omega)]
   have := equal_l a b hn (by omega) 10000 0 (by omega) (by omega)
   simpa using this
 · rw [if_neg (by omega)]
   have : ¬ a = b := fun e => hn (by rw [e])
   simp [this]
theorem equal_true {a b : List S45} (hb : a.length ≤ 1000) (h : a = b) : E.api_Cell.f 10000 a b = some true := by
 rw [equal_f a b hb]
 simp [h]
theorem equal_false {a b : List S45} (hb : a.length ≤ 1000) (h : ¬ a = b) : E.api_Cell.f 10000 a b = some false := by
 rw [equal_f a b hb]
 simp [h]
set_option maxHeartbeats 16000000 in
set_option maxRecDepth 100000 in
theorem read_calls (A : Option Addr) (c0 : Nat) (l : List S45) (r : Option Tr) (w : World) (hr : Kd.C k45 w A l.length l) (hc : l.length ≤ c0) (h : readF l = some r) :
   Calls Tryd.prog 33 #[.slice A l.length c0] w fun e w' => ReadPost w r e w' := by
 cases l with
 | nil =>
   obtain rfl := Option.some.inj h
   go_enter Tryd.func33, Tryd.ntmps33
   go_wp2
   go_ret
   exact ⟨rfl, Below.refl _ _⟩
 | cons c l =>
 have HR := Lib.hid hr
 obtain ⟨ad, rfl, h0, h1, h2, h3, h4, h5, h6⟩ := at_T45 hr 0 (by omega) (by simp)
 have ec : rd_T45 (c :: l) 0 = c := rfl
 have ea : ad.add (Int.toNat 0 * 7) = ad := rfl
 rw [ec, ea] at h0 h1 h2 h3 h4 h5 h6
 clear ec ea hr
 have HE := Lib.hid h
 have HC := Lib.hid hc
 clear h hc
 have hmm := @run_makeMap Tryd.prog
 generalize hn : (c :: l).length = n at *
 have hn0 : (n : Int) ≠ 0 := by rw [← hn]; simp; omega
 have hn0' : ((n : Int) == 0) = false := beq_eq_false_iff_ne.mpr hn0
 go_enter Tryd.func33, Tryd.ntmps33
 by_cases hn64 : 64 < n
 · have hn64' : decide ((64 : Int) < (n : Int)) = true := decide_eq_true (by omega)
   have e : some none = some r := by have := HE.out; rwa [readF, hn, if_pos hn64] at this
   obtain rfl := Option.some.inj e
   go_wp2
   go_ret
   exact ⟨rfl, Below.refl _ _⟩
 · have hn64' : decide ((64 : Int) < (n : Int)) = false := decide_eq_false (by omega)
   have HE1 := HE.out
   rw [readF, hn, if_neg hn64] at HE1
   clear HE
   by_cases hs1 : sideB c.f4 = false
   · rw [if_pos hs1] at HE1
     obtain rfl := Option.some.inj HE1
     go_wp2_with (go_at_call 49; refine (side_calls c.f4 false hs1 _).mono ?_; rintro e w' ⟨rfl, hw⟩; rw [hw]; clear hw w')
     go_wp2
     go_ret
     exact ⟨rfl, Below.refl _ _⟩
   · rw [if_neg hs1] at HE1
     have hs1 : sideB c.f4 = true := by simpa using hs1
     by_cases hs2 : sideB c.f5 = false
     · rw [if_pos hs2] at HE1
       obtain rfl := Option.some.inj HE1
       go_wp2_with (go_at_call 49; first | (refine (side_calls c.f4 true hs1 _).mono ?_; rintro e w' ⟨rfl, hw⟩; rw [hw]; clear hw w') | (refine (side_calls c.f5 false hs2 _).mono ?_; rintro e w' ⟨rfl, hw⟩; rw [hw]; clear hw w'))
       go_wp2
       go_ret
       exact ⟨rfl, Below.refl _ _⟩
     · rw [if_neg hs2] at HE1
       have hs2 : sideB c.f5 = true := by simpa using hs2
       have HE2 := Lib.hid HE1
       clear HE1
       go_wp2_with (go_at_call 49; first | (refine (side_calls c.f4 true hs1 _).mono ?_; rintro e w' ⟨rfl, hw⟩; rw [hw]; clear hw w') | (refine (side_calls c.f5 true hs2 _).mono ?_; rintro e w' ⟨rfl, hw⟩; rw [hw]; clear hw w'))
       have hB0 : w.heap.size < (w.alloc (.map #[] 0)).heap.size := (World.ownsMap_made (H := Unit) w Tryd.prog 3 (plainElem Tryd.prog 3)).lt
       go_loopg [35] n (fun kq iv wr => ∃ (z : Int) (i : Nat) (S : List Int), iv = .int .i64 z ∧ Aside0 (z = (i : Int)) ∧ Aside0 (i + kq = n) ∧ Aside0 (seenF ((c :: l).drop i) S = seenF (c :: l) []) ∧ Aside0 (S.Nodup ∧ S.length ≤ i) ∧
         Aside0 (wr.ownsMap Tryd.prog 3 (plainElem Tryd.prog 3) w.heap.size i (seenD S)) ∧ Aside0 (Below w.heap.size w wr))
       case atStart =>
         exact ⟨0, 0, [], rfl, ⟨rfl⟩, ⟨by omega⟩, ⟨rfl⟩, ⟨List.nodup_nil, by simp⟩, ⟨World.ownsMap_made _ _ _ _⟩, ⟨(Below.refl _ _).alloc (Nat.le_refl _) _⟩⟩
       case round =>
         clear h0 h1 h2 h3 h4 h5 h6 hs1 hs2 hB0 hmm
         obtain ⟨z, i, S, rfl, HZ, RI, RS, RD, RM, RB⟩ := hrel
         cases gk with
         | zero =>
           have hz : z = (n : Int) := by have := HZ.out; have := RI.out; omega
           have hz' : decide (z < (n : Int)) = false := decide_eq_false (by omega)
           have hSF : seenF (c :: l) [] = some S := by
             have h := RS.out
             have e : i = (c :: l).length := by have := RI.out; omega
             rw [e, List.drop_length] at h
             exact h.symm
           have HE3 := HE2.out
           rw [hSF] at HE3
           have HE3 := Lib.hid HE3
           clear HE2 hz hSF
           have hsz := seenD_size S RD.out.1
           have hlen := RM.out.len Tryd.underlying67 3
           rw [hsz] at hlen
           by_cases h32 : 32 < S.length
           · have h32' : decide ((32 : Int) < (S.length : Int)) = true := decide_eq_true (by omega)
             have e : some none = some r := by have h : (if 32 < S.length then some none else _) = some r := HE3.out; rwa [if_pos h32] at h
             obtain rfl := Option.some.inj e
             go_wp2
             go_ret
             exact ⟨rfl, RB.out⟩
           · have h32' : decide ((32 : Int) < (S.length : Int)) = false := decide_eq_false (by omega)
             have HE4 := HE3.out
             simp only [if_neg h32] at HE4
             obtain ⟨g, hg, HE5⟩ := Option.bind_eq_some_iff.1 HE4
             have G := grow_calls 1000 (by omega) (some ad) c0 (c :: l) 0 g wr (by rw [hn]; exact Kd.C_below HR.out RB.out) (by rw [hn]; exact HC.out) hg
             rw [hn] at G
             have G := Lib.hid G
             have HG := Lib.hid hg
             have HE5 := Lib.hid HE5
             clear HE4 HE3 hg RM RD RS RI
             go_wp2_with (go_at_call 52; refine (G.out).mono ?_)
             cases g with
             | none =>
               rintro e w2 ⟨rfl, b2⟩
               obtain rfl := Option.some.inj HE5.out
               go_wp2
               go_ret
               exact ⟨rfl, RB.out.trans (b2.mono RB.out.size)⟩
             | some tr =>
               obtain ⟨t, rest⟩ := tr
               rintro e w2 ⟨v2, A2, c2, rfl, m2, l2, cc2, b2⟩
               obtain ⟨tp, bt, rfl, _⟩ := tree_value m2
               have hcnt := (grow_cnt 1000).1 _ _ _ _ HG.out
               have B2 := Lib.hid (RB.out.trans (b2.mono RB.out.size))
               have M2 := Lib.hid (kT.M_lower RB.out.size m2)
               clear m2 cc2 b2
               by_cases hrest : 0 < rest.length
               · have hrest' : decide ((0 : Int) < (rest.length : Int)) = true := decide_eq_true (by omega)
                 have e : some none = some r := by have h := HE5.out; simp only [if_pos hrest] at h; exact h
                 obtain rfl := Option.some.inj e
                 go_wp2
                 go_ret
                 exact ⟨rfl, B2.out⟩
               · have hrest' : decide ((0 : Int) < (rest.length : Int)) = false := decide_eq_false (by omega)
                 have HE6 := HE5.out
                 simp only [if_neg hrest] at HE6
                 have HE6 := Lib.hid HE6
                 have hlen := layT_len t 0 0 0
                 have hce : cntT t ≤ 64 := by rw [hn] at hcnt; omega
                 have WR := Lib.hid (write_calls w.heap.size t _ w2 B2.out.size M2.out (by omega))
                 have HRA := Lib.hid (And.intro hlen hce)
                 clear hlen hce hcnt HE5 HG G
                 go_wp2_with (go_at_call 54; refine (WR.out).mono ?_)
                 rintro e w3 ⟨A3, c3, rfl, l3, C3, B3, A3'⟩
                 have F3 := Lib.hid (And.intro B3 A3')
                 have EQ : (layT t 0 0 0).length ≤ 1000 := by have := HRA.out; omega
                 have CE := Lib.hid (fun b hb => E.api_Cell.calls 10000 A3 c3 (layT t 0 0 0) (some ad) c0 (c :: l) b w3 C3 l3 (by rw [hn]; exact Kd.C_below HR.out (B2.out.trans B3)) (by rw [hn]; exact HC.out) hb)
                 clear C3 l3 B3 A3'
                 by_cases heq : layT t 0 0 0 = c :: l
                 · have EQ1 : E.api_Cell.f 10000 (layT t 0 0 0) (c :: l) = some true := equal_true EQ heq
                   have e : some (some t) = some r := by have h := HE6.out; rwa [if_pos heq] at h
                   obtain rfl := Option.some.inj e
                   have CE1 := CE.out true EQ1
                   rw [hn] at CE1
                   have CE1 := Lib.hid CE1
                   clear heq EQ EQ1
                   go_wp2_with (go_at_call 53; refine (CE1.out).mono ?_; rintro e w' ⟨rfl, ⟨m4, rfl⟩⟩)
                   go_ret
                   refine ⟨.iface tp (.pointer (some ⟨bt, 0, none⟩)), rfl, ?_, pw_below_drewN (B2.out.trans F3.out.1) _⟩
                   have M3 := kT_alike (w1 := w3) (kT.M_mono (ok' := fun k => k < w2.heap.size) (fun k hk => hk.2.2.1) (kT.M_bound M2.out)) F3.out.2
                   exact kT.M_mono (fun _ _ => trivial) (kT_alike (w1 := w3.drewN m4) M3 (fun k _ => .refl _))
                 · have EQ1 : E.api_Cell.f 10000 (layT t 0 0 0) (c :: l) = some false := equal_false EQ heq
                   have e : some none = some r := by have h := HE6.out; rwa [if_neg heq] at h
                   obtain rfl := Option.some.inj e
                   have CE1 := CE.out false EQ1
                   rw [hn] at CE1
                   have CE1 := Lib.hid CE1
                   clear heq EQ EQ1
                   go_wp2_with (go_at_call 53; refine (CE1.out).mono ?_; rintro e w' ⟨rfl, ⟨m4, rfl⟩⟩)
                   go_ret
                   exact ⟨rfl, pw_below_drewN (B2.out.trans F3.out.1) _⟩
         | succ gk =>
           have hiL : i < (c :: l).length := by have := RI.out; omega
           have hz0 : 0 ≤ z := by have := HZ.out; omega
           have hzn : z < (n : Int) := by have := HZ.out; have := RI.out; omega
           have hz' : decide (z < (n : Int)) = true := decide_eq_true hzn
           obtain ⟨ad', e', q0, q1, q2, q3, q4, q5, q6⟩ := at_T45 (Kd.C_below HR.out RB.out) z hz0 hzn
           cases e'
           have ex : rd_T45 (c :: l) z = (c :: l)[i] := by rw [HZ.out]; exact rd_at _ i hiL
           have hdr : (c :: l).drop i = (c :: l)[i] :: (c :: l).drop (i + 1) := List.drop_eq_getElem_cons hiL
           rw [ex] at q0 q1 q2 q3 q4 q5 q6
           generalize (c :: l)[i] = x at q0 q1 q2 q3 q4 q5 q6 hdr
           have HS := RS.out
           rw [hdr, seenF_step] at HS
           have HS := Lib.hid HS
           have hz0' : (0 ≤ z) = True := eq_true hz0
           have hzn' : (z < (n : Int)) = True := eq_true hzn
           clear RS hdr ex hz0 hzn
           by_cases b1 : x.f4 < 1
           · have b1' : decide (x.f4 < 1) = true := decide_eq_true b1
             have hSF : seenF (c :: l) [] = none := by have h := HS.out; rw [if_pos (by omega)] at h; exact h.symm
             have HE3 := HE2.out
             rw [hSF] at HE3
             obtain rfl := Option.some.inj HE3
             go_wp2
             go_ret
             exact ⟨rfl, RB.out.alloc RB.out.size _⟩
           · have b1' : decide (x.f4 < 1) = false := decide_eq_false b1
             by_cases b2 : 1000 < x.f4
             · have b2' : decide (1000 < x.f4) = true := decide_eq_true b2
               have hSF : seenF (c :: l) [] = none := by have h := HS.out; rw [if_pos (by omega)] at h; exact h.symm
               have HE3 := HE2.out
               rw [hSF] at HE3
               obtain rfl := Option.some.inj HE3
               go_wp2
               go_ret
               exact ⟨rfl, RB.out.alloc RB.out.size _⟩
             · have b2' : decide (1000 < x.f4) = false := decide_eq_false b2
               by_cases b3 : x.f5 < 1
               · have b3' : decide (x.f5 < 1) = true := decide_eq_true b3
                 have hSF : seenF (c :: l) [] = none := by have h := HS.out; rw [if_pos (by omega)] at h; exact h.symm
                 have HE3 := HE2.out
                 rw [hSF] at HE3
                 obtain rfl := Option.some.inj HE3
                 go_wp2
                 go_ret
                 exact ⟨rfl, RB.out.alloc RB.out.size _⟩
               · have b3' : decide (x.f5 < 1) = false := decide_eq_false b3
                 by_cases b4 : 1000 < x.f5
                 · have b4' : decide (1000 < x.f5) = true := decide_eq_true b4
                   have hSF : seenF (c :: l) [] = none := by have h := HS.out; rw [if_pos (by omega)] at h; exact h.symm
                   have HE3 := HE2.out
                   rw [hSF] at HE3
                   obtain rfl := Option.some.inj HE3
                   go_wp2
                   go_ret
                   exact ⟨rfl, RB.out.alloc RB.out.size _⟩
                 · have b4' : decide (1000 < x.f5) = false := decide_eq_false b4
                   have HS1 := HS.out
                   rw [if_neg (by omega)] at HS1
                   clear HS b1 b2 b3 b4
                   by_cases kx : x.f1 = 1
                   · have kx' : (x.f1 == 1) = true := beq_iff_eq.mpr kx
                     rw [if_pos kx] at HS1
                     clear kx
                     by_cases hid : idB x.f6 = false
                     · rw [if_pos (Or.inl hid)] at HS1
                       have HE3 := HE2.out
                       rw [← HS1] at HE3
                       obtain rfl := Option.some.inj HE3
                       go_wp2_with (go_at_call 50; refine (id_calls x.f6 false hid _).mono ?_; rintro e w' ⟨rfl, hw⟩; rw [hw]; clear hw w')
                       go_ret
                       exact ⟨rfl, RB.out.alloc RB.out.size _⟩
                     · have hid1 : idB x.f6 = true := by simpa using hid
                       obtain ⟨cv, hrun, hat, _⟩ := (RM.out.alloc (.cells #[.int .i64 x.f0, .int .i64 x.f1, .int .i64 x.f2, .int .i64 x.f3, .int .i64 x.f4, .int .i64 x.f5, .int .i64 x.f6] 45 (0, 0))).lookup_int law_int Tryd.underlying67 Tryd.underlying3 (zero_int _) (keyOf_int_mk Tryd.underlying3 (id_wf hid1))
                       rw [seenD_at] at hat
                       by_cases hmem : x.f6 ∈ S
                       · rw [if_pos hmem] at hat
                         rw [if_pos (Or.inr hmem)] at HS1
                         obtain rfl : cv = 1 := by injection hat with h; injection h with _ h; exact h.symm
                         have HE3 := HE2.out
                         rw [← HS1] at HE3
                         obtain rfl := Option.some.inj HE3
                         clear hat hmem
                         go_wp2_with (go_at_call 50; refine (id_calls x.f6 true hid1 _).mono ?_; rintro e w' ⟨rfl, hw⟩; rw [hw]; clear hw w')
                         go_ret
                         exact ⟨rfl, RB.out.alloc RB.out.size _⟩
                       · rw [if_neg hmem] at hat
                         rw [if_neg (by rw [hid1]; simp [hmem])] at HS1
                         obtain rfl : cv = 0 := by injection hat with h; injection h with _ h; exact h.symm
                         have HS2 := Lib.hid HS1
                         have HM := Lib.hid hmem
                         have MW := Lib.hid (RM.out.alloc (.cells #[.int .i64 x.f0, .int .i64 x.f1, .int .i64 x.f2, .int .i64 x.f3, .int .i64 x.f4, .int .i64 x.f5, .int .i64 x.f6] 45 (0, 0)))
                         have HK := Lib.hid (keyOf_int_mk Tryd.underlying3 (id_wf hid1))
                         clear HS1 hmem hid hat
                         go_wp2_with (first
                           | (go_at_call 50; refine (id_calls x.f6 true hid1 _).mono ?_; rintro e w' ⟨rfl, hw⟩; rw [hw]; clear hw w')
                           | (at_mapUpdate; refine wpList_mapUpdate_own _ rfl _ _ _ 67 rfl 3 3 law_int Tryd.underlying67 _ w.heap.size i _ rfl MW.out (by have := RI.out; unfold maxLen; omega) _ _ _ rfl rfl HK.out _ [] (plainElem_int Tryd.underlying3 (by decide)) ?_; intro w1 hown1 hgrow1))
                         have hw1 : wrap64 (z + 1) = ((i + 1 : Nat) : Int) := by
                           have := HZ.out
                           have := RI.out
                           exact (IntWalk.wrap64_in _ (by omega)).trans (by omega)
                         go_roundg gk
                         case measure => omega
                         case rel =>
                           refine ⟨wrap64 (z + 1), i + 1, x.f6 :: S, rfl, ⟨hw1⟩, ⟨by have := RI.out; omega⟩, ⟨HS2.out⟩, ⟨List.nodup_cons.2 ⟨HM.out, RD.out.1⟩, by have := RD.out.2; simp; omega⟩, ⟨hown1⟩, ⟨?_⟩⟩
                           exact (RB.out.alloc RB.out.size _).grown hgrow1 (RB.out.alloc RB.out.size (.cells #[.int .i64 x.f0, .int .i64 x.f1, .int .i64 x.f2, .int .i64 x.f3, .int .i64 x.f4, .int .i64 x.f5, .int .i64 x.f6] 45 (0, 0))).size (fun j hj => by cases hj; exact Nat.le_refl _)
                   · have kx' : (x.f1 == 1) = false := beq_eq_false_iff_ne.mpr kx
                     rw [if_neg kx] at HS1
                     clear kx
                     by_cases h6 : x.f6 = 0
                     · have h6' : (x.f6 != 0) = false := bne_eq_false_iff_eq.mpr h6
                       by_cases hkd : kindB x.f1 = false
                       · rw [if_pos (Or.inr hkd)] at HS1
                         have HE3 := HE2.out
                         rw [← HS1] at HE3
                         obtain rfl := Option.some.inj HE3
                         clear h6
                         go_wp2_with (go_at_call 51; refine (kindOf_calls x.f1 false hkd _).mono ?_; rintro e w' ⟨rfl, hw⟩; rw [hw]; clear hw w')
                         go_ret
                         exact ⟨rfl, RB.out.alloc RB.out.size _⟩
                       · have hkd1 : kindB x.f1 = true := by simpa using hkd
                         rw [if_neg (by rw [hkd1, h6]; simp)] at HS1
                         have HS2 := Lib.hid HS1
                         clear HS1 h6 hkd
                         go_wp2_with (go_at_call 51; refine (kindOf_calls x.f1 true hkd1 _).mono ?_; rintro e w' ⟨rfl, hw⟩; rw [hw]; clear hw w')
                         have hw1 : wrap64 (z + 1) = ((i + 1 : Nat) : Int) := by
                           have := HZ.out
                           have := RI.out
                           exact (IntWalk.wrap64_in _ (by omega)).trans (by omega)
                         go_roundg gk
                         case measure => omega
                         case rel =>
                           exact ⟨wrap64 (z + 1), i + 1, S, rfl, ⟨hw1⟩, ⟨by have := RI.out; omega⟩, ⟨HS2.out⟩, ⟨RD.out.1, by have := RD.out.2; omega⟩, ⟨(RM.out.alloc _).mono (by omega)⟩, ⟨RB.out.alloc RB.out.size _⟩⟩
                     · have h6' : (x.f6 != 0) = true := bne_iff_ne.mpr h6
                       rw [if_pos (Or.inl h6)] at HS1
                       have HE3 := HE2.out
                       rw [← HS1] at HE3
                       obtain rfl := Option.some.inj HE3
                       clear h6
                       go_wp2
                       go_ret
                       exact ⟨rfl, RB.out.alloc RB.out.size _⟩
end Go.Proofs.YtmpnkckaohfflaaDoor.PGiv
end
section
namespace Go.Proofs.YtmpnkckaohfflaaDoor.PGiv
open Go.RowKit Go.Proofs.YtmpnkckaohfflaaDoorW.PrintWords Go.Proofs.YtmpnkckaohfflaaDoorW.PrintLast Go.Proofs.YtmpnkckaohfflaaDoorW.PrintMore Go.Proofs.YtmpnkckaohfflaaDoor.K
set_option linter.unusedVariables false
set_option linter.unusedSimpArgs false
def WrBlk (b : Nat) (sl : Value) (n : Int) (p v : Value) (w : World) : Prop := w.heap[b]? = some (.cells #[sl, .int .i64 n, p, v] 53 (0, 0))
abbrev bdr (b : Nat) : Value := .pointer (some ⟨b, 2, none⟩)
def WrAt (b : Nat) (sl : Value) (n : Int) (txt : List UInt8) (w : World) : Prop := ∃ p v, (p = .pointer none ∨ p = bdr b) ∧ WrBlk b sl n p v w ∧ w.ownsRow (b + 1) 5 1 v txt.length (Lib.byteCells txt)
theorem sizeB : (Tryd.prog.info? 51).map (·.size) = some 2 := by kernel_rfl
theorem liesB : liesAt Tryd.prog Tryd.prog.depth 53 (4 / Tryd.prog.cellsOf 53) 2 51 1 = true := by kernel_rfl
theorem info_u8 : (Tryd.prog.info? 5).map (fun i => (i.zero, i.size, i.bytes)) = some (some (.int .u8 0), 1, 1) := by kernel_rfl
set_option maxHeartbeats 1000000 in
set_option maxRecDepth 100000 in
theorem wcopy_used (b : Nat) (sl : Value) (n : Int) (v : Value) (w : World) (h : WrBlk b sl n (bdr b) v w) :
   Calls Tryd.prog 61 #[bdr b] w fun e w' => e = .returned (.tuple #[]) ∧ w' = w := by
 obtain ⟨j, hj, _⟩ := Option.map_eq_some_iff.1 sizeB
 have h0 : w.cell? ⟨b, 2, none⟩ = some (bdr b) := (blk_cell h 2).trans rfl
 go_enter Tryd.func61, Tryd.ntmps61
 go_wp2
 rw [Lib.run_neq_ptr_same w _ Tryd.underlying49 hj]
 go_wp2
 go_end0
 exact ⟨rfl, rfl⟩
set_option maxHeartbeats 1000000 in
set_option maxRecDepth 100000 in
theorem wcopy_fresh (b : Nat) (sl : Value) (n : Int) (v : Value) (w : World) (h : WrBlk b sl n (.pointer none) v w) :
   Calls Tryd.prog 61 #[bdr b] w fun e w' => e = .returned (.tuple #[]) ∧ w' = w.setCell ⟨b, 2, none⟩ (bdr b) := by
 obtain ⟨j, hj, hjs⟩ := Option.map_eq_some_iff.1 sizeB
 have h0 : w.cell? ⟨b, 2, none⟩ = some (.pointer none) := (blk_cell h 2).trans rfl
 have hfz : w.frozen? ⟨b, 2, none⟩ = false := blk_frozen h 2
 have hsh : w.shape? b = some (53, 4) := by
   have h' : w.heap[b]? = some (.cells #[sl, .int .i64 n, .pointer none, v] 53 (0, 0)) := h
   simp [World.shape?, h']
 go_enter Tryd.func61, Tryd.ntmps61
 go_wp2
 rw [Lib.run_to_unsafe w ⟨b, 2, none⟩ Tryd.underlying49 Tryd.underlying128 hj (by rw [hjs]; decide) hsh (by show 2 < 4; omega)]
 simp only [Result.andThen]
 rw [Oper.upon_value]
 go_wp2
 rw [run_callFunc_extern Tryd.func72 (by kernel_rfl) (by kernel_rfl) (by kernel_rfl) (e := Extern.AbiNoEscape.same) (by kernel_rfl)]
 rw [Lib.run_noEscape]
 simp only [Result.andThen]
 rw [Oper.upon_value]
 go_wp2
 rw [Lib.run_from_unsafe w ⟨b, 2, none⟩ Tryd.underlying128 Tryd.underlying49 hj hsh liesB]
 simp only [Result.andThen]
 rw [Oper.upon_value]
 go_wp2
 go_end0
 exact ⟨rfl, rfl⟩
theorem wcopy (b : Nat) (sl : Value) (n : Int) (txt : List UInt8) (w : World) (h : WrAt b sl n txt w) :
   Calls Tryd.prog 61 #[bdr b] w fun e w' => e = .returned (.tuple #[]) ∧ (∃ v, WrBlk b sl n (bdr b) v w' ∧ w'.ownsRow (b + 1) 5 1 v txt.length (Lib.byteCells txt)) ∧ Below b w w' ∧ Lib.OthersKept 5 (some b) w w' := by
 obtain ⟨p, v, rfl | rfl, hb, ho⟩ := h
 · refine (wcopy_fresh b sl n v w hb).mono ?_
   rintro e w' ⟨rfl, rfl⟩
   refine ⟨rfl, ⟨v, blk_put hb 2 (bdr b) rfl, own_move ho (fun k hk => ?_)⟩, (Below.refl _ _).setCell (p := ⟨b, 2, none⟩) (Nat.le_refl _) _, (Lib.OthersKept.refl _ _ _).setCell ⟨b, 2, none⟩ rfl _⟩
   exact Below.heap_setCell _ _ _ k (by have := own_base ho k hk; show k ≠ b; omega)
 · refine (wcopy_used b sl n v w hb).mono ?_
   rintro e w' ⟨rfl, rfl⟩
   exact ⟨rfl, ⟨v, hb, ho⟩, Below.refl _ _, Lib.OthersKept.refl _ _ _⟩
set_option maxHeartbeats 2000000 in
set_option maxRecDepth 100000 in
theorem wstr (b : Nat) (sl : Value) (n : Int) (txt : List UInt8) (s : ByteArray) (w : World) (h : WrAt b sl n txt w) (hlen : txt.length + s.size ≤ 140737488355328) :
   Calls Tryd.prog 37 #[bdr b, .string s] w fun e w' => e = .returned (.tuple #[.int .i64 s.size, .nilIface]) ∧ WrAt b sl n (txt ++ s.data.toList) w' ∧ Below b w w' ∧ Lib.OthersKept 5 (some b) w w' := by
 obtain ⟨i0, hi, hz⟩ := Option.map_eq_some_iff.1 info_u8
 simp only [Prod.mk.injEq] at hz
 obtain ⟨hz0, hz1, hz2⟩ := hz
 have HW := Lib.hid (wcopy b sl n txt w h)
 go_enter Tryd.func37, Tryd.ntmps37
 go_wp2_with (go_at_call 61; refine (HW.out).mono ?_)
 rintro e w1 ⟨rfl, ⟨v, hbk, hown⟩, hb1, hk1⟩
 have c1 : w1.cell? ⟨b, 3, none⟩ = some v := (blk_cell hbk 3).trans rfl
 have hbn : b < w1.heap.size := blk_lt hbk
 go_wp2_with (at_builtin; refine Lib.wpList_append_own_string _ rfl _ _ 37 9 rfl (b + 1) 5 i0 Tryd.underlying37 Tryd.underlying9 hi hz0 hz1 hz2 _ _ _ rfl hown s rfl ?c3 ?c4 ?c5 ?_)
 case c3 => unfold maxLen; omega
 case c4 => omega
 case c5 => omega
 intro v' w2 hown' hgrow _
 have hne : some b ≠ v.ownBlock := fun e => by have := own_base hown b e.symm; omega
 have hb2 : WrBlk b sl n (bdr b) v w2 := (hgrow.block b hbn hne).trans hbk
 have d1 : w2.cell? ⟨b, 3, none⟩ = some v := (blk_cell hb2 3).trans rfl
 have f1 : w2.frozen? ⟨b, 3, none⟩ = false := blk_frozen hb2 3
 obtain ⟨ao, n', cap, rfl⟩ : ∃ ao n' cap, v' = .slice ao n' cap := by
   rcases hown'.2 with ⟨hv, _⟩ | ⟨g, cap, cur, hv, _⟩
   · exact ⟨_, _, _, hv⟩
   · exact ⟨_, _, _, hv⟩
 have F := Lib.hid (And.intro hbk (And.intro hown (And.intro hb1 (And.intro hk1 (And.intro hown' hgrow)))))
 clear hbk hown hb1 hk1 hown' hgrow hne
 go_wp2
 go_ret2
 obtain ⟨hbk, hown, hb1, hk1, hown', hgrow⟩ := F.out
 refine ⟨rfl, ⟨bdr b, _, .inr rfl, blk_put hb2 3 _ rfl, ?_⟩, ?_, ?_⟩
 · have := own_move (w1 := w2.setCell ⟨b, 3, none⟩ (.slice ao n' cap)) hown' (fun k hk => Below.heap_setCell _ _ _ k (by have := own_base hown' k hk; show k ≠ b; omega))
   simpa [Lib.byteCells, Lib.strCells] using this
 · exact (hb1.grown hgrow (Nat.le_of_lt hbn) (fun k hk => by have := own_base hown k hk; omega)).setCell (p := ⟨b, 3, none⟩) (Nat.le_refl _) _
 · refine (hk1.grown hgrow (fun g hg => ?_)).setCell ⟨b, 3, none⟩ rfl _
   obtain ⟨cells, hc⟩ := own_typed hown g hg
   exact ⟨cells, _, hc⟩
set_option maxHeartbeats 2000000 in
set_option maxRecDepth 100000 in
theorem wbyte (b : Nat) (sl : Value) (n : Int) (txt : List UInt8) (c : UInt8) (w : World) (h : WrAt b sl n txt w) (hlen : txt.length + 1 ≤ 140737488355328) :
   Calls Tryd.prog 39 #[bdr b, .int .u8 c.toNat] w fun e w' => e = .returned .nilIface ∧ WrAt b sl n (txt ++ [c]) w' ∧ Below b w w' ∧ Lib.OthersKept 5 (some b) w w' := by
 obtain ⟨i0, hi, hz⟩ := Option.map_eq_some_iff.1 info_u8
 simp only [Prod.mk.injEq] at hz
 obtain ⟨hz0, hz1, hz2⟩ := hz
 have HW := Lib.hid (wcopy b sl n txt w h)
 go_enter Tryd.func39, Tryd.ntmps39
 go_wp2_with (go_at_call 61; refine (HW.out).mono ?_)
 rintro e w1 ⟨rfl, ⟨v, hbk, hown⟩, hb1, hk1⟩
 have c1 : w1.cell? ⟨b, 3, none⟩ = some v := (blk_cell hbk 3).trans rfl
 have hbn : b < w1.heap.size := blk_lt hbk
 go_wp2_with (at_builtin; refine wpList_append_own _ rfl _ _ 37 rfl (b + 1) 5 i0 (.int .u8 0) 1 1 Tryd.underlying37 hi hz0 hz1 hz2 rfl (by decide) _ _ _ rfl (own_move hown (fun k hk => Below.heap_alloc _ _ k (own_lt hown k hk))) ⟨w1.heap.size, 0, none⟩ 1 1 [.int .u8 c.toNat] rfl rfl ?c1 ?c2 ?c3 ?c4 ?c5 ?_)
 case c1 =>
   intro j u hj
   match j, hj with
   | 0, hj => simp at hj; subst hj; simp [Addr.add]
 case c2 => intro u hu; simp at hu; subst hu; rfl
 case c3 => unfold maxLen; omega
 case c4 => omega
 case c5 => simp; omega
 intro v' w2 hown' hgrow _
 have hne : some b ≠ v.ownBlock := fun e => by have := own_base hown b e.symm; omega
 have hb2 : WrBlk b sl n (bdr b) v w2 := (hgrow.block b (by simp; omega) hne).trans ((Below.heap_alloc _ _ b hbn).trans hbk)
 have d1 : w2.cell? ⟨b, 3, none⟩ = some v := (blk_cell hb2 3).trans rfl
 have f1 : w2.frozen? ⟨b, 3, none⟩ = false := blk_frozen hb2 3
 obtain ⟨ao, n', cap, rfl⟩ : ∃ ao n' cap, v' = .slice ao n' cap := by
   rcases hown'.2 with ⟨hv, _⟩ | ⟨g, cap, cur, hv, _⟩
   · exact ⟨_, _, _, hv⟩
   · exact ⟨_, _, _, hv⟩
 have F := Lib.hid (And.intro hbk (And.intro hown (And.intro hb1 (And.intro hk1 (And.intro hown' hgrow)))))
 clear hbk hown hb1 hk1 hown' hgrow hne
 go_wp2
 go_ret
 obtain ⟨hbk, hown, hb1, hk1, hown', hgrow⟩ := F.out
 refine ⟨rfl, ⟨bdr b, _, .inr rfl, blk_put hb2 3 _ rfl, ?_⟩, ?_, ?_⟩
 · have := own_move (w1 := w2.setCell ⟨b, 3, none⟩ (.slice ao n' cap)) hown' (fun k hk => Below.heap_setCell _ _ _ k (by have := own_base hown' k hk; show k ≠ b; omega))
   simpa [Lib.byteCells] using this
 · exact ((hb1.alloc (Nat.le_of_lt hbn) _).grown hgrow (by simp; omega) (fun k hk => by have := own_base hown k hk; omega)).setCell (p := ⟨b, 3, none⟩) (Nat.le_refl _) _
 · refine ((hk1.alloc _).grown hgrow (fun g hg => ?_)).setCell ⟨b, 3, none⟩ rfl _
   obtain ⟨cells, hc⟩ := own_typed hown g hg
   exact ⟨cells, _, (Below.heap_alloc _ _ g (own_lt hown g hg)).trans hc⟩
set_option maxHeartbeats 1000000 in
set_option maxRecDepth 100000 in
theorem wtext (b : Nat) (sl : Value) (n : Int) (l : List UInt8) (w : World) (h : WrAt b sl n l w) (h0 : l ≠ []) :
   Calls Tryd.prog 23 #[bdr b] w fun e w' => e = .returned (.string ⟨l.toArray⟩) ∧ Below b w w' := by
 obtain ⟨p, v, _, hbk, hown⟩ := h
 have hl0 : l.length ≠ 0 := by simpa using h0
 obtain ⟨g, cap, cur, rfl, hbg, hg, hnc, hcm, hcs, htake⟩ : ∃ g cap cur, v = .slice (some ⟨g, 0, none⟩) l.length cap ∧ b + 1 ≤ g ∧ w.heap[g]? = some (.cells cur 5 (0, 0)) ∧ l.length ≤ cap ∧ cap ≤ maxLen ∧ cur.size = cap * 1 ∧ cur.toList.take (l.length * 1) = Lib.byteCells l := by
   rcases hown.2 with ⟨_, hz⟩ | ⟨g, cap, cur, hv, r⟩
   · exact absurd hz hl0
   · exact ⟨g, cap, cur, hv, r⟩
 have c1 : w.drew.cell? ⟨b, 3, none⟩ = some (.slice (some ⟨g, 0, none⟩) l.length cap) := by
   have : w.drew.heap[b]? = some (.cells #[sl, .int .i64 n, p, .slice (some ⟨g, 0, none⟩) l.length cap] 53 (0, 0)) := hbk
   rw [Lib.cell_of_heap this]; rfl
 have hSD : (Builtin.unsafeSliceData_ #[37] 80 #[.slice (some ⟨g, 0, none⟩) l.length cap]).run Tryd.prog w.drew = .ok (.pointer (some ⟨g, 0, none⟩)) w.drew :=
   Lib.run_unsafeSliceData_row _ _ _ _ _ _ (by omega)
 have hUS : (Builtin.unsafeString_ #[80, 3] 9 #[.pointer (some ⟨g, 0, none⟩), .int .i64 l.length]).run Tryd.prog w.drew = .ok (.string ⟨l.toArray⟩) (w.drew.freeze ⟨g, 0, none⟩ l.length) := by
   refine Lib.run_unsafeString_row w.drew 80 3 9 5 Tryd.underlying80 (by kernel_rfl) g cur.size (by have hg' : w.drew.heap[g]? = some (.cells cur 5 (0, 0)) := hg; simp [World.shape?, hg']) l h0 (by omega) (by unfold maxLen at hcm; omega) ?_
   intro j x hx
   have := hown.cells (g := g) rfl j (.int .u8 x.toNat) (by simp [Lib.byteCells, hx])
   exact this
 go_enter Tryd.func23, Tryd.ntmps23
 go_wp2
 go_region
 all_goals (go_wp2; go_ret; exact ⟨rfl, Lib.below_freeze (Below.drew (Below.refl b w)) (p := ⟨g, 0, none⟩) (by show b ≤ g; omega) _⟩)
end Go.Proofs.YtmpnkckaohfflaaDoor.PGiv
end
section
namespace Go.Proofs
open Go.Shelf
def Tryd.lays137_ren : Go.Shelf.Ren := ⟨fun | 137 => 29 | 217 => 42 | 266 => 63 | n => n, fun | 9 => 9 | 5 => 5 | 3 => 3 | n => n, fun | n => n⟩
theorem Tryd.lays137 : Go.Proofs.Lays.n137 Tryd.prog Tryd.lays137_ren := {
 mixed := by kernel_rfl
 f137 := Tryd.func29.trans (congrArg some (by kernel_rfl))
 f217 := Tryd.func42.trans (congrArg some (by kernel_rfl))
 f266 := Tryd.func63.trans (congrArg some (by kernel_rfl))
 t3 := Tryd.underlying3
 a3 := Tryd.isAgg3
 z3 := Tryd.sizeOf3
 v3 := Tryd.zeroValue3
 t5 := Tryd.underlying5
 a5 := Tryd.isAgg5
 z5 := Tryd.sizeOf5
 v5 := Tryd.zeroValue5
 t9 := Tryd.underlying9
 a9 := Tryd.isAgg9
 z9 := Tryd.sizeOf9
 v9 := Tryd.zeroValue9 }
open Go.RowKit in
theorem Tryd.strings_IndexByte (s : ByteArray) (c : Int) (w : World) :
   Calls Tryd.prog 29 #[.string s, .int .u8 c] w fun e w' => e = .returned (.int .i64 (Lib.indexByte s.data.toList c.toNat.toUInt8)) ∧ w' = w := Any.strings_IndexByte Tryd.lays137 s c w
def Tryd.laysM171_ren : Go.Shelf.Ren := ⟨fun | 171 => 62 | 243 => 73 | 246 => 75 | 283 => 77 | 284 => 78 | 285 => 79 | 286 => 80 | 129 => 84 | 317 => 83 | 318 => 85 | 319 => 86 | 320 => 87 | 337 => 93 | 338 => 94 | n => n, fun | 3 => 3 | 9 => 9 | 2 => 2 | 4 => 4 | 171 => 132 | 0 => 0 | 53 => 133 | 37 => 37 | 5 => 5 | 173 => 136 | 212 => 140 | 51 => 141 | 20 => 20 | 213 => 142 | 46 => 81 | 232 => 157 | 233 => 158 | n => n, fun | 17 => 1 | 18 => 4 | 19 => 5 | n => n⟩
theorem Tryd.laysM171 : Go.Proofs.LaysM.n171 Tryd.prog Tryd.laysM171_ren := {
 mixed := by kernel_rfl
 f129 := Tryd.func84.trans (congrArg some (by kernel_rfl))
 f171 := Tryd.func62.trans (congrArg some (by kernel_rfl))
 f243 := Tryd.func73.trans (congrArg some (by kernel_rfl))
 f246 := Tryd.func75.trans (congrArg some (by kernel_rfl))
 f283 := Tryd.func77.trans (congrArg some (by kernel_rfl))
 f284 := Tryd.func78.trans (congrArg some (by kernel_rfl))
 f285 := Tryd.func79.trans (congrArg some (by kernel_rfl))
 f286 := Tryd.func80.trans (congrArg some (by kernel_rfl))
 f317 := Tryd.func83.trans (congrArg some (by kernel_rfl))
 f318 := Tryd.func85.trans (congrArg some (by kernel_rfl))
 f319 := Tryd.func86.trans (congrArg some (by kernel_rfl))
 f320 := Tryd.func87.trans (congrArg some (by kernel_rfl))
 f337 := Tryd.func93.trans (congrArg some (by kernel_rfl))
 f338 := Tryd.func94.trans (congrArg some (by kernel_rfl))
 t0 := Tryd.underlying0
 a0 := Tryd.isAgg0
 z0 := Tryd.sizeOf0
 v0 := Tryd.zeroValue0
 t2 := Tryd.underlying2
 a2 := Tryd.isAgg2
 z2 := Tryd.sizeOf2
 v2 := Tryd.zeroValue2
 t3 := Tryd.underlying3
 a3 := Tryd.isAgg3
 z3 := Tryd.sizeOf3
 v3 := Tryd.zeroValue3
 t4 := Tryd.underlying4
 a4 := Tryd.isAgg4
 z4 := Tryd.sizeOf4
 v4 := Tryd.zeroValue4
 t5 := Tryd.underlying5
 a5 := Tryd.isAgg5
 z5 := Tryd.sizeOf5
 v5 := Tryd.zeroValue5
 t9 := Tryd.underlying9
 a9 := Tryd.isAgg9
 z9 := Tryd.sizeOf9
 v9 := Tryd.zeroValue9
 t20 := Tryd.underlying20
 a20 := Tryd.isAgg20
 z20 := Tryd.sizeOf20
 v20 := Tryd.zeroValue20
 t37 := Tryd.underlying37
 a37 := Tryd.isAgg37
 z37 := Tryd.sizeOf37
 v37 := Tryd.zeroValue37
 t46 := Tryd.underlying81
 a46 := Tryd.isAgg81
 z46 := Tryd.sizeOf81
 v46 := Tryd.zeroValue81
 t51 := Tryd.underlying141
 a51 := Tryd.isAgg141
 z51 := Tryd.sizeOf141
 v51 := Tryd.zeroValue141
 t53 := Tryd.underlying133
 a53 := Tryd.isAgg133
 z53 := Tryd.sizeOf133
 v53 := Tryd.zeroValue133
 t171 := Tryd.underlying132
 a171 := Tryd.isAgg132
 z171 := Tryd.sizeOf132
 v171 := Tryd.zeroValue132
 t173 := Tryd.underlying136
 a173 := Tryd.isAgg136
 z173 := Tryd.sizeOf136
 v173 := Tryd.zeroValue136
 t212 := Tryd.underlying140
 a212 := Tryd.isAgg140
 z212 := Tryd.sizeOf140
 v212 := Tryd.zeroValue140
 t213 := Tryd.underlying142
 a213 := Tryd.isAgg142
 z213 := Tryd.sizeOf142
 t232 := Tryd.underlying157
 a232 := Tryd.isAgg157
 z232 := Tryd.sizeOf157
 v232 := Tryd.zeroValue157
 t233 := Tryd.underlying158
 a233 := Tryd.isAgg158
 z233 := Tryd.sizeOf158
 v233 := Tryd.zeroValue158
 g17 := by kernel_rfl
 g18 := by kernel_rfl
 g19 := by kernel_rfl
 i0 := by kernel_rfl
 i2 := by kernel_rfl
 i3 := by kernel_rfl
 i4 := by kernel_rfl
 i5 := by kernel_rfl
 i9 := by kernel_rfl
 i20 := by kernel_rfl
 i37 := by kernel_rfl
 i46 := by kernel_rfl
 i51 := by kernel_rfl
 i53 := by kernel_rfl
 i171 := by kernel_rfl
 i173 := by kernel_rfl
 i212 := by kernel_rfl
 i232 := by kernel_rfl
 i233 := by kernel_rfl
 m17 := by kernel_rfl
 m18 := by kernel_rfl
 m19 := by kernel_rfl }
open Go.RowKit Go.Sort Go.Lib in
theorem Tryd.strconv_Itoa (n : Int) (h0 : -9223372036854775808 ≤ n) (h1 : n ≤ 9223372036854775807) (w : World) (htab : Lib.TabIs Tryd.prog w "internal/strconv.uint64pow10" .u64 Lib.pow10Tab) :
   Calls Tryd.prog 62 #[.int .i64 n] w fun e w' => e = .returned (.string ⟨(Lib.itoa n).toArray⟩) ∧ ∃ k os, w' = grow (w.drewN k) os := Any.strconv_Itoa Tryd.laysM171 n h0 h1 w htab
def Tryd.laysC172_ren : Go.Shelf.Ren := ⟨fun | 172 => 76 | 244 => 81 | 245 => 82 | 247 => 88 | 279 => 89 | 280 => 90 | 281 => 91 | 282 => 92 | 287 => 95 | 316 => 96 | 171 => 62 | 205 => 97 | 321 => 98 | 322 => 99 | 243 => 73 | 246 => 75 | 283 => 77 | 284 => 78 | 285 => 79 | 286 => 80 | 129 => 84 | 317 => 83 | 318 => 85 | 319 => 86 | 320 => 87 | 337 => 93 | 338 => 94 | n => n, fun | 9 => 9 | 3 => 3 | 75 => 76 | 76 => 77 | 4 => 4 | 5 => 5 | 167 => 144 | 37 => 37 | 0 => 0 | 85 => 145 | 2 => 2 | 168 => 147 | 53 => 133 | 175 => 151 | 46 => 81 | 210 => 155 | 127 => 80 | 145 => 162 | 143 => 160 | 21 => 21 | 171 => 132 | 173 => 136 | 212 => 140 | 51 => 141 | 20 => 20 | 213 => 142 | 232 => 157 | 233 => 158 | 80 => 54 | n => n, fun | 15 => 2 | 16 => 3 | 17 => 1 | 18 => 4 | 19 => 5 | n => n⟩
theorem Tryd.laysC172 : Go.Proofs.LaysC.n172 Tryd.prog Tryd.laysC172_ren := {
 mixed := by kernel_rfl
 f129 := Tryd.func84.trans (congrArg some (by kernel_rfl))
 f171 := Tryd.func62.trans (congrArg some (by kernel_rfl))
 f172 := Tryd.func76.trans (congrArg some (by kernel_rfl))
 f205 := Tryd.func97.trans (congrArg some (by kernel_rfl))
 f243 := Tryd.func73.trans (congrArg some (by kernel_rfl))
 f244 := Tryd.func81.trans (congrArg some (by kernel_rfl))
 f245 := Tryd.func82.trans (congrArg some (by kernel_rfl))
 f246 := Tryd.func75.trans (congrArg some (by kernel_rfl))
 f247 := Tryd.func88.trans (congrArg some (by kernel_rfl))
 f279 := Tryd.func89.trans (congrArg some (by kernel_rfl))
 f280 := Tryd.func90.trans (congrArg some (by kernel_rfl))
 f281 := Tryd.func91.trans (congrArg some (by kernel_rfl))
 f282 := Tryd.func92.trans (congrArg some (by kernel_rfl))
 f283 := Tryd.func77.trans (congrArg some (by kernel_rfl))
 f284 := Tryd.func78.trans (congrArg some (by kernel_rfl))
 f285 := Tryd.func79.trans (congrArg some (by kernel_rfl))
 f286 := Tryd.func80.trans (congrArg some (by kernel_rfl))
 f287 := Tryd.func95.trans (congrArg some (by kernel_rfl))
 f316 := Tryd.func96.trans (congrArg some (by kernel_rfl))
 f317 := Tryd.func83.trans (congrArg some (by kernel_rfl))
 f318 := Tryd.func85.trans (congrArg some (by kernel_rfl))
 f319 := Tryd.func86.trans (congrArg some (by kernel_rfl))
 f320 := Tryd.func87.trans (congrArg some (by kernel_rfl))
 f321 := Tryd.func98.trans (congrArg some (by kernel_rfl))
 f322 := Tryd.func99.trans (congrArg some (by kernel_rfl))
 f337 := Tryd.func93.trans (congrArg some (by kernel_rfl))
 f338 := Tryd.func94.trans (congrArg some (by kernel_rfl))
 t0 := Tryd.underlying0
 a0 := Tryd.isAgg0
 z0 := Tryd.sizeOf0
 v0 := Tryd.zeroValue0
 t2 := Tryd.underlying2
 a2 := Tryd.isAgg2
 z2 := Tryd.sizeOf2
 v2 := Tryd.zeroValue2
 t3 := Tryd.underlying3
 a3 := Tryd.isAgg3
 z3 := Tryd.sizeOf3
 v3 := Tryd.zeroValue3
 t4 := Tryd.underlying4
 a4 := Tryd.isAgg4
 z4 := Tryd.sizeOf4
 v4 := Tryd.zeroValue4
 t5 := Tryd.underlying5
 a5 := Tryd.isAgg5
 z5 := Tryd.sizeOf5
 v5 := Tryd.zeroValue5
 t9 := Tryd.underlying9
 a9 := Tryd.isAgg9
 z9 := Tryd.sizeOf9
 v9 := Tryd.zeroValue9
 t20 := Tryd.underlying20
 a20 := Tryd.isAgg20
 z20 := Tryd.sizeOf20
 v20 := Tryd.zeroValue20
 t21 := Tryd.underlying21
 a21 := Tryd.isAgg21
 z21 := Tryd.sizeOf21
 v21 := Tryd.zeroValue21
 t37 := Tryd.underlying37
 a37 := Tryd.isAgg37
 z37 := Tryd.sizeOf37
 v37 := Tryd.zeroValue37
 t46 := Tryd.underlying81
 a46 := Tryd.isAgg81
 z46 := Tryd.sizeOf81
 v46 := Tryd.zeroValue81
 t51 := Tryd.underlying141
 a51 := Tryd.isAgg141
 z51 := Tryd.sizeOf141
 v51 := Tryd.zeroValue141
 t53 := Tryd.underlying133
 a53 := Tryd.isAgg133
 z53 := Tryd.sizeOf133
 v53 := Tryd.zeroValue133
 t75 := Tryd.underlying76
 a75 := Tryd.isAgg76
 z75 := Tryd.sizeOf76
 v75 := Tryd.zeroValue76
 t76 := Tryd.underlying77
 a76 := Tryd.isAgg77
 z76 := Tryd.sizeOf77
 v76 := Tryd.zeroValue77
 t85 := Tryd.underlying145
 a85 := Tryd.isAgg145
 z85 := Tryd.sizeOf145
 v85 := Tryd.zeroValue145
 t127 := Tryd.underlying80
 a127 := Tryd.isAgg80
 z127 := Tryd.sizeOf80
 v127 := Tryd.zeroValue80
 t143 := Tryd.underlying160
 a143 := Tryd.isAgg160
 z143 := Tryd.sizeOf160
 v143 := Tryd.zeroValue160
 t145 := Tryd.underlying162
 a145 := Tryd.isAgg162
 z145 := Tryd.sizeOf162
 v145 := Tryd.zeroValue162
 t167 := Tryd.underlying144
 a167 := Tryd.isAgg144
 z167 := Tryd.sizeOf144
 v167 := Tryd.zeroValue144
 t168 := Tryd.underlying147
 a168 := Tryd.isAgg147
 z168 := Tryd.sizeOf147
 v168 := Tryd.zeroValue147
 t171 := Tryd.underlying132
 a171 := Tryd.isAgg132
 z171 := Tryd.sizeOf132
 v171 := Tryd.zeroValue132
 t173 := Tryd.underlying136
 a173 := Tryd.isAgg136
 z173 := Tryd.sizeOf136
 v173 := Tryd.zeroValue136
 t175 := Tryd.underlying151
 a175 := Tryd.isAgg151
 z175 := Tryd.sizeOf151
 v175 := Tryd.zeroValue151
 t210 := Tryd.underlying155
 a210 := Tryd.isAgg155
 z210 := Tryd.sizeOf155
 v210 := Tryd.zeroValue155
 t212 := Tryd.underlying140
 a212 := Tryd.isAgg140
 z212 := Tryd.sizeOf140
 v212 := Tryd.zeroValue140
 t213 := Tryd.underlying142
 a213 := Tryd.isAgg142
 z213 := Tryd.sizeOf142
 t232 := Tryd.underlying157
 a232 := Tryd.isAgg157
 z232 := Tryd.sizeOf157
 v232 := Tryd.zeroValue157
 t233 := Tryd.underlying158
 a233 := Tryd.isAgg158
 z233 := Tryd.sizeOf158
 v233 := Tryd.zeroValue158
 g15 := by kernel_rfl
 g16 := by kernel_rfl
 g17 := by kernel_rfl
 g18 := by kernel_rfl
 g19 := by kernel_rfl
 t80 := Tryd.underlying54
 a80 := Tryd.isAgg54
 z80 := Tryd.sizeOf54
 v80 := Tryd.zeroValue54
 i0 := by kernel_rfl
 i2 := by kernel_rfl
 i3 := by kernel_rfl
 i4 := by kernel_rfl
 i5 := by kernel_rfl
 i9 := by kernel_rfl
 i20 := by kernel_rfl
 i21 := by kernel_rfl
 i37 := by kernel_rfl
 i46 := by kernel_rfl
 i51 := by kernel_rfl
 i53 := by kernel_rfl
 i75 := by kernel_rfl
 i76 := by kernel_rfl
 i80 := by kernel_rfl
 i85 := by kernel_rfl
 i127 := by kernel_rfl
 i143 := by kernel_rfl
 i145 := by kernel_rfl
 i167 := by kernel_rfl
 i168 := by kernel_rfl
 i171 := by kernel_rfl
 i173 := by kernel_rfl
 i175 := by kernel_rfl
 i210 := by kernel_rfl
 i212 := by kernel_rfl
 i232 := by kernel_rfl
 i233 := by kernel_rfl
 m15 := by kernel_rfl
 m16 := by kernel_rfl
 m17 := by kernel_rfl
 m18 := by kernel_rfl
 m19 := by kernel_rfl
 c0 := by kernel_rfl
 c2 := by kernel_rfl
 c3 := by kernel_rfl
 c4 := by kernel_rfl
 c5 := by kernel_rfl
 c9 := by kernel_rfl
 c20 := by kernel_rfl
 c21 := by kernel_rfl
 c37 := by kernel_rfl
 c46 := by kernel_rfl
 c51 := by kernel_rfl
 c53 := by kernel_rfl
 c75 := by kernel_rfl
 c76 := by kernel_rfl
 c80 := by kernel_rfl
 c85 := by kernel_rfl
 c127 := by kernel_rfl
 c143 := by kernel_rfl
 c145 := by kernel_rfl
 c167 := by kernel_rfl
 c168 := by kernel_rfl
 c171 := by kernel_rfl
 c173 := by kernel_rfl
 c175 := by kernel_rfl
 c210 := by kernel_rfl
 c212 := by kernel_rfl
 c213 := by kernel_rfl
 c232 := by kernel_rfl
 c233 := by kernel_rfl }
open Go.RowKit in
theorem Tryd.strconv_Atoi_ok (s : ByteArray) (hmax : s.size ≤ 9223372036854775806) (v : Int) (h : Lib.atoiAll s.data.toList = .ok v) (w : World) :
   Calls Tryd.prog 76 #[.string s] w fun e w' => e = .returned (.tuple #[.int .i64 v, .nilIface]) ∧ (w' = w ∨ ∃ t, w' = Lib.bytesWorld w 5 t) := Any.strconv_Atoi_ok Tryd.laysC172 s hmax v h w
open Go.RowKit in
theorem Tryd.strconv_Atoi_syntax_var (s : ByteArray) (hlim : s.size ≤ 281474976710656) (h : Lib.atoiAll s.data.toList = (Lib.atoiAll [])) (tp : TypeId) (p : Value) (w : World) (hvar : w.var? Tryd.prog "strconv.ErrSyntax" = some #[.iface tp p]) :
   Calls Tryd.prog 76 #[.string s] w fun e w' => ∃ N, e = .returned (.tuple #[.int .i64 0, .iface 147 (.pointer (some ⟨N, 0, none⟩))]) ∧ w.heap.size ≤ N ∧ w'.heap[N]? = some (.cells #[.string ⟨#[65, 116, 111, 105]⟩, .string s, .iface tp p] 155 (0, 0)) ∧ Below w.heap.size w w' := Any.strconv_Atoi_syntax_var Tryd.laysC172 s hlim h tp p w hvar
open Go.RowKit in
theorem Tryd.strconv_Atoi_range_var (s : ByteArray) (hlim : s.size ≤ 281474976710656) (h : Lib.atoiAll s.data.toList = .range) (tp : TypeId) (p : Value) (w : World) (hvar : w.var? Tryd.prog "strconv.ErrRange" = some #[.iface tp p]) :
   Calls Tryd.prog 76 #[.string s] w fun e w' => ∃ N, e = .returned (.tuple #[.int .i64 (Lib.atoiSat s.data.toList), .iface 147 (.pointer (some ⟨N, 0, none⟩))]) ∧ w.heap.size ≤ N ∧ w'.heap[N]? = some (.cells #[.string ⟨#[65, 116, 111, 105]⟩, .string s, .iface tp p] 155 (0, 0)) ∧ Below w.heap.size w w' := Any.strconv_Atoi_range_var Tryd.laysC172 s hlim h tp p w hvar
end Go.Proofs
end
section
namespace Go.Proofs.YtmpnkckaohfflaaDoor.Num
def putNum (n : Int) : List UInt8 := if n < 0 ∨ 4611686018427387904 < n then [] else Lib.itoa n
def numOf (l : List UInt8) : Int × Bool :=
 match Lib.atoiAll l with
 | .ok v => if v < 0 then (0, false) else if l = putNum v then (v, true) else (0, false)
 | _ => (0, false)
theorem putNum_out (n : Int) (h : n < 0 ∨ 4611686018427387904 < n) : putNum n = [] := if_pos h
theorem putNum_in (n : Int) (h0 : 0 ≤ n) (h1 : n ≤ 4611686018427387904) : putNum n = Lib.itoa n := if_neg (by omega)
theorem numOf_ok {l : List UInt8} {v : Int} (h : Lib.atoiAll l = .ok v) : numOf l = if v < 0 then (0, false) else if l = putNum v then (v, true) else (0, false) := by
 unfold numOf
 rw [h]
theorem numOf_bad {l : List UInt8} (h : ∀ v, Lib.atoiAll l ≠ .ok v) : numOf l = (0, false) := by
 unfold numOf
 split
 · rename_i v hv
   exact absurd hv (h v)
 · rfl
end Go.Proofs.YtmpnkckaohfflaaDoor.Num
namespace Go.Proofs.YtmpnkckaohfflaaDoor.NGiv
open Go.RowKit Go.Proofs.YtmpnkckaohfflaaDoor.Num Go.Proofs.YtmpnkckaohfflaaDoorW.PrintWords
set_option linter.unusedVariables false
set_option linter.unusedSimpArgs false
theorem gTen : Tryd.prog.globalNamed "internal/strconv.uint64pow10" = some 1 := by kernel_rfl
theorem gRng : Tryd.prog.globalNamed "strconv.ErrRange" = some 3 := by kernel_rfl
theorem gSyn : Tryd.prog.globalNamed "strconv.ErrSyntax" = some 2 := by kernel_rfl
structure Glb (w : World) : Prop where
 ten : Lib.TabIs Tryd.prog w "internal/strconv.uint64pow10" .u64 Lib.pow10Tab
 rng : ∃ tp p, w.var? Tryd.prog "strconv.ErrRange" = some #[.iface tp p]
 syn : ∃ tp p, w.var? Tryd.prog "strconv.ErrSyntax" = some #[.iface tp p]
theorem Glb.below {w W : World} (h : Glb w) (hb : Below w.heap.size w W) : Glb W := by
 obtain ⟨h1, ⟨a, b, h2⟩, ⟨c, d, h3⟩⟩ := h
 exact ⟨Joins.tab_stays gTen h1 hb (Nat.le_refl _), ⟨a, b, Joins.var_stays gRng h2 hb (Nat.le_refl _)⟩, ⟨c, d, Joins.var_stays gSyn h3 hb (Nat.le_refl _)⟩⟩
theorem itoa_calls (n : Int) (h0 : -9223372036854775808 ≤ n) (h1 : n ≤ 9223372036854775807) (w : World) (HG : Glb w) :
   Calls Tryd.prog 62 #[.int .i64 n] w fun e w' => e = .returned (.string ⟨(Lib.itoa n).toArray⟩) ∧ Below w.heap.size w w' := by
 refine (Tryd.strconv_Itoa n h0 h1 w HG.ten).mono ?_
 rintro e w' ⟨rfl, k, os, rfl⟩
 exact ⟨rfl, Lib.below_grow _ _ (Nat.le_refl _) _ _⟩
set_option maxRecDepth 100000 in
theorem put_calls (n : Int) (h0 : -9223372036854775808 ≤ n) (h1 : n ≤ 9223372036854775807) (w : World) (HG : Glb w) :
   Calls Tryd.prog 38 #[.int .i64 n] w fun e w' => e = .returned (.string ⟨(putNum n).toArray⟩) ∧ Below w.heap.size w w' := by
 have G := Lib.hid HG
 clear HG
 go_enter Tryd.func38, Tryd.ntmps38
 by_cases a : n < 0
 · go_wp2
   go_ret
   rw [putNum_out n (.inl a)]
   exact ⟨rfl, Below.refl _ _⟩
 · by_cases b : 4611686018427387904 < n
   · go_wp2
     go_ret
     rw [putNum_out n (.inr b)]
     exact ⟨rfl, Below.refl _ _⟩
   · go_wp2_with (go_at_call 62; refine (itoa_calls n h0 h1 _ G.out).mono ?_; rintro e w' ⟨rfl, hb⟩)
     go_wp2
     go_ret
     rw [putNum_in n (by omega) (by omega)]
     exact ⟨rfl, hb⟩
theorem atoi_calls (s : ByteArray) (hs : s.size ≤ 281474976710656) (w : World) (HG : Glb w) :
   Calls Tryd.prog 76 #[.string s] w fun e w' => (∃ v, Lib.atoiAll s.data.toList = .ok v ∧ e = .returned (.tuple #[.int .i64 v, .nilIface]) ∧ Below w.heap.size w w') ∨ (∃ v tp p, numOf s.data.toList = (0, false) ∧ e = .returned (.tuple #[.int .i64 v, .iface tp p]) ∧ Below w.heap.size w w') := by
 obtain ⟨h1, ⟨a, b, h2⟩, ⟨c, d, h3⟩⟩ := HG
 cases h : Lib.atoiAll s.data.toList with
 | ok v =>
   refine (Tryd.strconv_Atoi_ok s (by omega) v h w).mono ?_
   rintro e w' ⟨rfl, hw⟩
   refine .inl ⟨v, rfl, rfl, ?_⟩
   rcases hw with rfl | ⟨t, rfl⟩
   · exact Below.refl _ _
   · exact Lib.bytesWorld_below _ _ _
 | range =>
   refine (Tryd.strconv_Atoi_range_var s hs h a b w h2).mono ?_
   rintro e w' ⟨N, rfl, -, -, hb⟩
   exact .inr ⟨_, _, _, numOf_bad (fun v e => by rw [h] at e; cases e), rfl, hb⟩
 | _ =>
   refine (Tryd.strconv_Atoi_syntax_var s hs h c d w h3).mono ?_
   rintro e w' ⟨N, rfl, -, -, hb⟩
   exact .inr ⟨_, _, _, numOf_bad (fun v e => by rw [h] at e; cases e), rfl, hb⟩
set_option maxRecDepth 100000 in
theorem number_calls (s : ByteArray) (hs : s.size ≤ 281474976710656) (w : World) (HG : Glb w) :
   Calls Tryd.prog 74 #[.string s] w fun e w' => e = .returned (.tuple #[.int .i64 (numOf s.data.toList).1, .bool (numOf s.data.toList).2]) ∧ Below w.heap.size w w' := by
 have G := Lib.hid HG
 have GB := Lib.hid (fun W hb => Glb.below (W := W) HG hb)
 clear HG
 go_enter Tryd.func74, Tryd.ntmps74
 go_wp2_with (go_at_call 76; refine (atoi_calls s hs _ G.out).mono ?_)
 rintro e w1 (⟨v, hv, rfl, b1⟩ | ⟨v, tp, p, hv, rfl, b1⟩)
 · have hr := Lib.hid (numOf_ok hv)
   have hb := Lib.atoiAll_bounds hv
   clear hv
   by_cases a : v < 0
   · go_wp2
     go_ret2
     rw [hr.out, if_pos a]
     exact ⟨rfl, b1⟩
   · go_wp2_with (go_at_call 38; refine (put_calls v hb.1 hb.2 _ (GB.out _ b1)).mono ?_; rintro e w2 ⟨rfl, b2⟩)
     · rename_i hc
       have hn : ¬ s.data.toList = putNum v := by
         intro e
         have hx : 0 ≤ v := by omega
         simp [Lib.toList_data, e, hx] at hc
         omega
       go_ret2
       rw [hr.out, if_neg (by omega), if_neg hn]
       exact ⟨rfl, b1.trans (b2.mono b1.size)⟩
     · rename_i hc
       have hn : s.data.toList = putNum v := by
         have := hc.2
         simpa [Lib.toList_data] using this
       go_ret2
       rw [hr.out, if_neg (by omega), if_pos hn]
       exact ⟨rfl, b1.trans (b2.mono b1.size)⟩
 · go_wp2
   go_ret2
   rw [hv]
   exact ⟨rfl, b1⟩
def octal_PutNumber.f (a0 : Int) : Option ByteArray := if -9223372036854775808 ≤ a0 ∧ a0 ≤ 9223372036854775807 then some ⟨(putNum a0).toArray⟩ else none
theorem octal_PutNumber.calls (a0 : Int) (r : ByteArray) (w : World) (HG : Aside0 (Glb w)) (h : octal_PutNumber.f a0 = some r) :
   Calls Tryd.prog 38 #[.int .i64 a0] w fun e w' => e = .returned (.string r) ∧ Below w.heap.size w w' := by
 unfold octal_PutNumber.f at h
 by_cases hs : -9223372036854775808 ≤ a0 ∧ a0 ≤ 9223372036854775807
 · rw [if_pos hs] at h
   obtain rfl := Option.some.inj h
   exact put_calls a0 hs.1 hs.2 w HG.out
 · rw [if_neg hs] at h
   cases h
def octal_Number.f (a0 : ByteArray) : Option (Int × Bool) := if a0.size ≤ 281474976710656 then some (numOf a0.data.toList) else none
theorem octal_Number.calls (a0 : ByteArray) (r1 : Int) (r2 : Bool) (w : World) (HG : Aside0 (Glb w)) (h : octal_Number.f a0 = some (r1, r2)) :
   Calls Tryd.prog 74 #[.string a0] w fun e w' => e = .returned (.tuple #[.int .i64 r1, .bool r2]) ∧ Below w.heap.size w w' := by
 unfold octal_Number.f at h
 by_cases hs : a0.size ≤ 281474976710656
 · rw [if_pos hs] at h
   have e := Option.some.inj h
   have := number_calls a0 hs w HG.out
   rw [e] at this
   exact this
 · rw [if_neg hs] at h
   cases h
def strconv_Itoa_62.f (a0 : Int) : Option ByteArray := if -9223372036854775808 ≤ a0 ∧ a0 ≤ 9223372036854775807 then some ⟨(Lib.itoa a0).toArray⟩ else none
end Go.Proofs.YtmpnkckaohfflaaDoor.NGiv
end
section
namespace Go.Proofs.YtmpnkckaohfflaaDoor.PGiv
open Go.RowKit Go.Proofs.YtmpnkckaohfflaaDoorW.PrintWords Go.Proofs.YtmpnkckaohfflaaDoorW.PrintLast Go.Proofs.YtmpnkckaohfflaaDoorW.PrintMore Go.Proofs.YtmpnkckaohfflaaDoor.K Go.Proofs.YtmpnkckaohfflaaDoor.Num Go.Proofs.YtmpnkckaohfflaaDoor.NGiv
set_option linter.unusedVariables false
set_option linter.unusedSimpArgs false
def PN (n : Int) (t : ByteArray) : Prop := ∀ W : World, Glb W → Calls Tryd.prog 38 #[.int .i64 n] W fun e w' => e = .returned (.string t) ∧ Below W.heap.size W w'
theorem PN.go {n : Int} {t : ByteArray} (h : PN n t) {W : World} (g : Glb W) : Calls Tryd.prog 38 #[.int .i64 n] W fun e w' => e = .returned (.string t) ∧ Below W.heap.size W w' := h W g
def i64r (n : Int) : Prop := -9223372036854775808 ≤ n ∧ n ≤ 9223372036854775807
def numT (n : Int) : ByteArray := ⟨(putNum n).toArray⟩
theorem pn_of {n : Int} (h : i64r n) : PN n (numT n) := fun W hg => put_calls n h.1 h.2 W hg
def okC (c : S45) : Prop := i64r c.f2 ∧ i64r c.f3 ∧ i64r c.f4 ∧ i64r c.f5 ∧ i64r c.f6
def headT (c : S45) : List UInt8 := putNum c.f4 ++ [120] ++ putNum c.f5 ++ [44] ++ putNum c.f2 ++ [44] ++ putNum c.f3
mutual
def cellF : Nat → List S45 → Nat → Option (List UInt8 × Nat)
 | 0, _, _ => none
 | k + 1, l, at_ => match l[at_]? with
   | none => none
   | some c => if c.f1 = 1 then some (headT c ++ [44] ++ putNum c.f6, at_ + 1)
     else (cellL k l c.f0 true (at_ + 1)).map fun r => (headT c ++ [if c.f1 = 3 then 91 else 123] ++ r.1 ++ [if c.f1 = 3 then 93 else 125], r.2)
def cellL : Nat → List S45 → Int → Bool → Nat → Option (List UInt8 × Nat)
 | 0, _, _, _, _ => none
 | k + 1, l, d, first, at_ => match l[at_]? with
   | none => some ([], at_)
   | some x => if d < x.f0 then (cellF k l at_).bind fun r => (cellL k l d false r.2).map fun q => ((if first then [] else [44]) ++ r.1 ++ q.1, q.2) else some ([], at_)
end
theorem cell_alloc {w : World} {a : Addr} {v : Value} (h : w.cell? a = some v) (o : Obj) : (w.alloc o).cell? a = some v := (World.cell?_alloc_lt _ _ _ (World.block_lt_of_cell? w _ h)).trans h
theorem WrAt.below {b : Nat} {sl : Value} {n : Int} {txt : List UInt8} {w w' : World} (h : WrAt b sl n txt w) (hb : Below w.heap.size w w') : WrAt b sl n txt w' := by
 obtain ⟨p, v, h1, h2, h3⟩ := h
 exact ⟨p, v, h1, (hb.block b (blk_lt h2)).trans h2, own_move h3 (fun k hk => hb.block k (own_lt h3 k hk))⟩
theorem kept_below {b : Nat} {w w' : World} (hb : Below w.heap.size w w') : Lib.OthersKept 5 (some b) w w' := fun k o hk _ _ => (hb.block k (blk_lt hk)).trans hk
theorem numT_size (m : Int) : (numT m).size ≤ 30 := by
 show (putNum m).length ≤ 30
 unfold putNum
 split
 · simp
 · have := Lib.itoa_length_le m (by omega) (by omega)
   omega
def CellPost (b : Nat) (sl : Value) (n : Nat) (txt : List UInt8) (w : World) (e : Ending) (w' : World) : Prop :=
 e = .returned (.tuple #[]) ∧ WrAt b sl n txt w' ∧ Below b w w' ∧ Lib.OthersKept 5 (some b) w w'
set_option maxHeartbeats 16000000 in
set_option maxRecDepth 100000 in
theorem cell_calls (k : Nat) : ∀ (b : Nat) (A : Option Addr) (c0 : Nat) (l : List S45) (i j : Nat) (txt s : List UInt8) (w : World), (∀ W, Below b w W → Kd.C k45 W A l.length l ∧ Glb W) → l.length ≤ c0 → l.length ≤ 1000000 →
   (∀ c ∈ l, okC c) → WrAt b (.slice A l.length c0) i txt w → cellF k l i = some (s, j) → txt.length + s.length ≤ 1000000000 →
   Calls Tryd.prog 22 #[.pointer (some ⟨b, 0, none⟩)] w fun e w' => CellPost b (.slice A l.length c0) j (txt ++ s) w e w' := by
 induction k using Nat.strongRecOn with
 | _ k ih =>
 intro b A c0 l i j txt s w hC hc hl hok hW hF hlen
 cases k with
 | zero => exact absurd hF (by simp [cellF])
 | succ k =>
 rw [cellF] at hF
 cases hx : l[i]? with
 | none => rw [hx] at hF; cases hF
 | some c =>
 rw [hx] at hF
 simp only at hF
 obtain ⟨hil, hic⟩ := List.getElem?_eq_some_iff.1 hx
 obtain ⟨ad, rfl, q0, q1, q2, q3, q4, q5, q6⟩ := at_T45 (hC w (Below.refl _ _)).1 (i : Int) (by omega) (by omega)
 have ex : rd_T45 l (i : Int) = c := by simp [rd_T45, List.getD_eq_getElem?_getD, hx]
 rw [ex] at q0 q1 q2 q3 q4 q5 q6
 simp only [Int.toNat_natCast] at q0 q1 q2 q3 q4 q5 q6
 obtain ⟨o2, o3, o4, o5, o6⟩ := hok c (hic ▸ List.getElem_mem hil)
 obtain ⟨p, v, hp, hb, hown⟩ := hW
 have hb0 : w.cell? ⟨b, 0, none⟩ = some (.slice (some ad) l.length c0) := (blk_cell hb 0).trans rfl
 have hb1 : w.cell? ⟨b, 1, none⟩ = some (.int .i64 i) := (blk_cell hb 1).trans rfl
 have a0 : ∀ o : Obj, (w.alloc o).cell? ⟨b, 0, none⟩ = some (.slice (some ad) l.length c0) := cell_alloc hb0
 have a1 : ∀ o : Obj, (w.alloc o).cell? ⟨b, 1, none⟩ = some (.int .i64 i) := cell_alloc hb1
 have r0 := fun o => cell_alloc q0 o
 have r1 := fun o => cell_alloc q1 o
 have r2 := fun o => cell_alloc q2 o
 have r3 := fun o => cell_alloc q3 o
 have r4 := fun o => cell_alloc q4 o
 have r5 := fun o => cell_alloc q5 o
 have r6 := fun o => cell_alloc q6 o
 have hi0 : (0 ≤ (i : Int)) = True := eq_true (by omega)
 have hil' : ((i : Int) < (l.length : Int)) = True := eq_true (by omega)
 have HH := Lib.hid (And.intro hC (And.intro hok (And.intro hF (And.intro hown hb))))
 clear hC hok hF hown hb ex hx hic
 generalize hn : l.length = n at *
 go_enter Tryd.func22, Tryd.ntmps22
 go_wp2
 go_region
 obtain ⟨N1, N2, N3, N4⟩ := cell_new w (.cells #[.int .i64 c.f0, .int .i64 c.f1, .int .i64 c.f2, .int .i64 c.f3, .int .i64 c.f4, .int .i64 c.f5, .int .i64 c.f6] 45 (0, 0))
 generalize (w.alloc (.cells #[.int .i64 c.f0, .int .i64 c.f1, .int .i64 c.f2, .int .i64 c.f3, .int .i64 c.f4, .int .i64 c.f5, .int .i64 c.f6] 45 (0, 0))).drew = w2 at N1 N2 N3 N4 ⊢
 obtain ⟨hC, hok, hF, hown, hb⟩ := HH.out
 have hbw : b < w.heap.size := blk_lt hb
 have hb2 := (N2 b hbw).trans hb
 have hown2 := own_move (w1 := w2) hown (fun k hk => N2 k (own_lt hown k hk))
 have hb1 : w2.cell? ⟨b, 1, none⟩ = some (.int .i64 i) := (blk_cell hb2 1).trans rfl
 have hf1 : w2.frozen? ⟨b, 1, none⟩ = false := blk_frozen hb2 1
 have hb3 := blk_put hb2 1 (.int .i64 ((i : Int) + 1)) rfl
 have hown3 := own_move (w1 := w2.setCell ⟨b, 1, none⟩ (.int .i64 ((i : Int) + 1))) hown2 (fun k hk => Below.heap_setCell _ _ _ k (by have := own_base hown2 k hk; show k ≠ b; omega))
 have W3 : Hid (WrAt b (.slice (some ad) n c0) ((i : Int) + 1) txt (w2.setCell ⟨b, 1, none⟩ (.int .i64 ((i : Int) + 1)))) := Lib.hid ⟨p, v, hp, hb3, hown3⟩
 have C3 : Hid ((w2.setCell ⟨b, 1, none⟩ (.int .i64 ((i : Int) + 1))).heap[w.heap.size]? = some (.cells #[.int .i64 c.f0, .int .i64 c.f1, .int .i64 c.f2, .int .i64 c.f3, .int .i64 c.f4, .int .i64 c.f5, .int .i64 c.f6] 45 (0, 0))) := Lib.hid ((Below.heap_setCell _ _ _ _ (by show w.heap.size ≠ b; omega)).trans N1)
 have B3 : Hid (Below b w (w2.setCell ⟨b, 1, none⟩ (.int .i64 ((i : Int) + 1)))) := Lib.hid ((N4 b (by omega)).setCell (p := ⟨b, 1, none⟩) (Nat.le_refl _) _)
 have K3 : Hid (Lib.OthersKept 5 (some b) w (w2.setCell ⟨b, 1, none⟩ (.int .i64 ((i : Int) + 1)))) := Lib.hid ((show Lib.OthersKept 5 (some b) w w2 from fun k o hk _ _ => (N2 k (blk_lt hk)).trans hk).setCell ⟨b, 1, none⟩ rfl _)
 clear hC hok hF hown hb N1 N2 N3 N4 hb2 hown2 hb3 hown3 hb0 a0 a1 r0 r1 r2 r3 r4 r5 r6 q0 q1 q2 q3 q4 q5 q6 hp
 go_wp2
 generalize w2.setCell ⟨b, 1, none⟩ (.int .i64 ((i : Int) + 1)) = w3 at W3 C3 B3 K3 ⊢
 clear hb1 hf1
 have P4 := Lib.hid (pn_of o4)
 have P5 := Lib.hid (pn_of o5)
 have P2 := Lib.hid (pn_of o2)
 have P3 := Lib.hid (pn_of o3)
 have P6 := Lib.hid (pn_of o6)
 have Z : ∀ m : Int, (numT m).size ≤ 30 := fun m => numT_size m
 have z4 := Z c.f4
 have z5 := Z c.f5
 have z2 := Z c.f2
 have z3 := Z c.f3
 have z6 := Z c.f6
 have hHD : (headT c) = (numT c.f4 ++ (⟨#[120]⟩ : ByteArray) ++ numT c.f5 ++ (⟨#[44]⟩ : ByteArray) ++ numT c.f2 ++ (⟨#[44]⟩ : ByteArray) ++ numT c.f3).data.toList := by simp [headT, numT]
 have hP6 : [44] ++ putNum c.f6 = ((⟨#[44]⟩ : ByteArray) ++ numT c.f6).data.toList := by simp [numT]
 have hHD := Lib.hid hHD
 have hP6 := Lib.hid hP6
 clear Z o2 o3 o4 o5 o6
 generalize numT c.f4 = t4 at P4 z4 hHD
 generalize numT c.f5 = t5 at P5 z5 hHD
 generalize numT c.f2 = t2 at P2 z2 hHD
 generalize numT c.f3 = t3 at P3 z3 hHD
 generalize numT c.f6 = t6 at P6 z6 hP6
 have s1 : (t4 ++ (⟨#[120]⟩ : ByteArray)).size = t4.size + 1 := by rw [ByteArray.size_append]; rfl
 have s2 : (t4 ++ (⟨#[120]⟩ : ByteArray) ++ t5).size = t4.size + 1 + t5.size := by rw [ByteArray.size_append, s1]
 have s3 : (t4 ++ (⟨#[120]⟩ : ByteArray) ++ t5 ++ (⟨#[44]⟩ : ByteArray)).size = t4.size + 1 + t5.size + 1 := by rw [ByteArray.size_append, s2]; rfl
 have s4 : (t4 ++ (⟨#[120]⟩ : ByteArray) ++ t5 ++ (⟨#[44]⟩ : ByteArray) ++ t2).size = t4.size + 1 + t5.size + 1 + t2.size := by rw [ByteArray.size_append, s3]
 have s5 : (t4 ++ (⟨#[120]⟩ : ByteArray) ++ t5 ++ (⟨#[44]⟩ : ByteArray) ++ t2 ++ (⟨#[44]⟩ : ByteArray)).size = t4.size + 1 + t5.size + 1 + t2.size + 1 := by rw [ByteArray.size_append, s4]; rfl
 have g1 : t4.size + 1 ≤ 9223372036854775807 := by omega
 have g2 : (t4 ++ (⟨#[120]⟩ : ByteArray)).size + t5.size ≤ 9223372036854775807 := by omega
 have g3 : (t4 ++ (⟨#[120]⟩ : ByteArray) ++ t5).size + 1 ≤ 9223372036854775807 := by omega
 have g4 : (t4 ++ (⟨#[120]⟩ : ByteArray) ++ t5 ++ (⟨#[44]⟩ : ByteArray)).size + t2.size ≤ 9223372036854775807 := by omega
 have g5 : (t4 ++ (⟨#[120]⟩ : ByteArray) ++ t5 ++ (⟨#[44]⟩ : ByteArray) ++ t2).size + 1 ≤ 9223372036854775807 := by omega
 have g6 : (t4 ++ (⟨#[120]⟩ : ByteArray) ++ t5 ++ (⟨#[44]⟩ : ByteArray) ++ t2 ++ (⟨#[44]⟩ : ByteArray)).size + t3.size ≤ 9223372036854775807 := by omega
 have hsz : (t4 ++ (⟨#[120]⟩ : ByteArray) ++ t5 ++ (⟨#[44]⟩ : ByteArray) ++ t2 ++ (⟨#[44]⟩ : ByteArray) ++ t3).size ≤ 1000 := by rw [ByteArray.size_append, s5]; omega
 have e1 := eq_true g1
 have e2 := eq_true g2
 have e3 := eq_true g3
 have e4 := eq_true g4
 have e5 := eq_true g5
 have e6 := eq_true g6
 have n1 := eq_false (Nat.not_lt.2 g1)
 have n2 := eq_false (Nat.not_lt.2 g2)
 have n3 := eq_false (Nat.not_lt.2 g3)
 have n4 := eq_false (Nat.not_lt.2 g4)
 have n5 := eq_false (Nat.not_lt.2 g5)
 have n6 := eq_false (Nat.not_lt.2 g6)
 have m2 : t4.size + 1 + t5.size ≤ 9223372036854775807 := by omega
 have m3 : t4.size + 1 + t5.size + 1 ≤ 9223372036854775807 := by omega
 have m4 : t4.size + 1 + t5.size + 1 + t2.size ≤ 9223372036854775807 := by omega
 have m5 : t4.size + 1 + t5.size + 1 + t2.size + 1 ≤ 9223372036854775807 := by omega
 have m6 : t4.size + 1 + t5.size + 1 + t2.size + 1 + t3.size ≤ 9223372036854775807 := by omega
 have l2 := eq_false (Nat.not_lt.2 m2)
 have l3 := eq_false (Nat.not_lt.2 m3)
 have l4 := eq_false (Nat.not_lt.2 m4)
 have l5 := eq_false (Nat.not_lt.2 m5)
 have l6 := eq_false (Nat.not_lt.2 m6)
 replace m2 := eq_true m2
 replace m3 := eq_true m3
 replace m4 := eq_true m4
 replace m5 := eq_true m5
 replace m6 := eq_true m6
 have HS := Lib.hid hsz
 clear s1 s2 s3 s4 s5 g1 g2 g3 g4 g5 g6 z2 z3 z4 z5 hsz
 have BQ := Lib.hid (show Below w3.drew.heap.size w3 w3.drew from (Below.refl _ _).drew)
 have GQ := Lib.hid (HH.out.1 _ (B3.out.trans (BQ.out.mono (Nat.le_trans (Nat.le_of_lt hbw) B3.out.size)))).2
 have CQ := Lib.hid (show w3.drew.heap[w.heap.size]? = _ from C3.out)
 have x2 : w3.drew.cell? ⟨w.heap.size, 2, none⟩ = some (.int .i64 c.f2) := (blk_cell CQ.out 2).trans rfl
 have x3 : w3.drew.cell? ⟨w.heap.size, 3, none⟩ = some (.int .i64 c.f3) := (blk_cell CQ.out 3).trans rfl
 have x4 : w3.drew.cell? ⟨w.heap.size, 4, none⟩ = some (.int .i64 c.f4) := (blk_cell CQ.out 4).trans rfl
 have x5 : w3.drew.cell? ⟨w.heap.size, 5, none⟩ = some (.int .i64 c.f5) := (blk_cell CQ.out 5).trans rfl
 go_region_held3 (fun w' => w'.cell? ⟨w.heap.size, 2, none⟩ = some (.int .i64 c.f2) ∧ w'.cell? ⟨w.heap.size, 3, none⟩ = some (.int .i64 c.f3) ∧ w'.cell? ⟨w.heap.size, 4, none⟩ = some (.int .i64 c.f4) ∧ w'.cell? ⟨w.heap.size, 5, none⟩ = some (.int .i64 c.f5))
   (first | exact ⟨x2, x3, x4, x5⟩)
   (first
     | (go_at_call 38; first
         | (with_reducible refine (P4.out.go GQ.out).mono ?_)
         | (with_reducible refine (P5.out.go GQ.out).mono ?_)
         | (with_reducible refine (P2.out.go GQ.out).mono ?_)
         | (with_reducible refine (P3.out.go GQ.out).mono ?_)
        rintro e wn ⟨rfl, bn⟩
        have GQ := Lib.hid (GQ.out.below bn)
        have BQ := Lib.hid (BQ.out.trans (bn.mono BQ.out.size))
        have CQ := Lib.hid ((bn.block _ (blk_lt CQ.out)).trans CQ.out)
        have x2 : wn.cell? ⟨w.heap.size, 2, none⟩ = some (.int .i64 c.f2) := (blk_cell CQ.out 2).trans rfl
        have x3 : wn.cell? ⟨w.heap.size, 3, none⟩ = some (.int .i64 c.f3) := (blk_cell CQ.out 3).trans rfl
        have x4 : wn.cell? ⟨w.heap.size, 4, none⟩ = some (.int .i64 c.f4) := (blk_cell CQ.out 4).trans rfl
        have x5 : wn.cell? ⟨w.heap.size, 5, none⟩ = some (.int .i64 c.f5) := (blk_cell CQ.out 5).trans rfl
        clear bn)
     | (go_at_call 37
        refine (wstr b (.slice (some ad) n c0) ((i : Int) + 1) txt (t4 ++ (⟨#[120]⟩ : ByteArray) ++ t5 ++ (⟨#[44]⟩ : ByteArray) ++ t2 ++ (⟨#[44]⟩ : ByteArray) ++ t3) _ (W3.out.below BQ.out) (by have := HS.out; omega)).mono ?_
        rintro e wn ⟨rfl, wa, bn, kn⟩
        have WQ := Lib.hid wa
        have BR := Lib.hid (B3.out.trans ((BQ.out.mono (Nat.le_trans (Nat.le_of_lt hbw) B3.out.size)).trans bn))
        have KR := Lib.hid (K3.out.trans ((kept_below BQ.out).trans kn))
        have CQ := Lib.hid (kn _ _ CQ.out (fun e => by injection e with e; omega) (fun cs fz h => by cases h))
        have x2 : wn.cell? ⟨w.heap.size, 2, none⟩ = some (.int .i64 c.f2) := (blk_cell CQ.out 2).trans rfl
        have x3 : wn.cell? ⟨w.heap.size, 3, none⟩ = some (.int .i64 c.f3) := (blk_cell CQ.out 3).trans rfl
        have x4 : wn.cell? ⟨w.heap.size, 4, none⟩ = some (.int .i64 c.f4) := (blk_cell CQ.out 4).trans rfl
        have x5 : wn.cell? ⟨w.heap.size, 5, none⟩ = some (.int .i64 c.f5) := (blk_cell CQ.out 5).trans rfl
        clear bn kn wa))
 clear e1 e2 e3 e4 e5 e6 n1 n2 n3 n4 n5 n6 m2 m3 m4 m5 m6 l2 l3 l4 l5 l6 x2 x3 x4 x5 P4 P5 P2 P3 HS
 have hk1 : wn.cell? ⟨w.heap.size, 1, none⟩ = some (.int .i64 c.f1) := (blk_cell CQ.out 1).trans rfl
 have hcast : (i : Int) + 1 = ((i + 1 : Nat) : Int) := by omega
 have WQ := Lib.hid (show WrAt b (.slice (some ad) n c0) ((i + 1 : Nat) : Int) (txt ++ headT c) wn by rw [hHD.out, ← hcast]; exact WQ.out)
 have hF := HH.out.2.2.1
 by_cases kc : c.f1 = 1
 · have kc' : (c.f1 == 1) = true := beq_iff_eq.mpr kc
   rw [if_pos kc] at hF
   obtain ⟨hs, hj⟩ := Prod.mk.inj (Option.some.inj hF)
   have HSJ := Lib.hid (And.intro hs hj)
   clear hF hs hj kc hcast hHD hil hi0 hil'
   go_wp2
   have h1 : 1 + t6.size ≤ 9223372036854775807 := by omega
   have h2 := eq_false (Nat.not_lt.2 h1)
   have h3 : t6.size + 1 ≤ 9223372036854775807 := by omega
   have h4 := eq_false (Nat.not_lt.2 h3)
   have h5 : (⟨#[44]⟩ : ByteArray).size + t6.size ≤ 9223372036854775807 := by show 1 + t6.size ≤ _; omega
   have h6 := eq_false (Nat.not_lt.2 h5)
   replace h1 := eq_true h1
   replace h3 := eq_true h3
   replace h5 := eq_true h5
   have BQ := Lib.hid (show Below wn.drew.heap.size wn wn.drew from (Below.refl _ _).drew)
   have hbn : b ≤ wn.heap.size := Nat.le_trans (Nat.le_of_lt hbw) BR.out.size
   have GQ := Lib.hid (HH.out.1 _ (BR.out.trans (BQ.out.mono hbn))).2
   have CD := Lib.hid (show wn.drew.heap[w.heap.size]? = _ from CQ.out)
   have y6 : wn.drew.cell? ⟨w.heap.size, 6, none⟩ = some (.int .i64 c.f6) := (blk_cell CD.out 6).trans rfl
   have hsz6 : txt.length + (headT c).length + ((⟨#[44]⟩ : ByteArray) ++ t6).size ≤ 140737488355328 := by
     have e := HSJ.out.1
     have h := hP6.out
     have hl' : s.length = (headT c).length + ((⟨#[44]⟩ : ByteArray) ++ t6).size := by
       rw [← e, List.append_assoc, h, List.length_append]
       rfl
     omega
   have HZ6 := Lib.hid hsz6
   clear hsz6
   go_region_held3 (fun w' => w'.cell? ⟨w.heap.size, 6, none⟩ = some (.int .i64 c.f6))
     (first | exact y6)
     (first
       | (go_at_call 38
          with_reducible refine (P6.out.go GQ.out).mono ?_
          rintro e wp ⟨rfl, bn⟩
          have BQ := Lib.hid (BQ.out.trans (bn.mono BQ.out.size))
          have CD := Lib.hid ((bn.block _ (blk_lt CD.out)).trans CD.out)
          have y6 : wp.cell? ⟨w.heap.size, 6, none⟩ = some (.int .i64 c.f6) := (blk_cell CD.out 6).trans rfl
          clear bn)
       | (go_at_call 37
          refine (wstr b (.slice (some ad) n c0) ((i + 1 : Nat) : Int) (txt ++ headT c) ((⟨#[44]⟩ : ByteArray) ++ t6) _ (WQ.out.below BQ.out) (by have := HZ6.out; rw [List.length_append]; omega)).mono ?_
          rintro e wp ⟨rfl, wa, bn, kn⟩
          have WF := Lib.hid wa
          have BF := Lib.hid (BR.out.trans ((BQ.out.mono hbn).trans bn))
          have KF := Lib.hid (KR.out.trans ((kept_below BQ.out).trans kn))
          have CD := Lib.hid (kn _ _ CD.out (fun e => by injection e with e; omega) (fun cs fz h => by cases h))
          have y6 : wp.cell? ⟨w.heap.size, 6, none⟩ = some (.int .i64 c.f6) := (blk_cell CD.out 6).trans rfl
          clear bn kn wa))
   go_wp2
   refine bodyPost_ret (results_none rfl _ _ _) rfl ?_
   have e : txt ++ s = txt ++ headT c ++ ((⟨#[44]⟩ : ByteArray) ++ t6).data.toList := by rw [← HSJ.out.1, ← hP6.out]; simp
   rw [e, ← HSJ.out.2]
   exact ⟨rfl, WF.out, BF.out, KF.out⟩
 · have kc' : (c.f1 == 1) = false := beq_eq_false_iff_ne.mpr kc
   rw [if_neg kc] at hF
   clear kc hP6 P6 z6
   obtain ⟨⟨r1, j'⟩, hL, hr⟩ := Option.map_eq_some_iff.1 hF
   obtain ⟨hs, hj⟩ := Prod.mk.inj hr
   simp only at hs hj
   subst hj
   clear hF hr
   by_cases k3 : c.f1 = 3
   · have hb3 : (c.f1 == 3) = true := beq_iff_eq.mpr k3
     rw [if_pos k3, if_pos k3] at hs
     have HSS := Lib.hid hs
     have HLL := Lib.hid hL
     have hlen1 : txt.length + (headT c).length + 1 + r1.length + 1 ≤ 1000000000 := by
       rw [← hs] at hlen
       simp at hlen
       omega
     clear hs hL k3 hcast hHD hil hi0 hil'
     have WB1 := Lib.hid (wbyte b (.slice (some ad) n c0) ((i + 1 : Nat) : Int) (txt ++ headT c) 91 wn WQ.out (by rw [List.length_append]; omega))
     go_wp2_with (go_at_call 39; refine (WB1.out).mono ?_)
     rintro e w6 ⟨rfl, wa, bn, kn⟩
     have W6 := Lib.hid wa
     have B6 := Lib.hid (BR.out.trans bn)
     have K6 := Lib.hid (KR.out.trans kn)
     have C6 := Lib.hid (kn _ _ CQ.out (fun e => by injection e with e; omega) (fun cs fz h => by cases h))
     clear wa bn kn WB1 hk1
     go_wp2
     go_loopg [5] k (fun kq fv wr => ∃ (first : Bool) (a : Nat) (T s2 : List UInt8), fv = .bool first ∧ Aside0 (cellL kq l c.f0 first a = some (s2, j')) ∧ Aside0 (T ++ s2 = txt ++ headT c ++ [91] ++ r1) ∧ Aside0 (kq ≤ k) ∧
       Aside0 (WrAt b (.slice (some ad) n c0) a T wr) ∧ Aside0 (Below b w wr) ∧ Aside0 (Lib.OthersKept 5 (some b) w wr) ∧ Aside0 (wr.heap[w.heap.size]? = some (.cells #[.int .i64 c.f0, .int .i64 c.f1, .int .i64 c.f2, .int .i64 c.f3, .int .i64 c.f4, .int .i64 c.f5, .int .i64 c.f6] 45 (0, 0))))
     case atStart => exact ⟨true, i + 1, txt ++ headT c ++ [91], r1, rfl, ⟨HLL.out⟩, ⟨rfl⟩, ⟨Nat.le_refl _⟩, ⟨W6.out⟩, ⟨B6.out⟩, ⟨K6.out⟩, ⟨C6.out⟩⟩
     case round =>
       obtain ⟨first, a, T, s2, rfl, RF, RT, RK, RW, RB, RQ, RC⟩ := hrel
       cases gk with
       | zero => exact absurd RF.out (by simp [cellL])
       | succ gk =>
         obtain ⟨pr, vr, hpr, hbr, howr⟩ := RW.out
         have hb0 : wr.cell? ⟨b, 0, none⟩ = some (.slice (some ad) n c0) := (blk_cell hbr 0).trans rfl
         have hb1 : wr.cell? ⟨b, 1, none⟩ = some (.int .i64 a) := (blk_cell hbr 1).trans rfl
         have hc0 : wr.cell? ⟨w.heap.size, 0, none⟩ = some (.int .i64 c.f0) := (blk_cell RC.out 0).trans rfl
         have hRF := RF.out
         rw [cellL] at hRF
         have hTl : T.length + s2.length + 1 ≤ 1000000000 := by
           have h := congrArg List.length RT.out
           simp at h
           omega
         clear hbr howr hpr
         cases hx : l[a]? with
         | none =>
           rw [hx] at hRF
           obtain ⟨h1, h2⟩ := Prod.mk.inj (Option.some.inj hRF)
           have han : n ≤ a := by rw [← hn]; exact List.getElem?_eq_none_iff.1 hx
           have hcm : decide ((a : Int) < (n : Int)) = false := decide_eq_false (by omega)
           have H12 := Lib.hid (And.intro h1 h2)
           have hcm2 : decide (a < n) = false := decide_eq_false (by omega)
           clear hx hRF RF h1 h2
           go_wp2
           go_quiet (fail)
           generalize hwq : wr.drewN nq = wq
           have BQ : Hid (Below wr.heap.size wr wq) := Lib.hid (by rw [← hwq]; exact pw_below_drewN (Below.refl _ _) _)
           have hbr : b ≤ wr.heap.size := Nat.le_trans (Nat.le_of_lt hbw) RB.out.size
           have WW := Lib.hid (RW.out.below BQ.out)
           clear hwq hb0 hb1 hc0
           have WB2 := Lib.hid (wbyte b (.slice (some ad) n c0) (a : Int) T 93 wq WW.out (by omega))
           go_wp2_with (go_at_call 39; refine (WB2.out).mono ?_)
           rintro e w7 ⟨rfl, w7a, b7, k7⟩
           have F7 := Lib.hid (And.intro w7a (And.intro b7 k7))
           clear w7a b7 k7
           go_wp2
           first | go_end0 | refine bodyPost_ret (results_none rfl _ _ _) rfl ?_
           obtain ⟨e1, e2⟩ := H12.out
           have hT : T = txt ++ headT c ++ [91] ++ r1 := by have h := RT.out; rw [← e1, List.append_nil] at h; exact h
           have hfin : txt ++ s = T ++ [93] := by rw [hT, ← HSS.out]; simp
           rw [hfin, ← e2]
           exact ⟨rfl, F7.out.1, RB.out.trans ((BQ.out.mono hbr).trans F7.out.2.1), RQ.out.trans ((kept_below BQ.out).trans F7.out.2.2)⟩
         | some x =>
           rw [hx] at hRF
           simp only at hRF
           obtain ⟨hal, hax⟩ := List.getElem?_eq_some_iff.1 hx
           obtain ⟨ad', e', q0, _⟩ := at_T45 (HH.out.1 wr RB.out).1 (a : Int) (by omega) (by omega)
           cases e'
           have ex : rd_T45 l (a : Int) = x := by simp [rd_T45, List.getD_eq_getElem?_getD, hx]
           rw [ex] at q0
           simp only [Int.toNat_natCast] at q0
           rw [hn] at hal
           have hcm : decide ((a : Int) < (n : Int)) = true := decide_eq_true (by omega)
           have ha0 : (0 ≤ (a : Int)) = True := eq_true (by omega)
           have ha1 : ((a : Int) < (n : Int)) = True := eq_true (by omega)
           by_cases hd : c.f0 < x.f0
           · have hd' : decide (c.f0 < x.f0) = true := decide_eq_true hd
             rw [if_pos hd] at hRF
             obtain ⟨⟨g1, g2⟩, hg, hRF⟩ := Option.bind_eq_some_iff.1 hRF
             obtain ⟨⟨u1, u2⟩, hu, hRF⟩ := Option.map_eq_some_iff.1 hRF
             obtain ⟨hv1, hv2⟩ := Prod.mk.inj hRF
             simp only at hu hv1 hv2
             subst hv2
             have HG := Lib.hid hg
             have HU := Lib.hid hu
             have HV := Lib.hid hv1
             clear hx hRF RF hax ex hd hg hu hv1 hal
             go_wp2
             go_quiet (fail)
             generalize hwq : wr.drewN nq = wq
             have BQ : Hid (Below wr.heap.size wr wq) := Lib.hid (by rw [← hwq]; exact pw_below_drewN (Below.refl _ _) _)
             have hbr : b ≤ wr.heap.size := Nat.le_trans (Nat.le_of_lt hbw) RB.out.size
             have WW := Lib.hid (RW.out.below BQ.out)
             have CW := Lib.hid ((BQ.out.block _ (blk_lt RC.out)).trans RC.out)
             have BW := Lib.hid (RB.out.trans (BQ.out.mono hbr))
             have KW := Lib.hid (RQ.out.trans (kept_below BQ.out))
             clear hwq hb0 hb1 hc0 q0 RW RB RQ RC BQ
             cases first with
             | true =>
               have hg1 : s2 = g1 ++ u1 := by have h := HV.out; simp at h; exact h.symm
               have IH := ih gk (by have := RK.out; omega) b (some ad) c0 l a g2 T g1 wq (fun W hW => by rw [hn]; exact HH.out.1 W (BW.out.trans hW)) (by omega) (by omega) HH.out.2.1 (by rw [hn]; exact WW.out) HG.out (by rw [hg1] at hTl; simp at hTl; omega)
               rw [hn] at IH
               have IH := Lib.hid IH
               go_wp2_with (go_at_call 22; refine (IH.out).mono ?_)
               rintro e w7 ⟨rfl, w7a, b7, k7⟩
               have F7 := Lib.hid (And.intro w7a (And.intro b7 k7))
               clear w7a b7 k7
               go_wp2
               go_roundg gk
               case measure => omega
               case rel =>
                 exact ⟨false, g2, T ++ g1, u1, rfl, ⟨HU.out⟩, ⟨by rw [← RT.out, hg1]; simp⟩, ⟨by have := RK.out; omega⟩, ⟨F7.out.1⟩, ⟨BW.out.trans F7.out.2.1⟩, ⟨KW.out.trans F7.out.2.2⟩, ⟨F7.out.2.2 _ _ CW.out (fun e => by injection e with e; omega) (fun cs fz h => by cases h)⟩⟩
             | false =>
               have hg1 : s2 = 44 :: (g1 ++ u1) := by have h := HV.out; simp at h; exact h.symm
               have WB2 := Lib.hid (wbyte b (.slice (some ad) n c0) (a : Int) T 44 wq WW.out (by omega))
               go_wp2_with (go_at_call 39; refine (WB2.out).mono ?_)
               rintro e wb ⟨rfl, wa, bn, kn⟩
               have WX := Lib.hid wa
               have BX := Lib.hid (BW.out.trans bn)
               have KX := Lib.hid (KW.out.trans kn)
               have CX := Lib.hid (kn _ _ CW.out (fun e => by injection e with e; omega) (fun cs fz h => by cases h))
               have IH := ih gk (by have := RK.out; omega) b (some ad) c0 l a g2 (T ++ [44]) g1 wb (fun W hW => by rw [hn]; exact HH.out.1 W (BX.out.trans hW)) (by omega) (by omega) HH.out.2.1 (by rw [hn]; exact WX.out) HG.out (by rw [hg1] at hTl; simp at hTl ⊢; omega)
               rw [hn] at IH
               have IH := Lib.hid IH
               clear wa bn kn WB2
               go_wp2_with (go_at_call 22; refine (IH.out).mono ?_)
               rintro e w7 ⟨rfl, w7a, b7, k7⟩
               have F7 := Lib.hid (And.intro w7a (And.intro b7 k7))
               clear w7a b7 k7
               go_wp2
               go_roundg gk
               case measure => omega
               case rel =>
                 exact ⟨false, g2, T ++ [44] ++ g1, u1, rfl, ⟨HU.out⟩, ⟨by rw [← RT.out, hg1]; simp⟩, ⟨by have := RK.out; omega⟩, ⟨F7.out.1⟩, ⟨BX.out.trans F7.out.2.1⟩, ⟨KX.out.trans F7.out.2.2⟩, ⟨F7.out.2.2 _ _ CX.out (fun e => by injection e with e; omega) (fun cs fz h => by cases h)⟩⟩
           · have hd' : decide (c.f0 < x.f0) = false := decide_eq_false hd
             rw [if_neg hd] at hRF
             obtain ⟨h1, h2⟩ := Prod.mk.inj (Option.some.inj hRF)
             have H12 := Lib.hid (And.intro h1 h2)
             clear hx hRF RF h1 h2 hax ex hd hal
             go_wp2
             go_quiet (fail)
             generalize hwq : wr.drewN nq = wq
             have BQ : Hid (Below wr.heap.size wr wq) := Lib.hid (by rw [← hwq]; exact pw_below_drewN (Below.refl _ _) _)
             have hbr : b ≤ wr.heap.size := Nat.le_trans (Nat.le_of_lt hbw) RB.out.size
             have WW := Lib.hid (RW.out.below BQ.out)
             clear hwq hb0 hb1 hc0
             have WB2 := Lib.hid (wbyte b (.slice (some ad) n c0) (a : Int) T 93 wq WW.out (by omega))
             go_wp2_with (go_at_call 39; refine (WB2.out).mono ?_)
             rintro e w7 ⟨rfl, w7a, b7, k7⟩
             have F7 := Lib.hid (And.intro w7a (And.intro b7 k7))
             clear w7a b7 k7
             go_wp2
             first | go_end0 | refine bodyPost_ret (results_none rfl _ _ _) rfl ?_
             obtain ⟨e1, e2⟩ := H12.out
             have hT : T = txt ++ headT c ++ [91] ++ r1 := by have h := RT.out; rw [← e1, List.append_nil] at h; exact h
             have hfin : txt ++ s = T ++ [93] := by rw [hT, ← HSS.out]; simp
             rw [hfin, ← e2]
             exact ⟨rfl, F7.out.1, RB.out.trans ((BQ.out.mono hbr).trans F7.out.2.1), RQ.out.trans ((kept_below BQ.out).trans F7.out.2.2)⟩
   · have hb3 : (c.f1 == 3) = false := beq_eq_false_iff_ne.mpr k3
     rw [if_neg k3, if_neg k3] at hs
     have HSS := Lib.hid hs
     have HLL := Lib.hid hL
     have hlen1 : txt.length + (headT c).length + 1 + r1.length + 1 ≤ 1000000000 := by
       rw [← hs] at hlen
       simp at hlen
       omega
     clear hs hL k3 hcast hHD hil hi0 hil'
     have WB1 := Lib.hid (wbyte b (.slice (some ad) n c0) ((i + 1 : Nat) : Int) (txt ++ headT c) 123 wn WQ.out (by rw [List.length_append]; omega))
     go_wp2_with (go_at_call 39; refine (WB1.out).mono ?_)
     rintro e w6 ⟨rfl, wa, bn, kn⟩
     have W6 := Lib.hid wa
     have B6 := Lib.hid (BR.out.trans bn)
     have K6 := Lib.hid (KR.out.trans kn)
     have C6 := Lib.hid (kn _ _ CQ.out (fun e => by injection e with e; omega) (fun cs fz h => by cases h))
     clear wa bn kn WB1 hk1
     go_wp2
     go_loopg [5] k (fun kq fv wr => ∃ (first : Bool) (a : Nat) (T s2 : List UInt8), fv = .bool first ∧ Aside0 (cellL kq l c.f0 first a = some (s2, j')) ∧ Aside0 (T ++ s2 = txt ++ headT c ++ [123] ++ r1) ∧ Aside0 (kq ≤ k) ∧
       Aside0 (WrAt b (.slice (some ad) n c0) a T wr) ∧ Aside0 (Below b w wr) ∧ Aside0 (Lib.OthersKept 5 (some b) w wr) ∧ Aside0 (wr.heap[w.heap.size]? = some (.cells #[.int .i64 c.f0, .int .i64 c.f1, .int .i64 c.f2, .int .i64 c.f3, .int .i64 c.f4, .int .i64 c.f5, .int .i64 c.f6] 45 (0, 0))))
     case atStart => exact ⟨true, i + 1, txt ++ headT c ++ [123], r1, rfl, ⟨HLL.out⟩, ⟨rfl⟩, ⟨Nat.le_refl _⟩, ⟨W6.out⟩, ⟨B6.out⟩, ⟨K6.out⟩, ⟨C6.out⟩⟩
     case round =>
       obtain ⟨first, a, T, s2, rfl, RF, RT, RK, RW, RB, RQ, RC⟩ := hrel
       cases gk with
       | zero => exact absurd RF.out (by simp [cellL])
       | succ gk =>
         obtain ⟨pr, vr, hpr, hbr, howr⟩ := RW.out
         have hb0 : wr.cell? ⟨b, 0, none⟩ = some (.slice (some ad) n c0) := (blk_cell hbr 0).trans rfl
         have hb1 : wr.cell? ⟨b, 1, none⟩ = some (.int .i64 a) := (blk_cell hbr 1).trans rfl
         have hc0 : wr.cell? ⟨w.heap.size, 0, none⟩ = some (.int .i64 c.f0) := (blk_cell RC.out 0).trans rfl
         have hRF := RF.out
         rw [cellL] at hRF
         have hTl : T.length + s2.length + 1 ≤ 1000000000 := by
           have h := congrArg List.length RT.out
           simp at h
           omega
         clear hbr howr hpr
         cases hx : l[a]? with
         | none =>
           rw [hx] at hRF
           obtain ⟨h1, h2⟩ := Prod.mk.inj (Option.some.inj hRF)
           have han : n ≤ a := by rw [← hn]; exact List.getElem?_eq_none_iff.1 hx
           have hcm : decide ((a : Int) < (n : Int)) = false := decide_eq_false (by omega)
           have H12 := Lib.hid (And.intro h1 h2)
           have hcm2 : decide (a < n) = false := decide_eq_false (by omega)
           clear hx hRF RF h1 h2
           go_wp2
           go_quiet (fail)
           generalize hwq : wr.drewN nq = wq
           have BQ : Hid (Below wr.heap.size wr wq) := Lib.hid (by rw [← hwq]; exact pw_below_drewN (Below.refl _ _) _)
           have hbr : b ≤ wr.heap.size := Nat.le_trans (Nat.le_of_lt hbw) RB.out.size
           have WW := Lib.hid (RW.out.below BQ.out)
           clear hwq hb0 hb1 hc0
           have WB2 := Lib.hid (wbyte b (.slice (some ad) n c0) (a : Int) T 125 wq WW.out (by omega))
           go_wp2_with (go_at_call 39; refine (WB2.out).mono ?_)
           rintro e w7 ⟨rfl, w7a, b7, k7⟩
           have F7 := Lib.hid (And.intro w7a (And.intro b7 k7))
           clear w7a b7 k7
           go_wp2
           first | go_end0 | refine bodyPost_ret (results_none rfl _ _ _) rfl ?_
           obtain ⟨e1, e2⟩ := H12.out
           have hT : T = txt ++ headT c ++ [123] ++ r1 := by have h := RT.out; rw [← e1, List.append_nil] at h; exact h
           have hfin : txt ++ s = T ++ [125] := by rw [hT, ← HSS.out]; simp
           rw [hfin, ← e2]
           exact ⟨rfl, F7.out.1, RB.out.trans ((BQ.out.mono hbr).trans F7.out.2.1), RQ.out.trans ((kept_below BQ.out).trans F7.out.2.2)⟩
         | some x =>
           rw [hx] at hRF
           simp only at hRF
           obtain ⟨hal, hax⟩ := List.getElem?_eq_some_iff.1 hx
           obtain ⟨ad', e', q0, _⟩ := at_T45 (HH.out.1 wr RB.out).1 (a : Int) (by omega) (by omega)
           cases e'
           have ex : rd_T45 l (a : Int) = x := by simp [rd_T45, List.getD_eq_getElem?_getD, hx]
           rw [ex] at q0
           simp only [Int.toNat_natCast] at q0
           rw [hn] at hal
           have hcm : decide ((a : Int) < (n : Int)) = true := decide_eq_true (by omega)
           have ha0 : (0 ≤ (a : Int)) = True := eq_true (by omega)
           have ha1 : ((a : Int) < (n : Int)) = True := eq_true (by omega)
           by_cases hd : c.f0 < x.f0
           · have hd' : decide (c.f0 < x.f0) = true := decide_eq_true hd
             rw [if_pos hd] at hRF
             obtain ⟨⟨g1, g2⟩, hg, hRF⟩ := Option.bind_eq_some_iff.1 hRF
             obtain ⟨⟨u1, u2⟩, hu, hRF⟩ := Option.map_eq_some_iff.1 hRF
             obtain ⟨hv1, hv2⟩ := Prod.mk.inj hRF
             simp only at hu hv1 hv2
             subst hv2
             have HG := Lib.hid hg
             have HU := Lib.hid hu
             have HV := Lib.hid hv1
             clear hx hRF RF hax ex hd hg hu hv1 hal
             go_wp2
             go_quiet (fail)
             generalize hwq : wr.drewN nq = wq
             have BQ : Hid (Below wr.heap.size wr wq) := Lib.hid (by rw [← hwq]; exact pw_below_drewN (Below.refl _ _) _)
             have hbr : b ≤ wr.heap.size := Nat.le_trans (Nat.le_of_lt hbw) RB.out.size
             have WW := Lib.hid (RW.out.below BQ.out)
             have CW := Lib.hid ((BQ.out.block _ (blk_lt RC.out)).trans RC.out)
             have BW := Lib.hid (RB.out.trans (BQ.out.mono hbr))
             have KW := Lib.hid (RQ.out.trans (kept_below BQ.out))
             clear hwq hb0 hb1 hc0 q0 RW RB RQ RC BQ
             cases first with
             | true =>
               have hg1 : s2 = g1 ++ u1 := by have h := HV.out; simp at h; exact h.symm
               have IH := ih gk (by have := RK.out; omega) b (some ad) c0 l a g2 T g1 wq (fun W hW => by rw [hn]; exact HH.out.1 W (BW.out.trans hW)) (by omega) (by omega) HH.out.2.1 (by rw [hn]; exact WW.out) HG.out (by rw [hg1] at hTl; simp at hTl; omega)
               rw [hn] at IH
               have IH := Lib.hid IH
               go_wp2_with (go_at_call 22; refine (IH.out).mono ?_)
               rintro e w7 ⟨rfl, w7a, b7, k7⟩
               have F7 := Lib.hid (And.intro w7a (And.intro b7 k7))
               clear w7a b7 k7
               go_wp2
               go_roundg gk
               case measure => omega
               case rel =>
                 exact ⟨false, g2, T ++ g1, u1, rfl, ⟨HU.out⟩, ⟨by rw [← RT.out, hg1]; simp⟩, ⟨by have := RK.out; omega⟩, ⟨F7.out.1⟩, ⟨BW.out.trans F7.out.2.1⟩, ⟨KW.out.trans F7.out.2.2⟩, ⟨F7.out.2.2 _ _ CW.out (fun e => by injection e with e; omega) (fun cs fz h => by cases h)⟩⟩
             | false =>
               have hg1 : s2 = 44 :: (g1 ++ u1) := by have h := HV.out; simp at h; exact h.symm
               have WB2 := Lib.hid (wbyte b (.slice (some ad) n c0) (a : Int) T 44 wq WW.out (by omega))
               go_wp2_with (go_at_call 39; refine (WB2.out).mono ?_)
               rintro e wb ⟨rfl, wa, bn, kn⟩
               have WX := Lib.hid wa
               have BX := Lib.hid (BW.out.trans bn)
               have KX := Lib.hid (KW.out.trans kn)
               have CX := Lib.hid (kn _ _ CW.out (fun e => by injection e with e; omega) (fun cs fz h => by cases h))
               have IH := ih gk (by have := RK.out; omega) b (some ad) c0 l a g2 (T ++ [44]) g1 wb (fun W hW => by rw [hn]; exact HH.out.1 W (BX.out.trans hW)) (by omega) (by omega) HH.out.2.1 (by rw [hn]; exact WX.out) HG.out (by rw [hg1] at hTl; simp at hTl ⊢; omega)
               rw [hn] at IH
               have IH := Lib.hid IH
               clear wa bn kn WB2
               go_wp2_with (go_at_call 22; refine (IH.out).mono ?_)
               rintro e w7 ⟨rfl, w7a, b7, k7⟩
               have F7 := Lib.hid (And.intro w7a (And.intro b7 k7))
               clear w7a b7 k7
               go_wp2
               go_roundg gk
               case measure => omega
               case rel =>
                 exact ⟨false, g2, T ++ [44] ++ g1, u1, rfl, ⟨HU.out⟩, ⟨by rw [← RT.out, hg1]; simp⟩, ⟨by have := RK.out; omega⟩, ⟨F7.out.1⟩, ⟨BX.out.trans F7.out.2.1⟩, ⟨KX.out.trans F7.out.2.2⟩, ⟨F7.out.2.2 _ _ CX.out (fun e => by injection e with e; omega) (fun cs fz h => by cases h)⟩⟩
           · have hd' : decide (c.f0 < x.f0) = false := decide_eq_false hd
             rw [if_neg hd] at hRF
             obtain ⟨h1, h2⟩ := Prod.mk.inj (Option.some.inj hRF)
             have H12 := Lib.hid (And.intro h1 h2)
             clear hx hRF RF h1 h2 hax ex hd hal
             go_wp2
             go_quiet (fail)
             generalize hwq : wr.drewN nq = wq
             have BQ : Hid (Below wr.heap.size wr wq) := Lib.hid (by rw [← hwq]; exact pw_below_drewN (Below.refl _ _) _)
             have hbr : b ≤ wr.heap.size := Nat.le_trans (Nat.le_of_lt hbw) RB.out.size
             have WW := Lib.hid (RW.out.below BQ.out)
             clear hwq hb0 hb1 hc0
             have WB2 := Lib.hid (wbyte b (.slice (some ad) n c0) (a : Int) T 125 wq WW.out (by omega))
             go_wp2_with (go_at_call 39; refine (WB2.out).mono ?_)
             rintro e w7 ⟨rfl, w7a, b7, k7⟩
             have F7 := Lib.hid (And.intro w7a (And.intro b7 k7))
             clear w7a b7 k7
             go_wp2
             first | go_end0 | refine bodyPost_ret (results_none rfl _ _ _) rfl ?_
             obtain ⟨e1, e2⟩ := H12.out
             have hT : T = txt ++ headT c ++ [123] ++ r1 := by have h := RT.out; rw [← e1, List.append_nil] at h; exact h
             have hfin : txt ++ s = T ++ [125] := by rw [hT, ← HSS.out]; simp
             rw [hfin, ← e2]
             exact ⟨rfl, F7.out.1, RB.out.trans ((BQ.out.mono hbr).trans F7.out.2.1), RQ.out.trans ((kept_below BQ.out).trans F7.out.2.2)⟩
end Go.Proofs.YtmpnkckaohfflaaDoor.PGiv
end
section
namespace Go.Proofs.YtmpnkckaohfflaaDoor.PGiv
open Go.RowKit Go.Proofs.YtmpnkckaohfflaaDoorW.PrintWords Go.Proofs.YtmpnkckaohfflaaDoorW.PrintLast Go.Proofs.YtmpnkckaohfflaaDoorW.PrintMore Go.Proofs.YtmpnkckaohfflaaDoor.K Go.Proofs.YtmpnkckaohfflaaDoor.Num
set_option linter.unusedVariables false
set_option linter.unusedSimpArgs false
abbrev Glb (w : World) : Prop := NGiv.Glb w
theorem Glb.below {w W : World} (h : Glb w) (hb : Below w.heap.size w W) : Glb W := NGiv.Glb.below h hb
def layout_Check.f (l0 : List S45) : Option Int := (readF l0).map fun r => if r.isSome then 0 else 40
set_option maxHeartbeats 4000000 in
theorem layout_Check.calls (A0 : Option Addr) (c0 : Nat) (l0 : List S45) (r : Int) (w : World) (hr0 : Kd.C k45 w A0 l0.length l0) (hc0 : l0.length ≤ c0) (h : layout_Check.f l0 = some r) :
   Calls Tryd.prog 17 #[.slice A0 l0.length c0] w fun e w' => e = .returned (.int .i64 r) ∧ Below w.heap.size w w' := by
 obtain ⟨t, ht, hr⟩ := Option.map_eq_some_iff.1 h
 have HR := Lib.hid (read_calls A0 c0 l0 t w hr0 hc0 ht)
 clear hr0 hc0 h
 go_enter Tryd.func17, Tryd.ntmps17
 go_wp2_with (go_at_call 33; refine (HR.out).mono ?_)
 cases t with
 | none =>
   rintro e w1 ⟨rfl, b1⟩
   have B1 := Lib.hid b1
   clear b1
   go_wp2
   go_ret
   exact ⟨by rw [← hr]; rfl, B1.out⟩
 | some t =>
   rintro e w1 ⟨v, rfl, m1, b1⟩
   obtain ⟨tp, bt, rfl, _⟩ := tree_value m1
   have B1 := Lib.hid b1
   clear b1 m1
   go_wp2
   go_ret
   exact ⟨by rw [← hr]; rfl, B1.out⟩
instance (n : Int) : Decidable (i64r n) := inferInstanceAs (Decidable (_ ∧ _))
instance (c : S45) : Decidable (okC c) := inferInstanceAs (Decidable (_ ∧ _ ∧ _ ∧ _ ∧ _))
def textF (l : List S45) : Option ByteArray := (cellF 1000 l 0).bind fun p => (E.plan_Sum.f 200000 ⟨p.1.toArray⟩).bind fun n => (E.plan_four.f n).bind fun q =>
 if (∀ c ∈ l, okC c) ∧ l.length ≤ 1000 ∧ p.1 ≠ [] ∧ p.1.length ≤ 100000 ∧ q.size ≤ 1000 then some (q ++ (⟨#[44]⟩ : ByteArray) ++ ⟨p.1.toArray⟩) else none
def plan_Text.f (l0 : List S45) : Option (ByteArray × Int) := (readF l0).bind fun r => if r.isSome then (textF l0).map fun t => (t, 0) else some (⟨#[]⟩, 40)
theorem wr_new (w : World) (sl : Value) : WrAt w.heap.size sl 0 [] (w.alloc (.cells #[sl, .int .i64 0, .pointer none, .slice none 0 0] 53 (0, 0))) :=
 ⟨_, _, .inl rfl, by show (w.heap.push _)[w.heap.size]? = _; simp, ⟨rfl, .inl ⟨rfl, rfl⟩⟩⟩
set_option maxHeartbeats 8000000 in
set_option maxRecDepth 100000 in
theorem plan_Text.calls (A0 : Option Addr) (c0 : Nat) (l0 : List S45) (r1 : ByteArray) (r2 : Int) (w : World) (HG : Aside0 (Glb w)) (hr0 : Kd.C k45 w A0 l0.length l0) (hc0 : l0.length ≤ c0) (h : plan_Text.f l0 = some (r1, r2)) :
   Calls Tryd.prog 11 #[.slice A0 l0.length c0] w fun e w' => e = .returned (.tuple #[.string r1, .int .i64 r2]) ∧ Below w.heap.size w w' := by
 obtain ⟨t, ht, h⟩ := Option.bind_eq_some_iff.1 h
 cases t with
 | none =>
   obtain ⟨rfl, rfl⟩ := Prod.mk.inj (Option.some.inj h)
   have CK := Lib.hid (layout_Check.calls A0 c0 l0 40 w hr0 hc0 (by rw [layout_Check.f, ht]; rfl))
   clear hr0 hc0 h HG
   go_enter Tryd.func11, Tryd.ntmps11
   go_wp2_with (go_at_call 17; refine (CK.out).mono ?_)
   rintro e w1 ⟨rfl, b1⟩
   have B1 := Lib.hid b1
   clear b1
   go_wp2
   go_ret2
   exact ⟨rfl, B1.out⟩
 | some t =>
   obtain ⟨u, hu, he⟩ := Option.map_eq_some_iff.1 (show (textF l0).map (fun t => (t, (0 : Int))) = some (r1, r2) from h)
   obtain ⟨rfl, rfl⟩ := Prod.mk.inj he
   obtain ⟨⟨s, j⟩, hs, hu⟩ := Option.bind_eq_some_iff.1 hu
   obtain ⟨n, hn, hu⟩ := Option.bind_eq_some_iff.1 hu
   obtain ⟨q, hq, hu⟩ := Option.bind_eq_some_iff.1 hu
   by_cases hc : (∀ c ∈ l0, okC c) ∧ l0.length ≤ 1000 ∧ s ≠ [] ∧ s.length ≤ 100000 ∧ q.size ≤ 1000
   case neg => rw [if_neg hc] at hu; cases hu
   rw [if_pos hc] at hu
   obtain rfl := Option.some.inj hu
   have CK := Lib.hid (layout_Check.calls A0 c0 l0 0 w hr0 hc0 (by rw [layout_Check.f, ht]; rfl))
   have HH := Lib.hid (And.intro hr0 (And.intro hc0 hc))
   have HS := Lib.hid (And.intro hs (And.intro hn hq))
   clear hr0 hc0 h he hu hs hn hq hc ht
   go_enter Tryd.func11, Tryd.ntmps11
   go_wp2_with (go_at_call 17; refine (CK.out).mono ?_; rintro e w1 ⟨rfl, b1⟩)
   have B1 := Lib.hid b1
   clear b1
   have WN := Lib.hid (wr_new w1 (.slice A0 l0.length c0))
   have BN := Lib.hid (show Below w1.heap.size w1 (w1.alloc (.cells #[.slice A0 l0.length c0, .int .i64 0, .pointer none, .slice none 0 0] 53 (0, 0))) from (Below.refl _ _).alloc (Nat.le_refl _) _)
   have CC := Lib.hid (cell_calls 1000 w1.heap.size A0 c0 l0 0 j [] s _ (fun W hW => ⟨Kd.C_below HH.out.1 (B1.out.trans ((BN.out.trans hW).mono B1.out.size)), Glb.below HG.out (B1.out.trans ((BN.out.trans hW).mono B1.out.size))⟩) HH.out.2.1 (by have := HH.out.2.2.2.1; omega) HH.out.2.2.1 WN.out HS.out.1 (by have := HH.out.2.2.2.2.2.1; simp; omega))
   go_wp2_with (go_at_call 22; refine (CC.out).mono ?_; rintro e w2 ⟨rfl, wt, b2, _⟩)
   have WT := Lib.hid (wtext _ _ _ _ w2 wt (by rw [List.nil_append]; exact HH.out.2.2.2.2.1))
   rw [List.nil_append] at WT
   obtain ⟨sb, hsb⟩ : ∃ sb : ByteArray, sb = ⟨s.toArray⟩ := ⟨_, rfl⟩
   rw [← hsb] at WT
   have HSB := Lib.hid hsb
   have hsu : E.plan_Sum.f 200000 sb = some n := by rw [hsb]; exact HS.out.2.1
   have hss : sb.size ≤ 100000 := by rw [hsb]; exact HH.out.2.2.2.2.2.1
   have HSU := Lib.hid hsu
   clear hsb hsu
   have B2 := Lib.hid (B1.out.trans ((BN.out.trans b2).mono B1.out.size))
   have hle : w.heap.size ≤ w1.heap.size := B1.out.size
   clear wt b2 CC WN BN
   go_wp2_with (go_at_call 23; refine (WT.out).mono ?_; rintro e w3 ⟨rfl, b3⟩)
   have B3 := Lib.hid (B2.out.trans (b3.mono hle))
   clear b3 WT B2
   have hqs := HH.out.2.2.2.2.2.2
   have g1 : q.size + 1 ≤ 9223372036854775807 := by omega
   have g2 : q.size + 1 + sb.size ≤ 9223372036854775807 := by omega
   have g3 : (q ++ (⟨#[44]⟩ : ByteArray)).size + sb.size ≤ 9223372036854775807 := by rw [ByteArray.size_append]; exact g2
   have n1 := eq_false (Nat.not_lt.2 g1)
   have n2 := eq_false (Nat.not_lt.2 g2)
   have n3 := eq_false (Nat.not_lt.2 g3)
   replace g1 := eq_true g1
   replace g2 := eq_true g2
   replace g3 := eq_true g3
   have SU := Lib.hid (E.plan_Sum.calls 200000 sb n w3 HSU.out)
   go_wp2_with (go_at_call 25; refine (SU.out).mono ?_; rintro e w4 ⟨rfl, ⟨m4, rfl⟩⟩)
   have FO := Lib.hid (E.plan_four.calls n q (w3.drewN m4) HS.out.2.2)
   go_wp2_with (go_at_call 24; refine (FO.out).mono ?_; rintro e w5 ⟨rfl, b5⟩)
   have B5 := Lib.hid ((pw_below_drewN B3.out m4).trans (b5.mono (Nat.le_trans B3.out.size (Nat.le_refl _))))
   go_ret2
   rw [← HSB.out]
   exact ⟨rfl, B5.out⟩
end Go.Proofs.YtmpnkckaohfflaaDoor.PGiv
end
section
namespace Go.Proofs.YtmpnkckaohfflaaDoor.PGiv
open Go.RowKit Go.Proofs.YtmpnkckaohfflaaDoorW.PrintWords Go.Proofs.YtmpnkckaohfflaaDoorW.PrintLast Go.Proofs.YtmpnkckaohfflaaDoorW.PrintMore Go.Proofs.YtmpnkckaohfflaaDoor.K Go.Proofs.YtmpnkckaohfflaaDoor.Num
set_option linter.unusedVariables false
set_option linter.unusedSimpArgs false
abbrev brokenV : Value := .iface 88 (.agg #[])
def Brk (b : Nat) (w : World) (e : Ending) (w' : World) : Prop := e = .panicked [{ v := brokenV, recovered := false }] ∧ Below b w w'
theorem give_calls (a : Option Addr) (w : World) : Calls Tryd.prog 45 #[.pointer a] w fun e w' => e = .panicked [{ v := brokenV, recovered := false }] ∧ w' = w := by
 go_enter Tryd.func45, Tryd.ntmps45
 go_wp2
 exact ⟨rfl, rfl, rfl⟩
def RdBlk (b : Nat) (s : ByteArray) (n : Int) (sl : Value) (w : World) : Prop := w.heap[b]? = some (.cells #[.string s, .int .i64 n, sl] 86 (0, 0))
def Fr (b : Nat) (w w' : World) : Prop := Below b w w' ∧ ∀ k, k ≠ b → k < w.heap.size → w'.heap[k]? = w.heap[k]?
theorem Fr.refl (b : Nat) (w : World) : Fr b w w := ⟨Below.refl _ _, fun _ _ _ => rfl⟩
theorem Fr.trans {b : Nat} {w1 w2 w3 : World} (h : Fr b w1 w2) (k : Fr b w2 w3) : Fr b w1 w3 := ⟨h.1.trans k.1, fun i hi hl => (k.2 i hi (Nat.lt_of_lt_of_le hl h.1.size)).trans (h.2 i hi hl)⟩
theorem Fr.below {b : Nat} {w w' : World} (hb : b ≤ w.heap.size) (h : Below w.heap.size w w') : Fr b w w' := ⟨h.mono hb, fun k _ hk => h.block k hk⟩
theorem Fr.drewN (b : Nat) (w : World) (n : Nat) : Fr b w (w.drewN n) := ⟨pw_below_drewN (Below.refl _ _) n, fun _ _ _ => rfl⟩
theorem Fr.set {b : Nat} {w w' : World} (h : Fr b w w') (j : Nat) (v : Value) : Fr b w (w'.setCell ⟨b, j, none⟩ v) := ⟨h.1.setCell (p := ⟨b, j, none⟩) (Nat.le_refl _) _, fun k hk hl => (Below.heap_setCell _ _ _ k hk).trans (h.2 k hk hl)⟩
def rdNext (s : ByteArray) (a : Nat) : Option (UInt8 × Nat) := if h : a < s.size then some (s[a], a + 1) else none
def NextPost (b : Nat) (s : ByteArray) (sl : Value) (r : Option (UInt8 × Nat)) (w : World) (e : Ending) (w' : World) : Prop :=
 match r with
 | none => Brk b w e w'
 | some (c, a') => e = .returned (.int .u8 c.toNat) ∧ RdBlk b s a' sl w' ∧ Fr b w w'
set_option maxHeartbeats 2000000 in
set_option maxRecDepth 100000 in
theorem next_calls (b : Nat) (s : ByteArray) (a : Nat) (sl : Value) (w : World) (h : RdBlk b s a sl w) (hs : s.size ≤ 1000000) :
   Calls Tryd.prog 66 #[.pointer (some ⟨b, 0, none⟩)] w fun e w' => NextPost b s sl (rdNext s a) w e w' := by
 have h0 : w.cell? ⟨b, 0, none⟩ = some (.string s) := (blk_cell h 0).trans rfl
 have h1 : w.cell? ⟨b, 1, none⟩ = some (.int .i64 a) := (blk_cell h 1).trans rfl
 have HB := Lib.hid h
 clear h
 unfold rdNext
 go_enter Tryd.func66, Tryd.ntmps66
 by_cases ha : a < s.size
 · rw [dif_pos ha]
   have d1 : decide ((s.size : Int) ≤ (a : Int)) = false := decide_eq_false (by omega)
   go_wp2
   go_quiet (fail)
   generalize hq : w.drewN nq = wq
   have HQ := Lib.hid (show RdBlk b s a sl wq by rw [← hq]; exact HB.out)
   have FQ := Lib.hid (show Fr b w wq by rw [← hq]; exact Fr.drewN _ _ _)
   have q1 : wq.cell? ⟨b, 1, none⟩ = some (.int .i64 a) := (blk_cell HQ.out 1).trans rfl
   have f1 : wq.frozen? ⟨b, 1, none⟩ = false := blk_frozen HQ.out 1
   clear hq h0 h1
   go_wp2
   have HS := Lib.hid (show RdBlk b s ((a : Int) + 1) sl (wq.setCell ⟨b, 1, none⟩ (.int .i64 ((a : Int) + 1))) from blk_put HQ.out 1 _ rfl)
   have FS := Lib.hid (FQ.out.set 1 (.int .i64 ((a : Int) + 1)))
   generalize wq.setCell ⟨b, 1, none⟩ (.int .i64 ((a : Int) + 1)) = ws at HS FS ⊢
   have s0 : ws.cell? ⟨b, 0, none⟩ = some (.string s) := (blk_cell HS.out 0).trans rfl
   have s1 : ws.cell? ⟨b, 1, none⟩ = some (.int .i64 ((a : Int) + 1)) := (blk_cell HS.out 1).trans rfl
   clear q1 f1
   go_quiet (fail)
   go_wp2
   go_ret
   exact ⟨rfl, by have h := HS.out; rw [show (a : Int) + 1 = ((a + 1 : Nat) : Int) by omega] at h; exact h, FS.out.trans (Fr.drewN _ _ _)⟩
 · rw [dif_neg ha]
   have d1 : decide ((s.size : Int) ≤ (a : Int)) = true := decide_eq_true (by omega)
   go_wp2
   go_quiet (fail)
   go_wp2_with (go_at_call 45; refine (give_calls _ _).mono ?_; rintro e w' ⟨rfl, hw⟩; rw [hw]; clear hw w')
   exact ⟨rfl, rfl, pw_below_drewN (Below.refl _ _) _⟩
def rdMust (s : ByteArray) (a : Nat) (c : UInt8) : Option Nat := match rdNext s a with | none => none | some (d, a') => if d = c then some a' else none
def MustPost (b : Nat) (s : ByteArray) (sl : Value) (r : Option Nat) (w : World) (e : Ending) (w' : World) : Prop :=
 match r with
 | none => Brk b w e w'
 | some a' => e = .returned (.tuple #[]) ∧ RdBlk b s a' sl w' ∧ Fr b w w'
set_option maxHeartbeats 2000000 in
set_option maxRecDepth 100000 in
theorem must_calls (b : Nat) (s : ByteArray) (a : Nat) (sl : Value) (c : UInt8) (ci : Int) (hci : (c.toNat : Int) = ci) (w : World) (h : RdBlk b s a sl w) (hs : s.size ≤ 1000000) :
   Calls Tryd.prog 65 #[.pointer (some ⟨b, 0, none⟩), .int .u8 ci] w fun e w' => MustPost b s sl (rdMust s a c) w e w' := by
 subst hci
 have NX := Lib.hid (next_calls b s a sl w h hs)
 unfold rdMust
 go_enter Tryd.func65, Tryd.ntmps65
 cases hx : rdNext s a with
 | none =>
   rw [hx] at NX
   go_wp2_with (go_at_call 66; refine (NX.out).mono ?_; rintro e w' ⟨rfl, hb⟩)
   exact ⟨rfl, rfl, hb⟩
 | some r =>
   obtain ⟨d, a'⟩ := r
   rw [hx] at NX
   by_cases hd : d = c
   · have hd' : ((d.toNat : Int) != (c.toNat : Int)) = false := by rw [hd]; simp
     have hd2 : (d.toNat != c.toNat) = false := by rw [hd]; simp
     simp only [if_pos hd]
     clear hd hx
     go_wp2_with (go_at_call 66; refine (NX.out).mono ?_; rintro e w' ⟨rfl, hb, hf⟩)
     first | go_end0 | refine bodyPost_ret (results_none rfl _ _ _) rfl ?_
     exact ⟨rfl, hb, hf⟩
   · have hne : d.toNat ≠ c.toNat := fun e => hd (UInt8.toNat_inj.1 e)
     have hd' : ((d.toNat : Int) != (c.toNat : Int)) = true := bne_iff_ne.mpr (by omega)
     have hd2 : (d.toNat != c.toNat) = true := bne_iff_ne.mpr hne
     simp only [if_neg hd]
     clear hd hx hne
     go_wp2_with (first | (go_at_call 66; refine (NX.out).mono ?_; rintro e w' ⟨rfl, hb, hf⟩) | (go_at_call 45; refine (give_calls _ _).mono ?_; rintro e w'' ⟨rfl, hw⟩; rw [hw]; clear hw w''))
     exact ⟨rfl, rfl, hf.1⟩
def digEnd : Nat → ByteArray → Nat → Nat
 | 0, _, a => a
 | k + 1, s, a => if h : a < s.size then (if 48 ≤ s[a].toNat ∧ s[a].toNat ≤ 57 then digEnd k s (a + 1) else a) else a
theorem digEnd_le (s : ByteArray) : ∀ k a, a ≤ s.size → a ≤ digEnd k s a ∧ digEnd k s a ≤ s.size
 | 0, a, h => ⟨Nat.le_refl _, h⟩
 | k + 1, a, h => by
   rw [digEnd]
   split
   · split
     · have := digEnd_le s k (a + 1) (by omega)
       omega
     · exact ⟨Nat.le_refl _, h⟩
   · exact ⟨Nat.le_refl _, h⟩
def rdNumber (s : ByteArray) (a : Nat) : Option (Int × Nat) := if (numOf (s.extract a (digEnd (s.size - a) s a)).data.toList).2 = true then some ((numOf (s.extract a (digEnd (s.size - a) s a)).data.toList).1, digEnd (s.size - a) s a) else none
def NumPost (b : Nat) (s : ByteArray) (sl : Value) (r : Option (Int × Nat)) (w : World) (e : Ending) (w' : World) : Prop :=
 match r with
 | none => Brk b w e w'
 | some (n, a') => e = .returned (.int .i64 n) ∧ RdBlk b s a' sl w' ∧ Fr b w w'
set_option maxHeartbeats 8000000 in
set_option maxRecDepth 100000 in
theorem rdnumber_calls (b : Nat) (s : ByteArray) (a : Nat) (sl : Value) (w : World) (h : RdBlk b s a sl w) (hs : s.size ≤ 1000000) (ha : a ≤ s.size) (HG : ∀ W, Below b w W → Glb W) :
   Calls Tryd.prog 64 #[.pointer (some ⟨b, 0, none⟩)] w fun e w' => NumPost b s sl (rdNumber s a) w e w' := by
 have h1 : w.cell? ⟨b, 1, none⟩ = some (.int .i64 a) := (blk_cell h 1).trans rfl
 have HB := Lib.hid h
 have HG := Lib.hid HG
 unfold rdNumber
 generalize hE : digEnd (s.size - a) s a = E
 have hE2 := digEnd_le s (s.size - a) a ha
 rw [hE] at hE2
 have HE := Lib.hid hE
 clear hE h
 generalize hnm : numOf (s.extract a E).data.toList = nm
 have HN := Lib.hid hnm
 clear hnm
 obtain ⟨num, ok⟩ := nm
 go_enter Tryd.func64, Tryd.ntmps64
 go_wp2
 go_loopg [] (s.size - a) (fun kq wr => ∃ (i : Nat), Aside0 (digEnd kq s i = E) ∧ Aside0 (i + kq = s.size) ∧ Aside0 (a ≤ i) ∧ Aside0 (RdBlk b s i sl wr) ∧ Aside0 (Fr b w wr))
 case atStart => exact ⟨a, ⟨HE.out⟩, ⟨by omega⟩, ⟨Nat.le_refl _⟩, ⟨HB.out⟩, ⟨Fr.refl _ _⟩⟩
 case round =>
   clear h1
   obtain ⟨i, RE, RI, RA, RW, RF⟩ := hrel
   have r0 : wr.cell? ⟨b, 0, none⟩ = some (.string s) := (blk_cell RW.out 0).trans rfl
   have r1 : wr.cell? ⟨b, 1, none⟩ = some (.int .i64 i) := (blk_cell RW.out 1).trans rfl
   cases gk with
   | zero =>
     have hi : i = E := RE.out
     have his : i = s.size := RI.out
     subst hi
     have d1 : decide ((i : Int) < (s.size : Int)) = false := decide_eq_false (by omega)
     have d2 : decide (i < s.size) = false := decide_eq_false (by omega)
     clear his
     go_wp2
     go_quiet (fail)
     generalize hq : wr.drewN nq = wq
     have HQ := Lib.hid (show RdBlk b s i sl wq by rw [← hq]; exact RW.out)
     have FQ := Lib.hid (show Fr b w wq by rw [← hq]; exact RF.out.trans (Fr.drewN _ _ _))
     clear hq r0 r1
     have haE : a ≤ i := hE2.1
     have hEs : i ≤ s.size := hE2.2
     have hex : (s.extract a i).size ≤ 281474976710656 := by rw [ByteArray.size_extract]; omega
     have HX := Lib.hid hex
     clear hex
     have hle : b ≤ w.heap.size := Nat.le_of_lt (blk_lt HB.out)
     have hle2 : b ≤ wq.heap.size := Nat.le_trans hle FQ.out.1.size
     go_wp2
     have CQ := Lib.hid (show RdBlk b s i sl wq.drew from HQ.out)
     have y0 : wq.drew.cell? ⟨b, 0, none⟩ = some (.string s) := (blk_cell CQ.out 0).trans rfl
     have y1 : wq.drew.cell? ⟨b, 1, none⟩ = some (.int .i64 i) := (blk_cell CQ.out 1).trans rfl
     have GQ := Lib.hid (HG.out wq.drew (FQ.out.1.trans (Below.refl _ _).drew))
     have hg0 : (0 ≤ (a : Int)) = True := eq_true (by omega)
     have hg1 : ((a : Int) ≤ (i : Int)) = True := eq_true (by omega)
     have hg2 : ((i : Int) ≤ (s.size : Int)) = True := eq_true (by omega)
     have NB := NGiv.number_calls (s.extract a i) HX.out wq.drew GQ.out
     rw [HN.out] at NB
     have NB := Lib.hid NB
     go_region_held3 (fun w' => w'.cell? ⟨b, 0, none⟩ = some (.string s) ∧ w'.cell? ⟨b, 1, none⟩ = some (.int .i64 i))
       (first | exact ⟨y0, y1⟩)
       (first
         | (go_at_call 74
            with_reducible refine (NB.out).mono ?_
            rintro e wn ⟨rfl, bn⟩
            have CQ := Lib.hid (show RdBlk b s i sl wn from (bn.block _ (blk_lt CQ.out)).trans CQ.out)
            have FN := Lib.hid (FQ.out.trans ((Fr.drewN b wq 1).trans (Fr.below hle2 bn)))
            have y0 : wn.cell? ⟨b, 0, none⟩ = some (.string s) := (blk_cell CQ.out 0).trans rfl
            have y1 : wn.cell? ⟨b, 1, none⟩ = some (.int .i64 i) := (blk_cell CQ.out 1).trans rfl
            clear bn))
     cases ok with
     | true =>
       go_wp2
       go_ret
       exact ⟨rfl, CQ.out, FN.out⟩
     | false =>
       go_wp2_with (go_at_call 45; refine (give_calls _ _).mono ?_; rintro e w' ⟨rfl, hw⟩; rw [hw]; clear hw w')
       exact ⟨rfl, rfl, FN.out.1⟩
   | succ gk =>
     have his : i < s.size := by have := RI.out; omega
     have d1 : decide ((i : Int) < (s.size : Int)) = true := decide_eq_true (by omega)
     have d2 : decide (i < s.size) = true := decide_eq_true (by omega)
     have hR := RE.out
     rw [digEnd, dif_pos his] at hR
     by_cases c1 : 48 ≤ s[i].toNat
     · have c1' : decide (48 ≤ s[i].toNat) = true := decide_eq_true c1
       have c1i : decide ((48 : Int) ≤ (s[i].toNat : Int)) = true := decide_eq_true (by omega)
       by_cases c2 : s[i].toNat ≤ 57
       · have c2' : decide (s[i].toNat ≤ 57) = true := decide_eq_true c2
         have c2i : decide ((s[i].toNat : Int) ≤ (57 : Int)) = true := decide_eq_true (by omega)
         rw [if_pos ⟨c1, c2⟩] at hR
         have HR := Lib.hid hR
         clear hR c1 c2
         go_wp2
         go_quiet (fail)
         generalize hq : wr.drewN nq = wq
         have HQ := Lib.hid (show RdBlk b s i sl wq by rw [← hq]; exact RW.out)
         have FQ := Lib.hid (show Fr b w wq by rw [← hq]; exact RF.out.trans (Fr.drewN _ _ _))
         clear hq r0 r1
         have q1 : wq.cell? ⟨b, 1, none⟩ = some (.int .i64 i) := (blk_cell HQ.out 1).trans rfl
         have f1 : wq.frozen? ⟨b, 1, none⟩ = false := blk_frozen HQ.out 1
         go_wp2
         go_roundg gk
         case measure => omega
         case rel =>
           refine ⟨i + 1, ⟨HR.out⟩, ⟨by have := RI.out; omega⟩, ⟨by have := RA.out; omega⟩, ⟨?_⟩, ⟨FQ.out.set 1 _⟩⟩
           rw [show ((i + 1 : Nat) : Int) = (i : Int) + 1 by omega]
           exact blk_put HQ.out 1 _ rfl
       · have c2' : decide (s[i].toNat ≤ 57) = false := decide_eq_false c2
         have c2i : decide ((s[i].toNat : Int) ≤ (57 : Int)) = false := decide_eq_false (by omega)
         rw [if_neg (fun h => c2 h.2)] at hR
         subst hR
         clear c1 c2
         go_wp2
         go_quiet (fail)
         generalize hq : wr.drewN nq = wq
         have HQ := Lib.hid (show RdBlk b s i sl wq by rw [← hq]; exact RW.out)
         have FQ := Lib.hid (show Fr b w wq by rw [← hq]; exact RF.out.trans (Fr.drewN _ _ _))
         clear hq r0 r1
         have haE : a ≤ i := hE2.1
         have hEs : i ≤ s.size := hE2.2
         have hex : (s.extract a i).size ≤ 281474976710656 := by rw [ByteArray.size_extract]; omega
         have HX := Lib.hid hex
         clear hex
         have hle : b ≤ w.heap.size := Nat.le_of_lt (blk_lt HB.out)
         have hle2 : b ≤ wq.heap.size := Nat.le_trans hle FQ.out.1.size
         go_wp2
         have CQ := Lib.hid (show RdBlk b s i sl wq.drew from HQ.out)
         have y0 : wq.drew.cell? ⟨b, 0, none⟩ = some (.string s) := (blk_cell CQ.out 0).trans rfl
         have y1 : wq.drew.cell? ⟨b, 1, none⟩ = some (.int .i64 i) := (blk_cell CQ.out 1).trans rfl
         have GQ := Lib.hid (HG.out wq.drew (FQ.out.1.trans (Below.refl _ _).drew))
         have hg0 : (0 ≤ (a : Int)) = True := eq_true (by omega)
         have hg1 : ((a : Int) ≤ (i : Int)) = True := eq_true (by omega)
         have hg2 : ((i : Int) ≤ (s.size : Int)) = True := eq_true (by omega)
         have NB := NGiv.number_calls (s.extract a i) HX.out wq.drew GQ.out
         rw [HN.out] at NB
         have NB := Lib.hid NB
         go_region_held3 (fun w' => w'.cell? ⟨b, 0, none⟩ = some (.string s) ∧ w'.cell? ⟨b, 1, none⟩ = some (.int .i64 i))
           (first | exact ⟨y0, y1⟩)
           (first
             | (go_at_call 74
                with_reducible refine (NB.out).mono ?_
                rintro e wn ⟨rfl, bn⟩
                have CQ := Lib.hid (show RdBlk b s i sl wn from (bn.block _ (blk_lt CQ.out)).trans CQ.out)
                have FN := Lib.hid (FQ.out.trans ((Fr.drewN b wq 1).trans (Fr.below hle2 bn)))
                have y0 : wn.cell? ⟨b, 0, none⟩ = some (.string s) := (blk_cell CQ.out 0).trans rfl
                have y1 : wn.cell? ⟨b, 1, none⟩ = some (.int .i64 i) := (blk_cell CQ.out 1).trans rfl
                clear bn))
         cases ok with
         | true =>
           go_wp2
           go_ret
           exact ⟨rfl, CQ.out, FN.out⟩
         | false =>
           go_wp2_with (go_at_call 45; refine (give_calls _ _).mono ?_; rintro e w' ⟨rfl, hw⟩; rw [hw]; clear hw w')
           exact ⟨rfl, rfl, FN.out.1⟩
     · have c1' : decide (48 ≤ s[i].toNat) = false := decide_eq_false c1
       have c1i : decide ((48 : Int) ≤ (s[i].toNat : Int)) = false := decide_eq_false (by omega)
       rw [if_neg (fun h => c1 h.1)] at hR
       subst hR
       clear c1
       go_wp2
       go_quiet (fail)
       generalize hq : wr.drewN nq = wq
       have HQ := Lib.hid (show RdBlk b s i sl wq by rw [← hq]; exact RW.out)
       have FQ := Lib.hid (show Fr b w wq by rw [← hq]; exact RF.out.trans (Fr.drewN _ _ _))
       clear hq r0 r1
       have haE : a ≤ i := hE2.1
       have hEs : i ≤ s.size := hE2.2
       have hex : (s.extract a i).size ≤ 281474976710656 := by rw [ByteArray.size_extract]; omega
       have HX := Lib.hid hex
       clear hex
       have hle : b ≤ w.heap.size := Nat.le_of_lt (blk_lt HB.out)
       have hle2 : b ≤ wq.heap.size := Nat.le_trans hle FQ.out.1.size
       go_wp2
       have CQ := Lib.hid (show RdBlk b s i sl wq.drew from HQ.out)
       have y0 : wq.drew.cell? ⟨b, 0, none⟩ = some (.string s) := (blk_cell CQ.out 0).trans rfl
       have y1 : wq.drew.cell? ⟨b, 1, none⟩ = some (.int .i64 i) := (blk_cell CQ.out 1).trans rfl
       have GQ := Lib.hid (HG.out wq.drew (FQ.out.1.trans (Below.refl _ _).drew))
       have hg0 : (0 ≤ (a : Int)) = True := eq_true (by omega)
       have hg1 : ((a : Int) ≤ (i : Int)) = True := eq_true (by omega)
       have hg2 : ((i : Int) ≤ (s.size : Int)) = True := eq_true (by omega)
       have NB := NGiv.number_calls (s.extract a i) HX.out wq.drew GQ.out
       rw [HN.out] at NB
       have NB := Lib.hid NB
       go_region_held3 (fun w' => w'.cell? ⟨b, 0, none⟩ = some (.string s) ∧ w'.cell? ⟨b, 1, none⟩ = some (.int .i64 i))
         (first | exact ⟨y0, y1⟩)
         (first
           | (go_at_call 74
              with_reducible refine (NB.out).mono ?_
              rintro e wn ⟨rfl, bn⟩
              have CQ := Lib.hid (show RdBlk b s i sl wn from (bn.block _ (blk_lt CQ.out)).trans CQ.out)
              have FN := Lib.hid (FQ.out.trans ((Fr.drewN b wq 1).trans (Fr.below hle2 bn)))
              have y0 : wn.cell? ⟨b, 0, none⟩ = some (.string s) := (blk_cell CQ.out 0).trans rfl
              have y1 : wn.cell? ⟨b, 1, none⟩ = some (.int .i64 i) := (blk_cell CQ.out 1).trans rfl
              clear bn))
       cases ok with
       | true =>
         go_wp2
         go_ret
         exact ⟨rfl, CQ.out, FN.out⟩
       | false =>
         go_wp2_with (go_at_call 45; refine (give_calls _ _).mono ?_; rintro e w' ⟨rfl, hw⟩; rw [hw]; clear hw w')
         exact ⟨rfl, rfl, FN.out.1⟩
end Go.Proofs.YtmpnkckaohfflaaDoor.PGiv
end
section
namespace Go.Proofs.YtmpnkckaohfflaaDoor.PGiv
open Go.RowKit Go.Proofs.YtmpnkckaohfflaaDoorW.PrintWords Go.Proofs.YtmpnkckaohfflaaDoorW.PrintLast Go.Proofs.YtmpnkckaohfflaaDoorW.PrintMore Go.Proofs.YtmpnkckaohfflaaDoor.K
set_option linter.unusedVariables false
set_option linter.unusedSimpArgs false
theorem cell_new0 (w1 : World) (o : Obj) : (w1.alloc o).heap[w1.heap.size]? = some o ∧ (∀ k : Nat, k < w1.heap.size → (w1.alloc o).heap[k]? = w1.heap[k]?) ∧ (w1.alloc o).heap.size = w1.heap.size + 1 ∧ (∀ B, B ≤ w1.heap.size → Below B w1 (w1.alloc o)) := by
 have e : (w1.alloc o).heap = w1.heap.push o := rfl
 exact ⟨by rw [e]; simp, fun k hk => Below.heap_alloc w1 o k hk, by rw [e]; simp, fun B hB => (Below.refl B w1).alloc hB o⟩
theorem seg_ne {xs : List Value} {p m : Nat} {u : Value} (h : m * 7 + 7 ≤ p ∨ p < m * 7) : ((xs.set p u).drop (m * 7)).take 7 = (xs.drop (m * 7)).take 7 := by
 apply List.ext_getElem?
 intro i
 rw [List.getElem?_take, List.getElem?_take]
 split
 · rw [List.getElem?_drop, List.getElem?_drop, List.getElem?_set_ne (by omega)]
 · rfl
theorem seg_eq {xs : List Value} {m j : Nat} {u : Value} (hj : j < 7) : ((xs.set (m * 7 + j) u).drop (m * 7)).take 7 = ((xs.drop (m * 7)).take 7).set j u := by
 apply List.ext_getElem?
 intro i
 by_cases h : i = j
 · subst h
   have e : (i < ((xs.drop (m * 7)).take 7).length) ↔ (m * 7 + i < xs.length) := by
     rw [List.length_take, List.length_drop]
     omega
   rw [List.getElem?_take_of_lt hj, List.getElem?_drop, List.getElem?_set, List.getElem?_set]
   simp only [e, if_true]
 · rw [List.getElem?_set_ne (fun e => h e.symm), List.getElem?_take, List.getElem?_take]
   split
   · rw [List.getElem?_drop, List.getElem?_drop, List.getElem?_set_ne (by omega)]
   · rfl
theorem row_set {w : World} {base n cap g : Nat} {ok : Nat → Prop} {L : List S45} {x x' : S45} {u : Value} {j : Nat} (h : Kd.R k45 45 w base ok (.slice (some ⟨g, 0, none⟩) n cap) (L ++ [x])) (hj : j < 7)
   (hx : [Value.int .i64 x'.f0, .int .i64 x'.f1, .int .i64 x'.f2, .int .i64 x'.f3, .int .i64 x'.f4, .int .i64 x'.f5, .int .i64 x'.f6] = [Value.int .i64 x.f0, .int .i64 x.f1, .int .i64 x.f2, .int .i64 x.f3, .int .i64 x.f4, .int .i64 x.f5, .int .i64 x.f6].set j u) :
   Kd.R k45 45 (w.setCell ⟨g, L.length * 7 + j, none⟩ u) base ok (.slice (some ⟨g, 0, none⟩) n cap) (L ++ [x']) := by
 obtain ⟨hok, inner, ⟨hl, hown⟩, hr1, hr2⟩ := h
 rcases hown with ⟨e, _⟩ | ⟨g', cap', cur, e, hb, hh, hnc, hcm, hcs, ht⟩
 · cases e
 injection e with e1 e2 e3
 injection e1 with e1
 injection e1 with e1
 subst e1 e3
 have hr1' : inner.length = (L ++ [x]).length * 7 := hr1
 have hn : (L ++ [x]).length = L.length + 1 := by simp
 have hsz : k45.sz = 7 := rfl
 have hn' : (L ++ [x']).length = L.length + 1 := by simp
 refine ⟨hok, inner.set (L.length * 7 + j) u, ⟨by rw [List.length_set, hl, hn, hn'], .inr ⟨g, cap, cur.setIfInBounds (L.length * 7 + j) u, by rw [e2, hn, hn'], hb, blk_set hh _ _, by rw [hn']; rw [hn] at hnc; exact hnc, hcm, by simpa using hcs, ?_⟩⟩, ?_⟩
 · have : (cur.setIfInBounds (L.length * 7 + j) u).toList = cur.toList.set (L.length * 7 + j) u := by simp
   rw [this, List.take_set]
   have ht' : cur.toList.take ((L ++ [x]).length * 7) = inner := ht
   rw [hn] at ht'
   rw [hn', hsz, ht']
 · refine ⟨by rw [List.length_set, hr1, hn, hn'], fun m p hm => ?_⟩
   by_cases hmL : m < L.length
   · have hm' : (L ++ [x])[m]? = some p := by rw [List.getElem?_append_left hmL] at hm ⊢; exact hm
     have h1 := hr2 m p hm'
     have h2 : ((inner.set (L.length * 7 + j) u).drop (m * 7)).take 7 = (inner.drop (m * 7)).take 7 := seg_ne (.inl (by omega))
     have h3 : k45.M w base (fun k => ok k ∧ some k ≠ (Value.slice (some ⟨g, 0, none⟩) n cap).ownBlock) p ((inner.drop (m * 7)).take 7) := h1
     have h4 := k45_openM h3
     show k45.M _ base _ p (((inner.set (L.length * 7 + j) u).drop (m * 7)).take 7)
     rw [h2, h4]
     exact k45_mkM _ _ _ p
   · have hmL' : m = L.length := by
       have := List.getElem?_eq_some_iff.1 hm
       obtain ⟨h, _⟩ := this
       simp at h
       omega
     subst hmL'
     have hp : p = x' := by simpa using hm.symm
     subst hp
     have h1 := hr2 L.length x (by simp)
     have h3 : k45.M w base (fun k => ok k ∧ some k ≠ (Value.slice (some ⟨g, 0, none⟩) n cap).ownBlock) x ((inner.drop (L.length * 7)).take 7) := h1
     have h4 := k45_openM h3
     show k45.M _ base _ p (((inner.set (L.length * 7 + j) u).drop (L.length * 7)).take 7)
     rw [seg_eq hj, h4, ← hx]
     exact k45_mkM _ _ _ p
theorem row_last {w : World} {base : Nat} {ok : Nat → Prop} {L : List S45} {x : S45} {v : Value} (h : Kd.R k45 45 w base ok v (L ++ [x])) :
   ∃ g cap, v = .slice (some ⟨g, 0, none⟩) (L.length + 1) cap ∧ base ≤ g ∧ g < w.heap.size ∧ (∀ j, w.frozen? ⟨g, j, none⟩ = false) ∧
     (∀ j u, [Value.int .i64 x.f0, .int .i64 x.f1, .int .i64 x.f2, .int .i64 x.f3, .int .i64 x.f4, .int .i64 x.f5, .int .i64 x.f6][j]? = some u → w.cell? ⟨g, L.length * 7 + j, none⟩ = some u) := by
 obtain ⟨hok, inner, ⟨hl, hown⟩, hr1, hr2⟩ := h
 rcases hown with ⟨_, e⟩ | ⟨g, cap, cur, rfl, hb, hh, hnc, hcm, hcs, ht⟩
 · simp at e
 refine ⟨g, cap, by simp, hb, blk_lt hh, fun j => blk_frozen hh j, fun j u hu => ?_⟩
 have h1 := hr2 L.length x (by simp)
 have h3 : k45.M w base _ x ((inner.drop (L.length * 7)).take 7) := h1
 have h4 := k45_openM h3
 have hj : j < 7 := by
   have := List.getElem?_eq_some_iff.1 hu
   obtain ⟨h, _⟩ := this
   simpa using h
 rw [← h4, List.getElem?_take_of_lt hj, List.getElem?_drop] at hu
 have hin : inner[L.length * 7 + j]? = some u := hu
 rw [blk_cell hh]
 have ht' : cur.toList.take ((L ++ [x]).length * 7) = inner := ht
 rw [← ht', List.getElem?_take] at hin
 split at hin
 · simpa using hin
 · cases hin
end Go.Proofs.YtmpnkckaohfflaaDoor.PGiv
end
