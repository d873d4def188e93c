/- An argument that is a slice of cells, opened. No condition. -/
import Derived.Test.YtmpnkckaohfflaaDoorRow
import Derived.Deep.Slices
import Derived.ChangeArms
namespace Go.Proofs.YtmpnkckaohfflaaDoor.PGiv
open Go.RowKit Go.ChangeShapes Go.WideShapes Go.Proofs.YtmpnkckaohfflaaDoorW.PrintWords Go.Proofs.YtmpnkckaohfflaaDoor.K
set_option linter.unusedVariables false
set_option linter.unusedSimpArgs false

theorem cell_type : ∃ fs : Array Field, Tryd.prog.underlying 45 = some (.struct fs) ∧ fs.map (fun f => (f.type, f.offset)) = #[(3, 0), (3, 1), (3, 2), (3, 3), (3, 4), (3, 5), (3, 6)] := ⟨_, Tryd.underlying45, by kernel_rfl⟩
theorem cell_cells : Tryd.prog.cellsOf 45 = 7 := by kernel_rfl
theorem int_cells : Tryd.prog.cellsOf 3 = 1 := by kernel_rfl
def wfC (c : S45) : Prop := (Lit.int .i64 c.f0).wf = true ∧ (Lit.int .i64 c.f1).wf = true ∧ (Lit.int .i64 c.f2).wf = true ∧ (Lit.int .i64 c.f3).wf = true ∧ (Lit.int .i64 c.f4).wf = true ∧ (Lit.int .i64 c.f5).wf = true ∧ (Lit.int .i64 c.f6).wf = true
set_option maxRecDepth 100000 in
theorem open_cell {H : Type} {enc : TypeId × Value → H} {w : World} {base : Nat} {spare : Nat → Bool} {held : Bool} {fuel : Nat} {cs : List Value} {x : DataW H × List MemPlace} (h : DataW.trod enc Tryd.prog w base spare held fuel 45 cs = some x) :
    ∃ c : S45, cs = [.int .i64 c.f0, .int .i64 c.f1, .int .i64 c.f2, .int .i64 c.f3, .int .i64 c.f4, .int .i64 c.f5, .int .i64 c.f6] ∧ wfC c := by
  obtain ⟨fs, hu, hfs⟩ := cell_type
  obtain ⟨xs, n, _, _, hl, hxl, hf⟩ := DataW.trod_struct hu h
  have hsz : fs.size = 7 := by simpa using congrArg Array.size hfs
  rw [cell_cells] at hl
  have one : ∀ (i : Nat), i < 7 → ∃ n : Int, (cs.drop i).take 1 = [.int .i64 n] ∧ (Lit.int .i64 n).wf = true := by
    intro i hi
    have hi' : i < fs.size := by omega
    have e := congrArg (·[i]?) hfs
    simp only [Array.getElem?_map, Array.getElem?_eq_getElem hi', Option.map_some] at e
    have e2 : fs[i].type = 3 ∧ fs[i].offset = i := by
      have hi7 : i = 0 ∨ i = 1 ∨ i = 2 ∨ i = 3 ∨ i = 4 ∨ i = 5 ∨ i = 6 := by omega
      rcases hi7 with rfl | rfl | rfl | rfl | rfl | rfl | rfl <;> simpa using e
    have := hf i fs[i] (Array.getElem?_eq_getElem hi')
    rw [e2.1, e2.2, int_cells] at this
    obtain ⟨y, hy⟩ : ∃ y, xs[i]? = some y := ⟨_, List.getElem?_eq_getElem (by omega)⟩
    rw [hy] at this
    obtain ⟨n, h1, _, h2⟩ := DataW.trod_int Tryd.underlying3 this
    exact ⟨n, h1, h2⟩
  obtain ⟨n0, h0, w0⟩ := one 0 (by omega)
  obtain ⟨n1, h1, w1⟩ := one 1 (by omega)
  obtain ⟨n2, h2, w2⟩ := one 2 (by omega)
  obtain ⟨n3, h3, w3⟩ := one 3 (by omega)
  obtain ⟨n4, h4, w4⟩ := one 4 (by omega)
  obtain ⟨n5, h5, w5⟩ := one 5 (by omega)
  obtain ⟨n6, h6, w6⟩ := one 6 (by omega)
  match cs, hl with
  | [v0, v1, v2, v3, v4, v5, v6], _ =>
    simp at h0 h1 h2 h3 h4 h5 h6
    subst h0 h1 h2 h3 h4 h5 h6
    exact ⟨⟨n0, n1, n2, n3, n4, n5, n6⟩, rfl, w0, w1, w2, w3, w4, w5, w6⟩
/-- a slice of cells -/
theorem open_cells {H : Type} {enc : TypeId × Value → H} {w : World} {base : Nat} {spare : Nat → Bool} {held : Bool} {t fuel : Nat} {A : Option Addr} {len cap : Nat} {x : DataW H × List MemPlace} (ht : Tryd.prog.underlying t = some (.slice 45)) (h : DataW.trod enc Tryd.prog w base spare held fuel t [.slice A len cap] = some x) :
    ∃ l : List S45, l.length = len ∧ len ≤ cap ∧ cap ≤ maxLen ∧ Kd.C k45 w A l.length l ∧ ∀ c ∈ l, wfC c := by
  rcases Go.Deep.open_slice ht h with ⟨hcs, _⟩ | ⟨a, len', cap', m, n, D, Pl, hcs, hb, hl, hm, hmm, _, hx⟩
  · simp at hcs
    obtain ⟨rfl, rfl, rfl⟩ := hcs
    exact ⟨[], rfl, by omega, by decide, ⟨rfl, by simp, fun h => by simp at h⟩, by simp⟩
  · simp at hcs
    obtain ⟨rfl, rfl, rfl⟩ := hcs
    have hlm : len ≤ m := by rw [hmm]; split <;> omega
    have each : ∀ i, i < len → ∃ c : S45, w.cells? base (a.add (i * 7)) 7 = some [.int .i64 c.f0, .int .i64 c.f1, .int .i64 c.f2, .int .i64 c.f3, .int .i64 c.f4, .int .i64 c.f5, .int .i64 c.f6] ∧ wfC c := by
      intro i hi
      obtain ⟨cs', h1, h2⟩ := hx i (by omega)
      rw [cell_cells] at h1
      obtain ⟨c, rfl, hw⟩ := open_cell h2
      exact ⟨c, h1, hw⟩
    haveI : Inhabited S45 := ⟨z45⟩
    obtain ⟨q, hq⟩ := Go.Deep.choose_lt each
    refine ⟨(List.range len).map q, by simp, hl, hm, ?_, ?_⟩
    · have hmax : maxLen ≤ 9223372036854775807 := by decide
      refine ⟨rfl, by simp; omega, fun _ => ⟨a, rfl, fun j p hj => ?_⟩⟩
      obtain ⟨hj1, hj2⟩ := List.getElem?_eq_some_iff.1 hj
      simp at hj1 hj2
      subst hj2
      obtain ⟨h1, _⟩ := hq j hj1
      obtain ⟨_, hlen, hcell⟩ := World.cells?_some h1
      refine ⟨_, rfl, k45_mk w (q j), fun i u hu => ?_⟩
      have hi : i < 7 := by
        obtain ⟨h, _⟩ := List.getElem?_eq_some_iff.1 hu
        simpa using h
      have := hcell i hi
      rw [hu] at this
      rw [← this]
      show w.cell? (a.add (j * 7 + i)) = w.cell? ((a.add (j * 7)).add i)
      rw [Go.Deep.add_add]
    · intro c hc
      obtain ⟨i, hi, rfl⟩ := List.mem_map.1 hc
      exact (hq i (List.mem_range.1 hi)).2
end Go.Proofs.YtmpnkckaohfflaaDoor.PGiv
