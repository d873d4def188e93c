/- Of the texts of this claim, what it needs, put together by a program of this claim's author. Conditions: as each theorem says. -/
import Derived.Shelf.Strings.Builder1
import Derived.Shelf.Small.Strs
import Derived.Shelf.Strings.BuilderF
import Derived.Shelf.Strings.BuilderK
import Derived.Shelf.Strconv.Atoi
import Derived.Shelf.Strconv.Itoa0
import Derived.Shelf.Strconv.Itoa1
import Derived.Shelf.LaysM
import Derived.Shelf.Strconv.Itoa2
import Derived.Shelf.Strconv.Itoa3
import Derived.Shelf.Strconv.AtoiErrFast
import Derived.Shelf.Strconv.ParseIntEmpty
import Derived.Shelf.Strconv.AtoiFail
import Derived.Shelf.Strconv.Clone
import Derived.Shelf.Strconv.SyntaxError
import Derived.Shelf.LaysC
import Derived.Shelf.Strconv.ToError
import Derived.Shelf.Strconv.Lower
import Derived.Shelf.Strconv.ParseUint10
import Derived.Shelf.Strconv.ParseUint10Empty
import Derived.Shelf.Strconv.ParseUint10Any
import Derived.Shelf.Strconv.ParseInt10
import Derived.Shelf.Strconv.AtoiLong
import Derived.Shelf.Strconv.AtoiInnerAll
import Derived.Shelf.Strconv.RangeError
import Derived.Shelf.Strconv.ToErrorRange
import Derived.Shelf.Strconv.AtoiAll
import Derived.Shelf.Strconv.ErrVarAll
import Derived.Shelf.Strings.Search1
import Derived.Test.YtmpnkckaohfflaaDoorProg
import Derived.WalkKit
import Derived.WalkSmall
import Derived.BigCall
import Derived.Lib.Hide
import Derived.Lib.AtoiAllCases
import Derived.Lib.AtoiErrMem
import Derived.Lib.LaidTab
import Derived.Lib.SmallJoins
import Derived.Lib.AppendIntMem
import Derived.Deep.RegionHeld3
import Derived.Deep.QuietTactic
import Derived.BigQuiet
import Derived.BigRegion
import Derived.Lib.ItoaLen
import Derived.Defers
import Derived.Recover
import Derived.Deep.RegionLaw
import Derived.Deep.DeepCutAuto
import Derived.Lib.ItoaMem
import Derived.Test.YtmpnkckaohfflaaDoorPtT5
section
namespace Go.Proofs
open Go.Shelf
def Tryd.lays137_ren : Go.Shelf.Ren := ⟨fun | 137 => 29 | 217 => 42 | 266 => 63 | n => n, fun | 9 => 9 | 5 => 5 | 3 => 3 | n => n, fun | n => n⟩
theorem Tryd.lays137 : Go.Proofs.Lays.n137 Tryd.prog Tryd.lays137_ren := {
  mixed := by kernel_rfl
  f137 := Tryd.func29.trans (congrArg some (by kernel_rfl))
  f217 := Tryd.func42.trans (congrArg some (by kernel_rfl))
  f266 := Tryd.func63.trans (congrArg some (by kernel_rfl))
  t3 := Tryd.underlying3
  a3 := Tryd.isAgg3
  z3 := Tryd.sizeOf3
  v3 := Tryd.zeroValue3
  t5 := Tryd.underlying5
  a5 := Tryd.isAgg5
  z5 := Tryd.sizeOf5
  v5 := Tryd.zeroValue5
  t9 := Tryd.underlying9
  a9 := Tryd.isAgg9
  z9 := Tryd.sizeOf9
  v9 := Tryd.zeroValue9 }
open Go.RowKit in
theorem Tryd.strings_IndexByte (s : ByteArray) (c : Int) (w : World) :
    Calls Tryd.prog 29 #[.string s, .int .u8 c] w fun e w' => e = .returned (.int .i64 (Lib.indexByte s.data.toList c.toNat.toUInt8)) ∧ w' = w := Any.strings_IndexByte Tryd.lays137 s c w
def Tryd.laysM171_ren : Go.Shelf.Ren := ⟨fun | 171 => 62 | 243 => 73 | 246 => 75 | 283 => 77 | 284 => 78 | 285 => 79 | 286 => 80 | 129 => 84 | 317 => 83 | 318 => 85 | 319 => 86 | 320 => 87 | 337 => 93 | 338 => 94 | n => n, fun | 3 => 3 | 9 => 9 | 2 => 2 | 4 => 4 | 171 => 132 | 0 => 0 | 53 => 133 | 37 => 37 | 5 => 5 | 173 => 136 | 212 => 140 | 51 => 141 | 20 => 20 | 213 => 142 | 46 => 81 | 232 => 157 | 233 => 158 | n => n, fun | 17 => 1 | 18 => 4 | 19 => 5 | n => n⟩
theorem Tryd.laysM171 : Go.Proofs.LaysM.n171 Tryd.prog Tryd.laysM171_ren := {
  mixed := by kernel_rfl
  f129 := Tryd.func84.trans (congrArg some (by kernel_rfl))
  f171 := Tryd.func62.trans (congrArg some (by kernel_rfl))
  f243 := Tryd.func73.trans (congrArg some (by kernel_rfl))
  f246 := Tryd.func75.trans (congrArg some (by kernel_rfl))
  f283 := Tryd.func77.trans (congrArg some (by kernel_rfl))
  f284 := Tryd.func78.trans (congrArg some (by kernel_rfl))
  f285 := Tryd.func79.trans (congrArg some (by kernel_rfl))
  f286 := Tryd.func80.trans (congrArg some (by kernel_rfl))
  f317 := Tryd.func83.trans (congrArg some (by kernel_rfl))
  f318 := Tryd.func85.trans (congrArg some (by kernel_rfl))
  f319 := Tryd.func86.trans (congrArg some (by kernel_rfl))
  f320 := Tryd.func87.trans (congrArg some (by kernel_rfl))
  f337 := Tryd.func93.trans (congrArg some (by kernel_rfl))
  f338 := Tryd.func94.trans (congrArg some (by kernel_rfl))
  t0 := Tryd.underlying0
  a0 := Tryd.isAgg0
  z0 := Tryd.sizeOf0
  v0 := Tryd.zeroValue0
  t2 := Tryd.underlying2
  a2 := Tryd.isAgg2
  z2 := Tryd.sizeOf2
  v2 := Tryd.zeroValue2
  t3 := Tryd.underlying3
  a3 := Tryd.isAgg3
  z3 := Tryd.sizeOf3
  v3 := Tryd.zeroValue3
  t4 := Tryd.underlying4
  a4 := Tryd.isAgg4
  z4 := Tryd.sizeOf4
  v4 := Tryd.zeroValue4
  t5 := Tryd.underlying5
  a5 := Tryd.isAgg5
  z5 := Tryd.sizeOf5
  v5 := Tryd.zeroValue5
  t9 := Tryd.underlying9
  a9 := Tryd.isAgg9
  z9 := Tryd.sizeOf9
  v9 := Tryd.zeroValue9
  t20 := Tryd.underlying20
  a20 := Tryd.isAgg20
  z20 := Tryd.sizeOf20
  v20 := Tryd.zeroValue20
  t37 := Tryd.underlying37
  a37 := Tryd.isAgg37
  z37 := Tryd.sizeOf37
  v37 := Tryd.zeroValue37
  t46 := Tryd.underlying81
  a46 := Tryd.isAgg81
  z46 := Tryd.sizeOf81
  v46 := Tryd.zeroValue81
  t51 := Tryd.underlying141
  a51 := Tryd.isAgg141
  z51 := Tryd.sizeOf141
  v51 := Tryd.zeroValue141
  t53 := Tryd.underlying133
  a53 := Tryd.isAgg133
  z53 := Tryd.sizeOf133
  v53 := Tryd.zeroValue133
  t171 := Tryd.underlying132
  a171 := Tryd.isAgg132
  z171 := Tryd.sizeOf132
  v171 := Tryd.zeroValue132
  t173 := Tryd.underlying136
  a173 := Tryd.isAgg136
  z173 := Tryd.sizeOf136
  v173 := Tryd.zeroValue136
  t212 := Tryd.underlying140
  a212 := Tryd.isAgg140
  z212 := Tryd.sizeOf140
  v212 := Tryd.zeroValue140
  t213 := Tryd.underlying142
  a213 := Tryd.isAgg142
  z213 := Tryd.sizeOf142
  t232 := Tryd.underlying157
  a232 := Tryd.isAgg157
  z232 := Tryd.sizeOf157
  v232 := Tryd.zeroValue157
  t233 := Tryd.underlying158
  a233 := Tryd.isAgg158
  z233 := Tryd.sizeOf158
  v233 := Tryd.zeroValue158
  g17 := by kernel_rfl
  g18 := by kernel_rfl
  g19 := by kernel_rfl
  i0 := by kernel_rfl
  i2 := by kernel_rfl
  i3 := by kernel_rfl
  i4 := by kernel_rfl
  i5 := by kernel_rfl
  i9 := by kernel_rfl
  i20 := by kernel_rfl
  i37 := by kernel_rfl
  i46 := by kernel_rfl
  i51 := by kernel_rfl
  i53 := by kernel_rfl
  i171 := by kernel_rfl
  i173 := by kernel_rfl
  i212 := by kernel_rfl
  i232 := by kernel_rfl
  i233 := by kernel_rfl
  m17 := by kernel_rfl
  m18 := by kernel_rfl
  m19 := by kernel_rfl }
open Go.RowKit Go.Sort Go.Lib in
theorem Tryd.strconv_Itoa (n : Int) (h0 : -9223372036854775808 ≤ n) (h1 : n ≤ 9223372036854775807) (w : World) (htab : Lib.TabIs Tryd.prog w "internal/strconv.uint64pow10" .u64 Lib.pow10Tab) :
    Calls Tryd.prog 62 #[.int .i64 n] w fun e w' => e = .returned (.string ⟨(Lib.itoa n).toArray⟩) ∧ ∃ k os, w' = grow (w.drewN k) os := Any.strconv_Itoa Tryd.laysM171 n h0 h1 w htab
def Tryd.laysC172_ren : Go.Shelf.Ren := ⟨fun | 172 => 76 | 244 => 81 | 245 => 82 | 247 => 88 | 279 => 89 | 280 => 90 | 281 => 91 | 282 => 92 | 287 => 95 | 316 => 96 | 171 => 62 | 205 => 97 | 321 => 98 | 322 => 99 | 243 => 73 | 246 => 75 | 283 => 77 | 284 => 78 | 285 => 79 | 286 => 80 | 129 => 84 | 317 => 83 | 318 => 85 | 319 => 86 | 320 => 87 | 337 => 93 | 338 => 94 | n => n, fun | 9 => 9 | 3 => 3 | 75 => 76 | 76 => 77 | 4 => 4 | 5 => 5 | 167 => 144 | 37 => 37 | 0 => 0 | 85 => 145 | 2 => 2 | 168 => 147 | 53 => 133 | 175 => 151 | 46 => 81 | 210 => 155 | 127 => 80 | 145 => 162 | 143 => 160 | 21 => 21 | 171 => 132 | 173 => 136 | 212 => 140 | 51 => 141 | 20 => 20 | 213 => 142 | 232 => 157 | 233 => 158 | 80 => 54 | n => n, fun | 15 => 2 | 16 => 3 | 17 => 1 | 18 => 4 | 19 => 5 | n => n⟩
theorem Tryd.laysC172 : Go.Proofs.LaysC.n172 Tryd.prog Tryd.laysC172_ren := {
  mixed := by kernel_rfl
  f129 := Tryd.func84.trans (congrArg some (by kernel_rfl))
  f171 := Tryd.func62.trans (congrArg some (by kernel_rfl))
  f172 := Tryd.func76.trans (congrArg some (by kernel_rfl))
  f205 := Tryd.func97.trans (congrArg some (by kernel_rfl))
  f243 := Tryd.func73.trans (congrArg some (by kernel_rfl))
  f244 := Tryd.func81.trans (congrArg some (by kernel_rfl))
  f245 := Tryd.func82.trans (congrArg some (by kernel_rfl))
  f246 := Tryd.func75.trans (congrArg some (by kernel_rfl))
  f247 := Tryd.func88.trans (congrArg some (by kernel_rfl))
  f279 := Tryd.func89.trans (congrArg some (by kernel_rfl))
  f280 := Tryd.func90.trans (congrArg some (by kernel_rfl))
  f281 := Tryd.func91.trans (congrArg some (by kernel_rfl))
  f282 := Tryd.func92.trans (congrArg some (by kernel_rfl))
  f283 := Tryd.func77.trans (congrArg some (by kernel_rfl))
  f284 := Tryd.func78.trans (congrArg some (by kernel_rfl))
  f285 := Tryd.func79.trans (congrArg some (by kernel_rfl))
  f286 := Tryd.func80.trans (congrArg some (by kernel_rfl))
  f287 := Tryd.func95.trans (congrArg some (by kernel_rfl))
  f316 := Tryd.func96.trans (congrArg some (by kernel_rfl))
  f317 := Tryd.func83.trans (congrArg some (by kernel_rfl))
  f318 := Tryd.func85.trans (congrArg some (by kernel_rfl))
  f319 := Tryd.func86.trans (congrArg some (by kernel_rfl))
  f320 := Tryd.func87.trans (congrArg some (by kernel_rfl))
  f321 := Tryd.func98.trans (congrArg some (by kernel_rfl))
  f322 := Tryd.func99.trans (congrArg some (by kernel_rfl))
  f337 := Tryd.func93.trans (congrArg some (by kernel_rfl))
  f338 := Tryd.func94.trans (congrArg some (by kernel_rfl))
  t0 := Tryd.underlying0
  a0 := Tryd.isAgg0
  z0 := Tryd.sizeOf0
  v0 := Tryd.zeroValue0
  t2 := Tryd.underlying2
  a2 := Tryd.isAgg2
  z2 := Tryd.sizeOf2
  v2 := Tryd.zeroValue2
  t3 := Tryd.underlying3
  a3 := Tryd.isAgg3
  z3 := Tryd.sizeOf3
  v3 := Tryd.zeroValue3
  t4 := Tryd.underlying4
  a4 := Tryd.isAgg4
  z4 := Tryd.sizeOf4
  v4 := Tryd.zeroValue4
  t5 := Tryd.underlying5
  a5 := Tryd.isAgg5
  z5 := Tryd.sizeOf5
  v5 := Tryd.zeroValue5
  t9 := Tryd.underlying9
  a9 := Tryd.isAgg9
  z9 := Tryd.sizeOf9
  v9 := Tryd.zeroValue9
  t20 := Tryd.underlying20
  a20 := Tryd.isAgg20
  z20 := Tryd.sizeOf20
  v20 := Tryd.zeroValue20
  t21 := Tryd.underlying21
  a21 := Tryd.isAgg21
  z21 := Tryd.sizeOf21
  v21 := Tryd.zeroValue21
  t37 := Tryd.underlying37
  a37 := Tryd.isAgg37
  z37 := Tryd.sizeOf37
  v37 := Tryd.zeroValue37
  t46 := Tryd.underlying81
  a46 := Tryd.isAgg81
  z46 := Tryd.sizeOf81
  v46 := Tryd.zeroValue81
  t51 := Tryd.underlying141
  a51 := Tryd.isAgg141
  z51 := Tryd.sizeOf141
  v51 := Tryd.zeroValue141
  t53 := Tryd.underlying133
  a53 := Tryd.isAgg133
  z53 := Tryd.sizeOf133
  v53 := Tryd.zeroValue133
  t75 := Tryd.underlying76
  a75 := Tryd.isAgg76
  z75 := Tryd.sizeOf76
  v75 := Tryd.zeroValue76
  t76 := Tryd.underlying77
  a76 := Tryd.isAgg77
  z76 := Tryd.sizeOf77
  v76 := Tryd.zeroValue77
  t85 := Tryd.underlying145
  a85 := Tryd.isAgg145
  z85 := Tryd.sizeOf145
  v85 := Tryd.zeroValue145
  t127 := Tryd.underlying80
  a127 := Tryd.isAgg80
  z127 := Tryd.sizeOf80
  v127 := Tryd.zeroValue80
  t143 := Tryd.underlying160
  a143 := Tryd.isAgg160
  z143 := Tryd.sizeOf160
  v143 := Tryd.zeroValue160
  t145 := Tryd.underlying162
  a145 := Tryd.isAgg162
  z145 := Tryd.sizeOf162
  v145 := Tryd.zeroValue162
  t167 := Tryd.underlying144
  a167 := Tryd.isAgg144
  z167 := Tryd.sizeOf144
  v167 := Tryd.zeroValue144
  t168 := Tryd.underlying147
  a168 := Tryd.isAgg147
  z168 := Tryd.sizeOf147
  v168 := Tryd.zeroValue147
  t171 := Tryd.underlying132
  a171 := Tryd.isAgg132
  z171 := Tryd.sizeOf132
  v171 := Tryd.zeroValue132
  t173 := Tryd.underlying136
  a173 := Tryd.isAgg136
  z173 := Tryd.sizeOf136
  v173 := Tryd.zeroValue136
  t175 := Tryd.underlying151
  a175 := Tryd.isAgg151
  z175 := Tryd.sizeOf151
  v175 := Tryd.zeroValue151
  t210 := Tryd.underlying155
  a210 := Tryd.isAgg155
  z210 := Tryd.sizeOf155
  v210 := Tryd.zeroValue155
  t212 := Tryd.underlying140
  a212 := Tryd.isAgg140
  z212 := Tryd.sizeOf140
  v212 := Tryd.zeroValue140
  t213 := Tryd.underlying142
  a213 := Tryd.isAgg142
  z213 := Tryd.sizeOf142
  t232 := Tryd.underlying157
  a232 := Tryd.isAgg157
  z232 := Tryd.sizeOf157
  v232 := Tryd.zeroValue157
  t233 := Tryd.underlying158
  a233 := Tryd.isAgg158
  z233 := Tryd.sizeOf158
  v233 := Tryd.zeroValue158
  g15 := by kernel_rfl
  g16 := by kernel_rfl
  g17 := by kernel_rfl
  g18 := by kernel_rfl
  g19 := by kernel_rfl
  t80 := Tryd.underlying54
  a80 := Tryd.isAgg54
  z80 := Tryd.sizeOf54
  v80 := Tryd.zeroValue54
  i0 := by kernel_rfl
  i2 := by kernel_rfl
  i3 := by kernel_rfl
  i4 := by kernel_rfl
  i5 := by kernel_rfl
  i9 := by kernel_rfl
  i20 := by kernel_rfl
  i21 := by kernel_rfl
  i37 := by kernel_rfl
  i46 := by kernel_rfl
  i51 := by kernel_rfl
  i53 := by kernel_rfl
  i75 := by kernel_rfl
  i76 := by kernel_rfl
  i80 := by kernel_rfl
  i85 := by kernel_rfl
  i127 := by kernel_rfl
  i143 := by kernel_rfl
  i145 := by kernel_rfl
  i167 := by kernel_rfl
  i168 := by kernel_rfl
  i171 := by kernel_rfl
  i173 := by kernel_rfl
  i175 := by kernel_rfl
  i210 := by kernel_rfl
  i212 := by kernel_rfl
  i232 := by kernel_rfl
  i233 := by kernel_rfl
  m15 := by kernel_rfl
  m16 := by kernel_rfl
  m17 := by kernel_rfl
  m18 := by kernel_rfl
  m19 := by kernel_rfl
  c0 := by kernel_rfl
  c2 := by kernel_rfl
  c3 := by kernel_rfl
  c4 := by kernel_rfl
  c5 := by kernel_rfl
  c9 := by kernel_rfl
  c20 := by kernel_rfl
  c21 := by kernel_rfl
  c37 := by kernel_rfl
  c46 := by kernel_rfl
  c51 := by kernel_rfl
  c53 := by kernel_rfl
  c75 := by kernel_rfl
  c76 := by kernel_rfl
  c80 := by kernel_rfl
  c85 := by kernel_rfl
  c127 := by kernel_rfl
  c143 := by kernel_rfl
  c145 := by kernel_rfl
  c167 := by kernel_rfl
  c168 := by kernel_rfl
  c171 := by kernel_rfl
  c173 := by kernel_rfl
  c175 := by kernel_rfl
  c210 := by kernel_rfl
  c212 := by kernel_rfl
  c213 := by kernel_rfl
  c232 := by kernel_rfl
  c233 := by kernel_rfl }
open Go.RowKit in
theorem Tryd.strconv_Atoi_ok (s : ByteArray) (hmax : s.size ≤ 9223372036854775806) (v : Int) (h : Lib.atoiAll s.data.toList = .ok v) (w : World) :
    Calls Tryd.prog 76 #[.string s] w fun e w' => e = .returned (.tuple #[.int .i64 v, .nilIface]) ∧ (w' = w ∨ ∃ t, w' = Lib.bytesWorld w 5 t) := Any.strconv_Atoi_ok Tryd.laysC172 s hmax v h w
open Go.RowKit in
theorem Tryd.strconv_Atoi_syntax_var (s : ByteArray) (hlim : s.size ≤ 281474976710656) (h : Lib.atoiAll s.data.toList = (Lib.atoiAll [])) (tp : TypeId) (p : Value) (w : World) (hvar : w.var? Tryd.prog "strconv.ErrSyntax" = some #[.iface tp p]) :
    Calls Tryd.prog 76 #[.string s] w fun e w' => ∃ N, e = .returned (.tuple #[.int .i64 0, .iface 147 (.pointer (some ⟨N, 0, none⟩))]) ∧ w.heap.size ≤ N ∧ w'.heap[N]? = some (.cells #[.string ⟨#[65, 116, 111, 105]⟩, .string s, .iface tp p] 155 (0, 0)) ∧ Below w.heap.size w w' := Any.strconv_Atoi_syntax_var Tryd.laysC172 s hlim h tp p w hvar
open Go.RowKit in
theorem Tryd.strconv_Atoi_range_var (s : ByteArray) (hlim : s.size ≤ 281474976710656) (h : Lib.atoiAll s.data.toList = .range) (tp : TypeId) (p : Value) (w : World) (hvar : w.var? Tryd.prog "strconv.ErrRange" = some #[.iface tp p]) :
    Calls Tryd.prog 76 #[.string s] w fun e w' => ∃ N, e = .returned (.tuple #[.int .i64 (Lib.atoiSat s.data.toList), .iface 147 (.pointer (some ⟨N, 0, none⟩))]) ∧ w.heap.size ≤ N ∧ w'.heap[N]? = some (.cells #[.string ⟨#[65, 116, 111, 105]⟩, .string s, .iface tp p] 155 (0, 0)) ∧ Below w.heap.size w w' := Any.strconv_Atoi_range_var Tryd.laysC172 s hlim h tp p w hvar
end Go.Proofs
end
section
namespace Go.Proofs.YtmpnkckaohfflaaDoor.Num
def putNum (n : Int) : List UInt8 := if n < 0 ∨ 4611686018427387904 < n then [] else Lib.itoa n
def numOf (l : List UInt8) : Int × Bool :=
  match Lib.atoiAll l with
  | .ok v => if v < 0 then (0, false) else if l = putNum v then (v, true) else (0, false)
  | _ => (0, false)
theorem putNum_out (n : Int) (h : n < 0 ∨ 4611686018427387904 < n) : putNum n = [] := if_pos h
theorem putNum_in (n : Int) (h0 : 0 ≤ n) (h1 : n ≤ 4611686018427387904) : putNum n = Lib.itoa n := if_neg (by omega)
theorem numOf_ok {l : List UInt8} {v : Int} (h : Lib.atoiAll l = .ok v) : numOf l = if v < 0 then (0, false) else if l = putNum v then (v, true) else (0, false) := by
  unfold numOf
  rw [h]
theorem numOf_bad {l : List UInt8} (h : ∀ v, Lib.atoiAll l ≠ .ok v) : numOf l = (0, false) := by
  unfold numOf
  split
  · rename_i v hv
    exact absurd hv (h v)
  · rfl
end Go.Proofs.YtmpnkckaohfflaaDoor.Num
namespace Go.Proofs.YtmpnkckaohfflaaDoor.NGiv
open Go.RowKit Go.Proofs.YtmpnkckaohfflaaDoor.Num Go.Proofs.YtmpnkckaohfflaaDoorW.PrintWords
set_option linter.unusedVariables false
set_option linter.unusedSimpArgs false
theorem gTen : Tryd.prog.globalNamed "internal/strconv.uint64pow10" = some 1 := by kernel_rfl
theorem gRng : Tryd.prog.globalNamed "strconv.ErrRange" = some 3 := by kernel_rfl
theorem gSyn : Tryd.prog.globalNamed "strconv.ErrSyntax" = some 2 := by kernel_rfl
structure Glb (w : World) : Prop where
  ten : Lib.TabIs Tryd.prog w "internal/strconv.uint64pow10" .u64 Lib.pow10Tab
  rng : ∃ tp p, w.var? Tryd.prog "strconv.ErrRange" = some #[.iface tp p]
  syn : ∃ tp p, w.var? Tryd.prog "strconv.ErrSyntax" = some #[.iface tp p]
theorem Glb.below {w W : World} (h : Glb w) (hb : Below w.heap.size w W) : Glb W := by
  obtain ⟨h1, ⟨a, b, h2⟩, ⟨c, d, h3⟩⟩ := h
  exact ⟨Joins.tab_stays gTen h1 hb (Nat.le_refl _), ⟨a, b, Joins.var_stays gRng h2 hb (Nat.le_refl _)⟩, ⟨c, d, Joins.var_stays gSyn h3 hb (Nat.le_refl _)⟩⟩
theorem itoa_calls (n : Int) (h0 : -9223372036854775808 ≤ n) (h1 : n ≤ 9223372036854775807) (w : World) (HG : Glb w) :
    Calls Tryd.prog 62 #[.int .i64 n] w fun e w' => e = .returned (.string ⟨(Lib.itoa n).toArray⟩) ∧ Below w.heap.size w w' := by
  refine (Tryd.strconv_Itoa n h0 h1 w HG.ten).mono ?_
  rintro e w' ⟨rfl, k, os, rfl⟩
  exact ⟨rfl, Lib.below_grow _ _ (Nat.le_refl _) _ _⟩
set_option maxRecDepth 100000 in
theorem put_calls (n : Int) (h0 : -9223372036854775808 ≤ n) (h1 : n ≤ 9223372036854775807) (w : World) (HG : Glb w) :
    Calls Tryd.prog 38 #[.int .i64 n] w fun e w' => e = .returned (.string ⟨(putNum n).toArray⟩) ∧ Below w.heap.size w w' := by
  have G := Lib.hid HG
  clear HG
  go_enter Tryd.func38, Tryd.ntmps38
  by_cases a : n < 0
  · go_wp2
    go_ret
    rw [putNum_out n (.inl a)]
    exact ⟨rfl, Below.refl _ _⟩
  · by_cases b : 4611686018427387904 < n
    · go_wp2
      go_ret
      rw [putNum_out n (.inr b)]
      exact ⟨rfl, Below.refl _ _⟩
    · go_wp2_with (go_at_call 62; refine (itoa_calls n h0 h1 _ G.out).mono ?_; rintro e w' ⟨rfl, hb⟩)
      go_wp2
      go_ret
      rw [putNum_in n (by omega) (by omega)]
      exact ⟨rfl, hb⟩
theorem atoi_calls (s : ByteArray) (hs : s.size ≤ 281474976710656) (w : World) (HG : Glb w) :
    Calls Tryd.prog 76 #[.string s] w fun e w' => (∃ v, Lib.atoiAll s.data.toList = .ok v ∧ e = .returned (.tuple #[.int .i64 v, .nilIface]) ∧ Below w.heap.size w w') ∨ (∃ v tp p, numOf s.data.toList = (0, false) ∧ e = .returned (.tuple #[.int .i64 v, .iface tp p]) ∧ Below w.heap.size w w') := by
  obtain ⟨h1, ⟨a, b, h2⟩, ⟨c, d, h3⟩⟩ := HG
  cases h : Lib.atoiAll s.data.toList with
  | ok v =>
    refine (Tryd.strconv_Atoi_ok s (by omega) v h w).mono ?_
    rintro e w' ⟨rfl, hw⟩
    refine .inl ⟨v, rfl, rfl, ?_⟩
    rcases hw with rfl | ⟨t, rfl⟩
    · exact Below.refl _ _
    · exact Lib.bytesWorld_below _ _ _
  | range =>
    refine (Tryd.strconv_Atoi_range_var s hs h a b w h2).mono ?_
    rintro e w' ⟨N, rfl, -, -, hb⟩
    exact .inr ⟨_, _, _, numOf_bad (fun v e => by rw [h] at e; cases e), rfl, hb⟩
  | _ =>
    refine (Tryd.strconv_Atoi_syntax_var s hs h c d w h3).mono ?_
    rintro e w' ⟨N, rfl, -, -, hb⟩
    exact .inr ⟨_, _, _, numOf_bad (fun v e => by rw [h] at e; cases e), rfl, hb⟩
set_option maxRecDepth 100000 in
theorem number_calls (s : ByteArray) (hs : s.size ≤ 281474976710656) (w : World) (HG : Glb w) :
    Calls Tryd.prog 74 #[.string s] w fun e w' => e = .returned (.tuple #[.int .i64 (numOf s.data.toList).1, .bool (numOf s.data.toList).2]) ∧ Below w.heap.size w w' := by
  have G := Lib.hid HG
  have GB := Lib.hid (fun W hb => Glb.below (W := W) HG hb)
  clear HG
  go_enter Tryd.func74, Tryd.ntmps74
  go_wp2_with (go_at_call 76; refine (atoi_calls s hs _ G.out).mono ?_)
  rintro e w1 (⟨v, hv, rfl, b1⟩ | ⟨v, tp, p, hv, rfl, b1⟩)
  · have hr := Lib.hid (numOf_ok hv)
    have hb := Lib.atoiAll_bounds hv
    clear hv
    by_cases a : v < 0
    · go_wp2
      go_ret2
      rw [hr.out, if_pos a]
      exact ⟨rfl, b1⟩
    · go_wp2_with (go_at_call 38; refine (put_calls v hb.1 hb.2 _ (GB.out _ b1)).mono ?_; rintro e w2 ⟨rfl, b2⟩)
      · rename_i hc
        have hn : ¬ s.data.toList = putNum v := by
          intro e
          have hx : 0 ≤ v := by omega
          simp [Lib.toList_data, e, hx] at hc
          omega
        go_ret2
        rw [hr.out, if_neg (by omega), if_neg hn]
        exact ⟨rfl, b1.trans (b2.mono b1.size)⟩
      · rename_i hc
        have hn : s.data.toList = putNum v := by
          have := hc.2
          simpa [Lib.toList_data] using this
        go_ret2
        rw [hr.out, if_neg (by omega), if_pos hn]
        exact ⟨rfl, b1.trans (b2.mono b1.size)⟩
  · go_wp2
    go_ret2
    rw [hv]
    exact ⟨rfl, b1⟩
def octal_PutNumber.f (a0 : Int) : Option ByteArray := if -9223372036854775808 ≤ a0 ∧ a0 ≤ 9223372036854775807 then some ⟨(putNum a0).toArray⟩ else none
theorem octal_PutNumber.calls (a0 : Int) (r : ByteArray) (w : World) (HG : Aside0 (Glb w)) (h : octal_PutNumber.f a0 = some r) :
    Calls Tryd.prog 38 #[.int .i64 a0] w fun e w' => e = .returned (.string r) ∧ Below w.heap.size w w' := by
  unfold octal_PutNumber.f at h
  by_cases hs : -9223372036854775808 ≤ a0 ∧ a0 ≤ 9223372036854775807
  · rw [if_pos hs] at h
    obtain rfl := Option.some.inj h
    exact put_calls a0 hs.1 hs.2 w HG.out
  · rw [if_neg hs] at h
    cases h
def octal_Number.f (a0 : ByteArray) : Option (Int × Bool) := if a0.size ≤ 281474976710656 then some (numOf a0.data.toList) else none
theorem octal_Number.calls (a0 : ByteArray) (r1 : Int) (r2 : Bool) (w : World) (HG : Aside0 (Glb w)) (h : octal_Number.f a0 = some (r1, r2)) :
    Calls Tryd.prog 74 #[.string a0] w fun e w' => e = .returned (.tuple #[.int .i64 r1, .bool r2]) ∧ Below w.heap.size w w' := by
  unfold octal_Number.f at h
  by_cases hs : a0.size ≤ 281474976710656
  · rw [if_pos hs] at h
    have e := Option.some.inj h
    have := number_calls a0 hs w HG.out
    rw [e] at this
    exact this
  · rw [if_neg hs] at h
    cases h
def strconv_Itoa_62.f (a0 : Int) : Option ByteArray := if -9223372036854775808 ≤ a0 ∧ a0 ≤ 9223372036854775807 then some ⟨(Lib.itoa a0).toArray⟩ else none
end Go.Proofs.YtmpnkckaohfflaaDoor.NGiv
end
section
namespace Go.Proofs.YtmpnkckaohfflaaDoor.PGiv
open Go.RowKit Go.Proofs.YtmpnkckaohfflaaDoorW.PrintWords Go.Proofs.YtmpnkckaohfflaaDoorW.PrintLast Go.Proofs.YtmpnkckaohfflaaDoorW.PrintMore Go.Proofs.YtmpnkckaohfflaaDoor.K Go.Proofs.YtmpnkckaohfflaaDoor.Num Go.Proofs.YtmpnkckaohfflaaDoor.NGiv
set_option linter.unusedVariables false
set_option linter.unusedSimpArgs false
def PN (n : Int) (t : ByteArray) : Prop := ∀ W : World, Glb W → Calls Tryd.prog 38 #[.int .i64 n] W fun e w' => e = .returned (.string t) ∧ Below W.heap.size W w'
theorem PN.go {n : Int} {t : ByteArray} (h : PN n t) {W : World} (g : Glb W) : Calls Tryd.prog 38 #[.int .i64 n] W fun e w' => e = .returned (.string t) ∧ Below W.heap.size W w' := h W g
def i64r (n : Int) : Prop := -9223372036854775808 ≤ n ∧ n ≤ 9223372036854775807
def numT (n : Int) : ByteArray := ⟨(putNum n).toArray⟩
theorem pn_of {n : Int} (h : i64r n) : PN n (numT n) := fun W hg => put_calls n h.1 h.2 W hg
def okC (c : S45) : Prop := i64r c.f2 ∧ i64r c.f3 ∧ i64r c.f4 ∧ i64r c.f5 ∧ i64r c.f6
def headT (c : S45) : List UInt8 := putNum c.f4 ++ [120] ++ putNum c.f5 ++ [44] ++ putNum c.f2 ++ [44] ++ putNum c.f3
mutual
def cellF : Nat → List S45 → Nat → Option (List UInt8 × Nat)
  | 0, _, _ => none
  | k + 1, l, at_ => match l[at_]? with
    | none => none
    | some c => if c.f1 = 1 then some (headT c ++ [44] ++ putNum c.f6, at_ + 1)
      else (cellL k l c.f0 true (at_ + 1)).map fun r => (headT c ++ [if c.f1 = 3 then 91 else 123] ++ r.1 ++ [if c.f1 = 3 then 93 else 125], r.2)
def cellL : Nat → List S45 → Int → Bool → Nat → Option (List UInt8 × Nat)
  | 0, _, _, _, _ => none
  | k + 1, l, d, first, at_ => match l[at_]? with
    | none => some ([], at_)
    | some x => if d < x.f0 then (cellF k l at_).bind fun r => (cellL k l d false r.2).map fun q => ((if first then [] else [44]) ++ r.1 ++ q.1, q.2) else some ([], at_)
end
theorem cell_alloc {w : World} {a : Addr} {v : Value} (h : w.cell? a = some v) (o : Obj) : (w.alloc o).cell? a = some v := (World.cell?_alloc_lt _ _ _ (World.block_lt_of_cell? w _ h)).trans h
theorem WrAt.below {b : Nat} {sl : Value} {n : Int} {txt : List UInt8} {w w' : World} (h : WrAt b sl n txt w) (hb : Below w.heap.size w w') : WrAt b sl n txt w' := by
  obtain ⟨p, v, h1, h2, h3⟩ := h
  exact ⟨p, v, h1, (hb.block b (blk_lt h2)).trans h2, own_move h3 (fun k hk => hb.block k (own_lt h3 k hk))⟩
theorem kept_below {b : Nat} {w w' : World} (hb : Below w.heap.size w w') : Lib.OthersKept 5 (some b) w w' := fun k o hk _ _ => (hb.block k (blk_lt hk)).trans hk
theorem numT_size (m : Int) : (numT m).size ≤ 30 := by
  show (putNum m).length ≤ 30
  unfold putNum
  split
  · simp
  · have := Lib.itoa_length_le m (by omega) (by omega)
    omega
def CellPost (b : Nat) (sl : Value) (n : Nat) (txt : List UInt8) (w : World) (e : Ending) (w' : World) : Prop :=
  e = .returned (.tuple #[]) ∧ WrAt b sl n txt w' ∧ Below b w w' ∧ Lib.OthersKept 5 (some b) w w'
set_option maxHeartbeats 16000000 in
set_option maxRecDepth 100000 in
theorem cell_calls (k : Nat) : ∀ (b : Nat) (A : Option Addr) (c0 : Nat) (l : List S45) (i j : Nat) (txt s : List UInt8) (w : World), (∀ W, Below b w W → Kd.C k45 W A l.length l ∧ Glb W) → l.length ≤ c0 → l.length ≤ 1000000 →
    (∀ c ∈ l, okC c) → WrAt b (.slice A l.length c0) i txt w → cellF k l i = some (s, j) → txt.length + s.length ≤ 1000000000 →
    Calls Tryd.prog 22 #[.pointer (some ⟨b, 0, none⟩)] w fun e w' => CellPost b (.slice A l.length c0) j (txt ++ s) w e w' := by
  induction k using Nat.strongRecOn with
  | _ k ih =>
  intro b A c0 l i j txt s w hC hc hl hok hW hF hlen
  cases k with
  | zero => exact absurd hF (by simp [cellF])
  | succ k =>
  rw [cellF] at hF
  cases hx : l[i]? with
  | none => rw [hx] at hF; cases hF
  | some c =>
  rw [hx] at hF
  simp only at hF
  obtain ⟨hil, hic⟩ := List.getElem?_eq_some_iff.1 hx
  obtain ⟨ad, rfl, q0, q1, q2, q3, q4, q5, q6⟩ := at_T45 (hC w (Below.refl _ _)).1 (i : Int) (by omega) (by omega)
  have ex : rd_T45 l (i : Int) = c := by simp [rd_T45, List.getD_eq_getElem?_getD, hx]
  rw [ex] at q0 q1 q2 q3 q4 q5 q6
  simp only [Int.toNat_natCast] at q0 q1 q2 q3 q4 q5 q6
  obtain ⟨o2, o3, o4, o5, o6⟩ := hok c (hic ▸ List.getElem_mem hil)
  obtain ⟨p, v, hp, hb, hown⟩ := hW
  have hb0 : w.cell? ⟨b, 0, none⟩ = some (.slice (some ad) l.length c0) := (blk_cell hb 0).trans rfl
  have hb1 : w.cell? ⟨b, 1, none⟩ = some (.int .i64 i) := (blk_cell hb 1).trans rfl
  have a0 : ∀ o : Obj, (w.alloc o).cell? ⟨b, 0, none⟩ = some (.slice (some ad) l.length c0) := cell_alloc hb0
  have a1 : ∀ o : Obj, (w.alloc o).cell? ⟨b, 1, none⟩ = some (.int .i64 i) := cell_alloc hb1
  have r0 := fun o => cell_alloc q0 o
  have r1 := fun o => cell_alloc q1 o
  have r2 := fun o => cell_alloc q2 o
  have r3 := fun o => cell_alloc q3 o
  have r4 := fun o => cell_alloc q4 o
  have r5 := fun o => cell_alloc q5 o
  have r6 := fun o => cell_alloc q6 o
  have hi0 : (0 ≤ (i : Int)) = True := eq_true (by omega)
  have hil' : ((i : Int) < (l.length : Int)) = True := eq_true (by omega)
  have HH := Lib.hid (And.intro hC (And.intro hok (And.intro hF (And.intro hown hb))))
  clear hC hok hF hown hb ex hx hic
  generalize hn : l.length = n at *
  go_enter Tryd.func22, Tryd.ntmps22
  go_wp2
  go_region
  obtain ⟨N1, N2, N3, N4⟩ := cell_new w (.cells #[.int .i64 c.f0, .int .i64 c.f1, .int .i64 c.f2, .int .i64 c.f3, .int .i64 c.f4, .int .i64 c.f5, .int .i64 c.f6] 45 (0, 0))
  generalize (w.alloc (.cells #[.int .i64 c.f0, .int .i64 c.f1, .int .i64 c.f2, .int .i64 c.f3, .int .i64 c.f4, .int .i64 c.f5, .int .i64 c.f6] 45 (0, 0))).drew = w2 at N1 N2 N3 N4 ⊢
  obtain ⟨hC, hok, hF, hown, hb⟩ := HH.out
  have hbw : b < w.heap.size := blk_lt hb
  have hb2 := (N2 b hbw).trans hb
  have hown2 := own_move (w1 := w2) hown (fun k hk => N2 k (own_lt hown k hk))
  have hb1 : w2.cell? ⟨b, 1, none⟩ = some (.int .i64 i) := (blk_cell hb2 1).trans rfl
  have hf1 : w2.frozen? ⟨b, 1, none⟩ = false := blk_frozen hb2 1
  have hb3 := blk_put hb2 1 (.int .i64 ((i : Int) + 1)) rfl
  have hown3 := own_move (w1 := w2.setCell ⟨b, 1, none⟩ (.int .i64 ((i : Int) + 1))) hown2 (fun k hk => Below.heap_setCell _ _ _ k (by have := own_base hown2 k hk; show k ≠ b; omega))
  have W3 : Hid (WrAt b (.slice (some ad) n c0) ((i : Int) + 1) txt (w2.setCell ⟨b, 1, none⟩ (.int .i64 ((i : Int) + 1)))) := Lib.hid ⟨p, v, hp, hb3, hown3⟩
  have C3 : Hid ((w2.setCell ⟨b, 1, none⟩ (.int .i64 ((i : Int) + 1))).heap[w.heap.size]? = some (.cells #[.int .i64 c.f0, .int .i64 c.f1, .int .i64 c.f2, .int .i64 c.f3, .int .i64 c.f4, .int .i64 c.f5, .int .i64 c.f6] 45 (0, 0))) := Lib.hid ((Below.heap_setCell _ _ _ _ (by show w.heap.size ≠ b; omega)).trans N1)
  have B3 : Hid (Below b w (w2.setCell ⟨b, 1, none⟩ (.int .i64 ((i : Int) + 1)))) := Lib.hid ((N4 b (by omega)).setCell (p := ⟨b, 1, none⟩) (Nat.le_refl _) _)
  have K3 : Hid (Lib.OthersKept 5 (some b) w (w2.setCell ⟨b, 1, none⟩ (.int .i64 ((i : Int) + 1)))) := Lib.hid ((show Lib.OthersKept 5 (some b) w w2 from fun k o hk _ _ => (N2 k (blk_lt hk)).trans hk).setCell ⟨b, 1, none⟩ rfl _)
  clear hC hok hF hown hb N1 N2 N3 N4 hb2 hown2 hb3 hown3 hb0 a0 a1 r0 r1 r2 r3 r4 r5 r6 q0 q1 q2 q3 q4 q5 q6 hp
  go_wp2
  generalize w2.setCell ⟨b, 1, none⟩ (.int .i64 ((i : Int) + 1)) = w3 at W3 C3 B3 K3 ⊢
  clear hb1 hf1
  have P4 := Lib.hid (pn_of o4)
  have P5 := Lib.hid (pn_of o5)
  have P2 := Lib.hid (pn_of o2)
  have P3 := Lib.hid (pn_of o3)
  have P6 := Lib.hid (pn_of o6)
  have Z : ∀ m : Int, (numT m).size ≤ 30 := fun m => numT_size m
  have z4 := Z c.f4
  have z5 := Z c.f5
  have z2 := Z c.f2
  have z3 := Z c.f3
  have z6 := Z c.f6
  have hHD : (headT c) = (numT c.f4 ++ (⟨#[120]⟩ : ByteArray) ++ numT c.f5 ++ (⟨#[44]⟩ : ByteArray) ++ numT c.f2 ++ (⟨#[44]⟩ : ByteArray) ++ numT c.f3).data.toList := by simp [headT, numT]
  have hP6 : [44] ++ putNum c.f6 = ((⟨#[44]⟩ : ByteArray) ++ numT c.f6).data.toList := by simp [numT]
  have hHD := Lib.hid hHD
  have hP6 := Lib.hid hP6
  clear Z o2 o3 o4 o5 o6
  generalize numT c.f4 = t4 at P4 z4 hHD
  generalize numT c.f5 = t5 at P5 z5 hHD
  generalize numT c.f2 = t2 at P2 z2 hHD
  generalize numT c.f3 = t3 at P3 z3 hHD
  generalize numT c.f6 = t6 at P6 z6 hP6
  have s1 : (t4 ++ (⟨#[120]⟩ : ByteArray)).size = t4.size + 1 := by rw [ByteArray.size_append]; rfl
  have s2 : (t4 ++ (⟨#[120]⟩ : ByteArray) ++ t5).size = t4.size + 1 + t5.size := by rw [ByteArray.size_append, s1]
  have s3 : (t4 ++ (⟨#[120]⟩ : ByteArray) ++ t5 ++ (⟨#[44]⟩ : ByteArray)).size = t4.size + 1 + t5.size + 1 := by rw [ByteArray.size_append, s2]; rfl
  have s4 : (t4 ++ (⟨#[120]⟩ : ByteArray) ++ t5 ++ (⟨#[44]⟩ : ByteArray) ++ t2).size = t4.size + 1 + t5.size + 1 + t2.size := by rw [ByteArray.size_append, s3]
  have s5 : (t4 ++ (⟨#[120]⟩ : ByteArray) ++ t5 ++ (⟨#[44]⟩ : ByteArray) ++ t2 ++ (⟨#[44]⟩ : ByteArray)).size = t4.size + 1 + t5.size + 1 + t2.size + 1 := by rw [ByteArray.size_append, s4]; rfl
  have g1 : t4.size + 1 ≤ 9223372036854775807 := by omega
  have g2 : (t4 ++ (⟨#[120]⟩ : ByteArray)).size + t5.size ≤ 9223372036854775807 := by omega
  have g3 : (t4 ++ (⟨#[120]⟩ : ByteArray) ++ t5).size + 1 ≤ 9223372036854775807 := by omega
  have g4 : (t4 ++ (⟨#[120]⟩ : ByteArray) ++ t5 ++ (⟨#[44]⟩ : ByteArray)).size + t2.size ≤ 9223372036854775807 := by omega
  have g5 : (t4 ++ (⟨#[120]⟩ : ByteArray) ++ t5 ++ (⟨#[44]⟩ : ByteArray) ++ t2).size + 1 ≤ 9223372036854775807 := by omega
  have g6 : (t4 ++ (⟨#[120]⟩ : ByteArray) ++ t5 ++ (⟨#[44]⟩ : ByteArray) ++ t2 ++ (⟨#[44]⟩ : ByteArray)).size + t3.size ≤ 9223372036854775807 := by omega
  have hsz : (t4 ++ (⟨#[120]⟩ : ByteArray) ++ t5 ++ (⟨#[44]⟩ : ByteArray) ++ t2 ++ (⟨#[44]⟩ : ByteArray) ++ t3).size ≤ 1000 := by rw [ByteArray.size_append, s5]; omega
  have e1 := eq_true g1
  have e2 := eq_true g2
  have e3 := eq_true g3
  have e4 := eq_true g4
  have e5 := eq_true g5
  have e6 := eq_true g6
  have n1 := eq_false (Nat.not_lt.2 g1)
  have n2 := eq_false (Nat.not_lt.2 g2)
  have n3 := eq_false (Nat.not_lt.2 g3)
  have n4 := eq_false (Nat.not_lt.2 g4)
  have n5 := eq_false (Nat.not_lt.2 g5)
  have n6 := eq_false (Nat.not_lt.2 g6)
  have m2 : t4.size + 1 + t5.size ≤ 9223372036854775807 := by omega
  have m3 : t4.size + 1 + t5.size + 1 ≤ 9223372036854775807 := by omega
  have m4 : t4.size + 1 + t5.size + 1 + t2.size ≤ 9223372036854775807 := by omega
  have m5 : t4.size + 1 + t5.size + 1 + t2.size + 1 ≤ 9223372036854775807 := by omega
  have m6 : t4.size + 1 + t5.size + 1 + t2.size + 1 + t3.size ≤ 9223372036854775807 := by omega
  have l2 := eq_false (Nat.not_lt.2 m2)
  have l3 := eq_false (Nat.not_lt.2 m3)
  have l4 := eq_false (Nat.not_lt.2 m4)
  have l5 := eq_false (Nat.not_lt.2 m5)
  have l6 := eq_false (Nat.not_lt.2 m6)
  replace m2 := eq_true m2
  replace m3 := eq_true m3
  replace m4 := eq_true m4
  replace m5 := eq_true m5
  replace m6 := eq_true m6
  have HS := Lib.hid hsz
  clear s1 s2 s3 s4 s5 g1 g2 g3 g4 g5 g6 z2 z3 z4 z5 hsz
  have BQ := Lib.hid (show Below w3.drew.heap.size w3 w3.drew from (Below.refl _ _).drew)
  have GQ := Lib.hid (HH.out.1 _ (B3.out.trans (BQ.out.mono (Nat.le_trans (Nat.le_of_lt hbw) B3.out.size)))).2
  have CQ := Lib.hid (show w3.drew.heap[w.heap.size]? = _ from C3.out)
  have x2 : w3.drew.cell? ⟨w.heap.size, 2, none⟩ = some (.int .i64 c.f2) := (blk_cell CQ.out 2).trans rfl
  have x3 : w3.drew.cell? ⟨w.heap.size, 3, none⟩ = some (.int .i64 c.f3) := (blk_cell CQ.out 3).trans rfl
  have x4 : w3.drew.cell? ⟨w.heap.size, 4, none⟩ = some (.int .i64 c.f4) := (blk_cell CQ.out 4).trans rfl
  have x5 : w3.drew.cell? ⟨w.heap.size, 5, none⟩ = some (.int .i64 c.f5) := (blk_cell CQ.out 5).trans rfl
  go_region_held3 (fun w' => w'.cell? ⟨w.heap.size, 2, none⟩ = some (.int .i64 c.f2) ∧ w'.cell? ⟨w.heap.size, 3, none⟩ = some (.int .i64 c.f3) ∧ w'.cell? ⟨w.heap.size, 4, none⟩ = some (.int .i64 c.f4) ∧ w'.cell? ⟨w.heap.size, 5, none⟩ = some (.int .i64 c.f5))
    (first | exact ⟨x2, x3, x4, x5⟩)
    (first
      | (go_at_call 38; first
          | (with_reducible refine (P4.out.go GQ.out).mono ?_)
          | (with_reducible refine (P5.out.go GQ.out).mono ?_)
          | (with_reducible refine (P2.out.go GQ.out).mono ?_)
          | (with_reducible refine (P3.out.go GQ.out).mono ?_)
         rintro e wn ⟨rfl, bn⟩
         have GQ := Lib.hid (GQ.out.below bn)
         have BQ := Lib.hid (BQ.out.trans (bn.mono BQ.out.size))
         have CQ := Lib.hid ((bn.block _ (blk_lt CQ.out)).trans CQ.out)
         have x2 : wn.cell? ⟨w.heap.size, 2, none⟩ = some (.int .i64 c.f2) := (blk_cell CQ.out 2).trans rfl
         have x3 : wn.cell? ⟨w.heap.size, 3, none⟩ = some (.int .i64 c.f3) := (blk_cell CQ.out 3).trans rfl
         have x4 : wn.cell? ⟨w.heap.size, 4, none⟩ = some (.int .i64 c.f4) := (blk_cell CQ.out 4).trans rfl
         have x5 : wn.cell? ⟨w.heap.size, 5, none⟩ = some (.int .i64 c.f5) := (blk_cell CQ.out 5).trans rfl
         clear bn)
      | (go_at_call 37
         refine (wstr b (.slice (some ad) n c0) ((i : Int) + 1) txt (t4 ++ (⟨#[120]⟩ : ByteArray) ++ t5 ++ (⟨#[44]⟩ : ByteArray) ++ t2 ++ (⟨#[44]⟩ : ByteArray) ++ t3) _ (W3.out.below BQ.out) (by have := HS.out; omega)).mono ?_
         rintro e wn ⟨rfl, wa, bn, kn⟩
         have WQ := Lib.hid wa
         have BR := Lib.hid (B3.out.trans ((BQ.out.mono (Nat.le_trans (Nat.le_of_lt hbw) B3.out.size)).trans bn))
         have KR := Lib.hid (K3.out.trans ((kept_below BQ.out).trans kn))
         have CQ := Lib.hid (kn _ _ CQ.out (fun e => by injection e with e; omega) (fun cs fz h => by cases h))
         have x2 : wn.cell? ⟨w.heap.size, 2, none⟩ = some (.int .i64 c.f2) := (blk_cell CQ.out 2).trans rfl
         have x3 : wn.cell? ⟨w.heap.size, 3, none⟩ = some (.int .i64 c.f3) := (blk_cell CQ.out 3).trans rfl
         have x4 : wn.cell? ⟨w.heap.size, 4, none⟩ = some (.int .i64 c.f4) := (blk_cell CQ.out 4).trans rfl
         have x5 : wn.cell? ⟨w.heap.size, 5, none⟩ = some (.int .i64 c.f5) := (blk_cell CQ.out 5).trans rfl
         clear bn kn wa))
  clear e1 e2 e3 e4 e5 e6 n1 n2 n3 n4 n5 n6 m2 m3 m4 m5 m6 l2 l3 l4 l5 l6 x2 x3 x4 x5 P4 P5 P2 P3 HS
  have hk1 : wn.cell? ⟨w.heap.size, 1, none⟩ = some (.int .i64 c.f1) := (blk_cell CQ.out 1).trans rfl
  have hcast : (i : Int) + 1 = ((i + 1 : Nat) : Int) := by omega
  have WQ := Lib.hid (show WrAt b (.slice (some ad) n c0) ((i + 1 : Nat) : Int) (txt ++ headT c) wn by rw [hHD.out, ← hcast]; exact WQ.out)
  have hF := HH.out.2.2.1
  by_cases kc : c.f1 = 1
  · have kc' : (c.f1 == 1) = true := beq_iff_eq.mpr kc
    rw [if_pos kc] at hF
    obtain ⟨hs, hj⟩ := Prod.mk.inj (Option.some.inj hF)
    have HSJ := Lib.hid (And.intro hs hj)
    clear hF hs hj kc hcast hHD hil hi0 hil'
    go_wp2
    have h1 : 1 + t6.size ≤ 9223372036854775807 := by omega
    have h2 := eq_false (Nat.not_lt.2 h1)
    have h3 : t6.size + 1 ≤ 9223372036854775807 := by omega
    have h4 := eq_false (Nat.not_lt.2 h3)
    have h5 : (⟨#[44]⟩ : ByteArray).size + t6.size ≤ 9223372036854775807 := by show 1 + t6.size ≤ _; omega
    have h6 := eq_false (Nat.not_lt.2 h5)
    replace h1 := eq_true h1
    replace h3 := eq_true h3
    replace h5 := eq_true h5
    have BQ := Lib.hid (show Below wn.drew.heap.size wn wn.drew from (Below.refl _ _).drew)
    have hbn : b ≤ wn.heap.size := Nat.le_trans (Nat.le_of_lt hbw) BR.out.size
    have GQ := Lib.hid (HH.out.1 _ (BR.out.trans (BQ.out.mono hbn))).2
    have CD := Lib.hid (show wn.drew.heap[w.heap.size]? = _ from CQ.out)
    have y6 : wn.drew.cell? ⟨w.heap.size, 6, none⟩ = some (.int .i64 c.f6) := (blk_cell CD.out 6).trans rfl
    have hsz6 : txt.length + (headT c).length + ((⟨#[44]⟩ : ByteArray) ++ t6).size ≤ 140737488355328 := by
      have e := HSJ.out.1
      have h := hP6.out
      have hl' : s.length = (headT c).length + ((⟨#[44]⟩ : ByteArray) ++ t6).size := by
        rw [← e, List.append_assoc, h, List.length_append]
        rfl
      omega
    have HZ6 := Lib.hid hsz6
    clear hsz6
    go_region_held3 (fun w' => w'.cell? ⟨w.heap.size, 6, none⟩ = some (.int .i64 c.f6))
      (first | exact y6)
      (first
        | (go_at_call 38
           with_reducible refine (P6.out.go GQ.out).mono ?_
           rintro e wp ⟨rfl, bn⟩
           have BQ := Lib.hid (BQ.out.trans (bn.mono BQ.out.size))
           have CD := Lib.hid ((bn.block _ (blk_lt CD.out)).trans CD.out)
           have y6 : wp.cell? ⟨w.heap.size, 6, none⟩ = some (.int .i64 c.f6) := (blk_cell CD.out 6).trans rfl
           clear bn)
        | (go_at_call 37
           refine (wstr b (.slice (some ad) n c0) ((i + 1 : Nat) : Int) (txt ++ headT c) ((⟨#[44]⟩ : ByteArray) ++ t6) _ (WQ.out.below BQ.out) (by have := HZ6.out; rw [List.length_append]; omega)).mono ?_
           rintro e wp ⟨rfl, wa, bn, kn⟩
           have WF := Lib.hid wa
           have BF := Lib.hid (BR.out.trans ((BQ.out.mono hbn).trans bn))
           have KF := Lib.hid (KR.out.trans ((kept_below BQ.out).trans kn))
           have CD := Lib.hid (kn _ _ CD.out (fun e => by injection e with e; omega) (fun cs fz h => by cases h))
           have y6 : wp.cell? ⟨w.heap.size, 6, none⟩ = some (.int .i64 c.f6) := (blk_cell CD.out 6).trans rfl
           clear bn kn wa))
    go_wp2
    refine bodyPost_ret (results_none rfl _ _ _) rfl ?_
    have e : txt ++ s = txt ++ headT c ++ ((⟨#[44]⟩ : ByteArray) ++ t6).data.toList := by rw [← HSJ.out.1, ← hP6.out]; simp
    rw [e, ← HSJ.out.2]
    exact ⟨rfl, WF.out, BF.out, KF.out⟩
  · have kc' : (c.f1 == 1) = false := beq_eq_false_iff_ne.mpr kc
    rw [if_neg kc] at hF
    clear kc hP6 P6 z6
    obtain ⟨⟨r1, j'⟩, hL, hr⟩ := Option.map_eq_some_iff.1 hF
    obtain ⟨hs, hj⟩ := Prod.mk.inj hr
    simp only at hs hj
    subst hj
    clear hF hr
    by_cases k3 : c.f1 = 3
    · have hb3 : (c.f1 == 3) = true := beq_iff_eq.mpr k3
      rw [if_pos k3, if_pos k3] at hs
      have HSS := Lib.hid hs
      have HLL := Lib.hid hL
      have hlen1 : txt.length + (headT c).length + 1 + r1.length + 1 ≤ 1000000000 := by
        rw [← hs] at hlen
        simp at hlen
        omega
      clear hs hL k3 hcast hHD hil hi0 hil'
      have WB1 := Lib.hid (wbyte b (.slice (some ad) n c0) ((i + 1 : Nat) : Int) (txt ++ headT c) 91 wn WQ.out (by rw [List.length_append]; omega))
      go_wp2_with (go_at_call 39; refine (WB1.out).mono ?_)
      rintro e w6 ⟨rfl, wa, bn, kn⟩
      have W6 := Lib.hid wa
      have B6 := Lib.hid (BR.out.trans bn)
      have K6 := Lib.hid (KR.out.trans kn)
      have C6 := Lib.hid (kn _ _ CQ.out (fun e => by injection e with e; omega) (fun cs fz h => by cases h))
      clear wa bn kn WB1 hk1
      go_wp2
      go_loopg [5] k (fun kq fv wr => ∃ (first : Bool) (a : Nat) (T s2 : List UInt8), fv = .bool first ∧ Aside0 (cellL kq l c.f0 first a = some (s2, j')) ∧ Aside0 (T ++ s2 = txt ++ headT c ++ [91] ++ r1) ∧ Aside0 (kq ≤ k) ∧
        Aside0 (WrAt b (.slice (some ad) n c0) a T wr) ∧ Aside0 (Below b w wr) ∧ Aside0 (Lib.OthersKept 5 (some b) w wr) ∧ Aside0 (wr.heap[w.heap.size]? = some (.cells #[.int .i64 c.f0, .int .i64 c.f1, .int .i64 c.f2, .int .i64 c.f3, .int .i64 c.f4, .int .i64 c.f5, .int .i64 c.f6] 45 (0, 0))))
      case atStart => exact ⟨true, i + 1, txt ++ headT c ++ [91], r1, rfl, ⟨HLL.out⟩, ⟨rfl⟩, ⟨Nat.le_refl _⟩, ⟨W6.out⟩, ⟨B6.out⟩, ⟨K6.out⟩, ⟨C6.out⟩⟩
      case round =>
        obtain ⟨first, a, T, s2, rfl, RF, RT, RK, RW, RB, RQ, RC⟩ := hrel
        cases gk with
        | zero => exact absurd RF.out (by simp [cellL])
        | succ gk =>
          obtain ⟨pr, vr, hpr, hbr, howr⟩ := RW.out
          have hb0 : wr.cell? ⟨b, 0, none⟩ = some (.slice (some ad) n c0) := (blk_cell hbr 0).trans rfl
          have hb1 : wr.cell? ⟨b, 1, none⟩ = some (.int .i64 a) := (blk_cell hbr 1).trans rfl
          have hc0 : wr.cell? ⟨w.heap.size, 0, none⟩ = some (.int .i64 c.f0) := (blk_cell RC.out 0).trans rfl
          have hRF := RF.out
          rw [cellL] at hRF
          have hTl : T.length + s2.length + 1 ≤ 1000000000 := by
            have h := congrArg List.length RT.out
            simp at h
            omega
          clear hbr howr hpr
          cases hx : l[a]? with
          | none =>
            rw [hx] at hRF
            obtain ⟨h1, h2⟩ := Prod.mk.inj (Option.some.inj hRF)
            have han : n ≤ a := by rw [← hn]; exact List.getElem?_eq_none_iff.1 hx
            have hcm : decide ((a : Int) < (n : Int)) = false := decide_eq_false (by omega)
            have H12 := Lib.hid (And.intro h1 h2)
            have hcm2 : decide (a < n) = false := decide_eq_false (by omega)
            clear hx hRF RF h1 h2
            go_wp2
            go_quiet (fail)
            generalize hwq : wr.drewN nq = wq
            have BQ : Hid (Below wr.heap.size wr wq) := Lib.hid (by rw [← hwq]; exact pw_below_drewN (Below.refl _ _) _)
            have hbr : b ≤ wr.heap.size := Nat.le_trans (Nat.le_of_lt hbw) RB.out.size
            have WW := Lib.hid (RW.out.below BQ.out)
            clear hwq hb0 hb1 hc0
            have WB2 := Lib.hid (wbyte b (.slice (some ad) n c0) (a : Int) T 93 wq WW.out (by omega))
            go_wp2_with (go_at_call 39; refine (WB2.out).mono ?_)
            rintro e w7 ⟨rfl, w7a, b7, k7⟩
            have F7 := Lib.hid (And.intro w7a (And.intro b7 k7))
            clear w7a b7 k7
            go_wp2
            first | go_end0 | refine bodyPost_ret (results_none rfl _ _ _) rfl ?_
            obtain ⟨e1, e2⟩ := H12.out
            have hT : T = txt ++ headT c ++ [91] ++ r1 := by have h := RT.out; rw [← e1, List.append_nil] at h; exact h
            have hfin : txt ++ s = T ++ [93] := by rw [hT, ← HSS.out]; simp
            rw [hfin, ← e2]
            exact ⟨rfl, F7.out.1, RB.out.trans ((BQ.out.mono hbr).trans F7.out.2.1), RQ.out.trans ((kept_below BQ.out).trans F7.out.2.2)⟩
          | some x =>
            rw [hx] at hRF
            simp only at hRF
            obtain ⟨hal, hax⟩ := List.getElem?_eq_some_iff.1 hx
            obtain ⟨ad', e', q0, _⟩ := at_T45 (HH.out.1 wr RB.out).1 (a : Int) (by omega) (by omega)
            cases e'
            have ex : rd_T45 l (a : Int) = x := by simp [rd_T45, List.getD_eq_getElem?_getD, hx]
            rw [ex] at q0
            simp only [Int.toNat_natCast] at q0
            rw [hn] at hal
            have hcm : decide ((a : Int) < (n : Int)) = true := decide_eq_true (by omega)
            have ha0 : (0 ≤ (a : Int)) = True := eq_true (by omega)
            have ha1 : ((a : Int) < (n : Int)) = True := eq_true (by omega)
            by_cases hd : c.f0 < x.f0
            · have hd' : decide (c.f0 < x.f0) = true := decide_eq_true hd
              rw [if_pos hd] at hRF
              obtain ⟨⟨g1, g2⟩, hg, hRF⟩ := Option.bind_eq_some_iff.1 hRF
              obtain ⟨⟨u1, u2⟩, hu, hRF⟩ := Option.map_eq_some_iff.1 hRF
              obtain ⟨hv1, hv2⟩ := Prod.mk.inj hRF
              simp only at hu hv1 hv2
              subst hv2
              have HG := Lib.hid hg
              have HU := Lib.hid hu
              have HV := Lib.hid hv1
              clear hx hRF RF hax ex hd hg hu hv1 hal
              go_wp2
              go_quiet (fail)
              generalize hwq : wr.drewN nq = wq
              have BQ : Hid (Below wr.heap.size wr wq) := Lib.hid (by rw [← hwq]; exact pw_below_drewN (Below.refl _ _) _)
              have hbr : b ≤ wr.heap.size := Nat.le_trans (Nat.le_of_lt hbw) RB.out.size
              have WW := Lib.hid (RW.out.below BQ.out)
              have CW := Lib.hid ((BQ.out.block _ (blk_lt RC.out)).trans RC.out)
              have BW := Lib.hid (RB.out.trans (BQ.out.mono hbr))
              have KW := Lib.hid (RQ.out.trans (kept_below BQ.out))
              clear hwq hb0 hb1 hc0 q0 RW RB RQ RC BQ
              cases first with
              | true =>
                have hg1 : s2 = g1 ++ u1 := by have h := HV.out; simp at h; exact h.symm
                have IH := ih gk (by have := RK.out; omega) b (some ad) c0 l a g2 T g1 wq (fun W hW => by rw [hn]; exact HH.out.1 W (BW.out.trans hW)) (by omega) (by omega) HH.out.2.1 (by rw [hn]; exact WW.out) HG.out (by rw [hg1] at hTl; simp at hTl; omega)
                rw [hn] at IH
                have IH := Lib.hid IH
                go_wp2_with (go_at_call 22; refine (IH.out).mono ?_)
                rintro e w7 ⟨rfl, w7a, b7, k7⟩
                have F7 := Lib.hid (And.intro w7a (And.intro b7 k7))
                clear w7a b7 k7
                go_wp2
                go_roundg gk
                case measure => omega
                case rel =>
                  exact ⟨false, g2, T ++ g1, u1, rfl, ⟨HU.out⟩, ⟨by rw [← RT.out, hg1]; simp⟩, ⟨by have := RK.out; omega⟩, ⟨F7.out.1⟩, ⟨BW.out.trans F7.out.2.1⟩, ⟨KW.out.trans F7.out.2.2⟩, ⟨F7.out.2.2 _ _ CW.out (fun e => by injection e with e; omega) (fun cs fz h => by cases h)⟩⟩
              | false =>
                have hg1 : s2 = 44 :: (g1 ++ u1) := by have h := HV.out; simp at h; exact h.symm
                have WB2 := Lib.hid (wbyte b (.slice (some ad) n c0) (a : Int) T 44 wq WW.out (by omega))
                go_wp2_with (go_at_call 39; refine (WB2.out).mono ?_)
                rintro e wb ⟨rfl, wa, bn, kn⟩
                have WX := Lib.hid wa
                have BX := Lib.hid (BW.out.trans bn)
                have KX := Lib.hid (KW.out.trans kn)
                have CX := Lib.hid (kn _ _ CW.out (fun e => by injection e with e; omega) (fun cs fz h => by cases h))
                have IH := ih gk (by have := RK.out; omega) b (some ad) c0 l a g2 (T ++ [44]) g1 wb (fun W hW => by rw [hn]; exact HH.out.1 W (BX.out.trans hW)) (by omega) (by omega) HH.out.2.1 (by rw [hn]; exact WX.out) HG.out (by rw [hg1] at hTl; simp at hTl ⊢; omega)
                rw [hn] at IH
                have IH := Lib.hid IH
                clear wa bn kn WB2
                go_wp2_with (go_at_call 22; refine (IH.out).mono ?_)
                rintro e w7 ⟨rfl, w7a, b7, k7⟩
                have F7 := Lib.hid (And.intro w7a (And.intro b7 k7))
                clear w7a b7 k7
                go_wp2
                go_roundg gk
                case measure => omega
                case rel =>
                  exact ⟨false, g2, T ++ [44] ++ g1, u1, rfl, ⟨HU.out⟩, ⟨by rw [← RT.out, hg1]; simp⟩, ⟨by have := RK.out; omega⟩, ⟨F7.out.1⟩, ⟨BX.out.trans F7.out.2.1⟩, ⟨KX.out.trans F7.out.2.2⟩, ⟨F7.out.2.2 _ _ CX.out (fun e => by injection e with e; omega) (fun cs fz h => by cases h)⟩⟩
            · have hd' : decide (c.f0 < x.f0) = false := decide_eq_false hd
              rw [if_neg hd] at hRF
              obtain ⟨h1, h2⟩ := Prod.mk.inj (Option.some.inj hRF)
              have H12 := Lib.hid (And.intro h1 h2)
              clear hx hRF RF h1 h2 hax ex hd hal
              go_wp2
              go_quiet (fail)
              generalize hwq : wr.drewN nq = wq
              have BQ : Hid (Below wr.heap.size wr wq) := Lib.hid (by rw [← hwq]; exact pw_below_drewN (Below.refl _ _) _)
              have hbr : b ≤ wr.heap.size := Nat.le_trans (Nat.le_of_lt hbw) RB.out.size
              have WW := Lib.hid (RW.out.below BQ.out)
              clear hwq hb0 hb1 hc0
              have WB2 := Lib.hid (wbyte b (.slice (some ad) n c0) (a : Int) T 93 wq WW.out (by omega))
              go_wp2_with (go_at_call 39; refine (WB2.out).mono ?_)
              rintro e w7 ⟨rfl, w7a, b7, k7⟩
              have F7 := Lib.hid (And.intro w7a (And.intro b7 k7))
              clear w7a b7 k7
              go_wp2
              first | go_end0 | refine bodyPost_ret (results_none rfl _ _ _) rfl ?_
              obtain ⟨e1, e2⟩ := H12.out
              have hT : T = txt ++ headT c ++ [91] ++ r1 := by have h := RT.out; rw [← e1, List.append_nil] at h; exact h
              have hfin : txt ++ s = T ++ [93] := by rw [hT, ← HSS.out]; simp
              rw [hfin, ← e2]
              exact ⟨rfl, F7.out.1, RB.out.trans ((BQ.out.mono hbr).trans F7.out.2.1), RQ.out.trans ((kept_below BQ.out).trans F7.out.2.2)⟩
    · have hb3 : (c.f1 == 3) = false := beq_eq_false_iff_ne.mpr k3
      rw [if_neg k3, if_neg k3] at hs
      have HSS := Lib.hid hs
      have HLL := Lib.hid hL
      have hlen1 : txt.length + (headT c).length + 1 + r1.length + 1 ≤ 1000000000 := by
        rw [← hs] at hlen
        simp at hlen
        omega
      clear hs hL k3 hcast hHD hil hi0 hil'
      have WB1 := Lib.hid (wbyte b (.slice (some ad) n c0) ((i + 1 : Nat) : Int) (txt ++ headT c) 123 wn WQ.out (by rw [List.length_append]; omega))
      go_wp2_with (go_at_call 39; refine (WB1.out).mono ?_)
      rintro e w6 ⟨rfl, wa, bn, kn⟩
      have W6 := Lib.hid wa
      have B6 := Lib.hid (BR.out.trans bn)
      have K6 := Lib.hid (KR.out.trans kn)
      have C6 := Lib.hid (kn _ _ CQ.out (fun e => by injection e with e; omega) (fun cs fz h => by cases h))
      clear wa bn kn WB1 hk1
      go_wp2
      go_loopg [5] k (fun kq fv wr => ∃ (first : Bool) (a : Nat) (T s2 : List UInt8), fv = .bool first ∧ Aside0 (cellL kq l c.f0 first a = some (s2, j')) ∧ Aside0 (T ++ s2 = txt ++ headT c ++ [123] ++ r1) ∧ Aside0 (kq ≤ k) ∧
        Aside0 (WrAt b (.slice (some ad) n c0) a T wr) ∧ Aside0 (Below b w wr) ∧ Aside0 (Lib.OthersKept 5 (some b) w wr) ∧ Aside0 (wr.heap[w.heap.size]? = some (.cells #[.int .i64 c.f0, .int .i64 c.f1, .int .i64 c.f2, .int .i64 c.f3, .int .i64 c.f4, .int .i64 c.f5, .int .i64 c.f6] 45 (0, 0))))
      case atStart => exact ⟨true, i + 1, txt ++ headT c ++ [123], r1, rfl, ⟨HLL.out⟩, ⟨rfl⟩, ⟨Nat.le_refl _⟩, ⟨W6.out⟩, ⟨B6.out⟩, ⟨K6.out⟩, ⟨C6.out⟩⟩
      case round =>
        obtain ⟨first, a, T, s2, rfl, RF, RT, RK, RW, RB, RQ, RC⟩ := hrel
        cases gk with
        | zero => exact absurd RF.out (by simp [cellL])
        | succ gk =>
          obtain ⟨pr, vr, hpr, hbr, howr⟩ := RW.out
          have hb0 : wr.cell? ⟨b, 0, none⟩ = some (.slice (some ad) n c0) := (blk_cell hbr 0).trans rfl
          have hb1 : wr.cell? ⟨b, 1, none⟩ = some (.int .i64 a) := (blk_cell hbr 1).trans rfl
          have hc0 : wr.cell? ⟨w.heap.size, 0, none⟩ = some (.int .i64 c.f0) := (blk_cell RC.out 0).trans rfl
          have hRF := RF.out
          rw [cellL] at hRF
          have hTl : T.length + s2.length + 1 ≤ 1000000000 := by
            have h := congrArg List.length RT.out
            simp at h
            omega
          clear hbr howr hpr
          cases hx : l[a]? with
          | none =>
            rw [hx] at hRF
            obtain ⟨h1, h2⟩ := Prod.mk.inj (Option.some.inj hRF)
            have han : n ≤ a := by rw [← hn]; exact List.getElem?_eq_none_iff.1 hx
            have hcm : decide ((a : Int) < (n : Int)) = false := decide_eq_false (by omega)
            have H12 := Lib.hid (And.intro h1 h2)
            have hcm2 : decide (a < n) = false := decide_eq_false (by omega)
            clear hx hRF RF h1 h2
            go_wp2
            go_quiet (fail)
            generalize hwq : wr.drewN nq = wq
            have BQ : Hid (Below wr.heap.size wr wq) := Lib.hid (by rw [← hwq]; exact pw_below_drewN (Below.refl _ _) _)
            have hbr : b ≤ wr.heap.size := Nat.le_trans (Nat.le_of_lt hbw) RB.out.size
            have WW := Lib.hid (RW.out.below BQ.out)
            clear hwq hb0 hb1 hc0
            have WB2 := Lib.hid (wbyte b (.slice (some ad) n c0) (a : Int) T 125 wq WW.out (by omega))
            go_wp2_with (go_at_call 39; refine (WB2.out).mono ?_)
            rintro e w7 ⟨rfl, w7a, b7, k7⟩
            have F7 := Lib.hid (And.intro w7a (And.intro b7 k7))
            clear w7a b7 k7
            go_wp2
            first | go_end0 | refine bodyPost_ret (results_none rfl _ _ _) rfl ?_
            obtain ⟨e1, e2⟩ := H12.out
            have hT : T = txt ++ headT c ++ [123] ++ r1 := by have h := RT.out; rw [← e1, List.append_nil] at h; exact h
            have hfin : txt ++ s = T ++ [125] := by rw [hT, ← HSS.out]; simp
            rw [hfin, ← e2]
            exact ⟨rfl, F7.out.1, RB.out.trans ((BQ.out.mono hbr).trans F7.out.2.1), RQ.out.trans ((kept_below BQ.out).trans F7.out.2.2)⟩
          | some x =>
            rw [hx] at hRF
            simp only at hRF
            obtain ⟨hal, hax⟩ := List.getElem?_eq_some_iff.1 hx
            obtain ⟨ad', e', q0, _⟩ := at_T45 (HH.out.1 wr RB.out).1 (a : Int) (by omega) (by omega)
            cases e'
            have ex : rd_T45 l (a : Int) = x := by simp [rd_T45, List.getD_eq_getElem?_getD, hx]
            rw [ex] at q0
            simp only [Int.toNat_natCast] at q0
            rw [hn] at hal
            have hcm : decide ((a : Int) < (n : Int)) = true := decide_eq_true (by omega)
            have ha0 : (0 ≤ (a : Int)) = True := eq_true (by omega)
            have ha1 : ((a : Int) < (n : Int)) = True := eq_true (by omega)
            by_cases hd : c.f0 < x.f0
            · have hd' : decide (c.f0 < x.f0) = true := decide_eq_true hd
              rw [if_pos hd] at hRF
              obtain ⟨⟨g1, g2⟩, hg, hRF⟩ := Option.bind_eq_some_iff.1 hRF
              obtain ⟨⟨u1, u2⟩, hu, hRF⟩ := Option.map_eq_some_iff.1 hRF
              obtain ⟨hv1, hv2⟩ := Prod.mk.inj hRF
              simp only at hu hv1 hv2
              subst hv2
              have HG := Lib.hid hg
              have HU := Lib.hid hu
              have HV := Lib.hid hv1
              clear hx hRF RF hax ex hd hg hu hv1 hal
              go_wp2
              go_quiet (fail)
              generalize hwq : wr.drewN nq = wq
              have BQ : Hid (Below wr.heap.size wr wq) := Lib.hid (by rw [← hwq]; exact pw_below_drewN (Below.refl _ _) _)
              have hbr : b ≤ wr.heap.size := Nat.le_trans (Nat.le_of_lt hbw) RB.out.size
              have WW := Lib.hid (RW.out.below BQ.out)
              have CW := Lib.hid ((BQ.out.block _ (blk_lt RC.out)).trans RC.out)
              have BW := Lib.hid (RB.out.trans (BQ.out.mono hbr))
              have KW := Lib.hid (RQ.out.trans (kept_below BQ.out))
              clear hwq hb0 hb1 hc0 q0 RW RB RQ RC BQ
              cases first with
              | true =>
                have hg1 : s2 = g1 ++ u1 := by have h := HV.out; simp at h; exact h.symm
                have IH := ih gk (by have := RK.out; omega) b (some ad) c0 l a g2 T g1 wq (fun W hW => by rw [hn]; exact HH.out.1 W (BW.out.trans hW)) (by omega) (by omega) HH.out.2.1 (by rw [hn]; exact WW.out) HG.out (by rw [hg1] at hTl; simp at hTl; omega)
                rw [hn] at IH
                have IH := Lib.hid IH
                go_wp2_with (go_at_call 22; refine (IH.out).mono ?_)
                rintro e w7 ⟨rfl, w7a, b7, k7⟩
                have F7 := Lib.hid (And.intro w7a (And.intro b7 k7))
                clear w7a b7 k7
                go_wp2
                go_roundg gk
                case measure => omega
                case rel =>
                  exact ⟨false, g2, T ++ g1, u1, rfl, ⟨HU.out⟩, ⟨by rw [← RT.out, hg1]; simp⟩, ⟨by have := RK.out; omega⟩, ⟨F7.out.1⟩, ⟨BW.out.trans F7.out.2.1⟩, ⟨KW.out.trans F7.out.2.2⟩, ⟨F7.out.2.2 _ _ CW.out (fun e => by injection e with e; omega) (fun cs fz h => by cases h)⟩⟩
              | false =>
                have hg1 : s2 = 44 :: (g1 ++ u1) := by have h := HV.out; simp at h; exact h.symm
                have WB2 := Lib.hid (wbyte b (.slice (some ad) n c0) (a : Int) T 44 wq WW.out (by omega))
                go_wp2_with (go_at_call 39; refine (WB2.out).mono ?_)
                rintro e wb ⟨rfl, wa, bn, kn⟩
                have WX := Lib.hid wa
                have BX := Lib.hid (BW.out.trans bn)
                have KX := Lib.hid (KW.out.trans kn)
                have CX := Lib.hid (kn _ _ CW.out (fun e => by injection e with e; omega) (fun cs fz h => by cases h))
                have IH := ih gk (by have := RK.out; omega) b (some ad) c0 l a g2 (T ++ [44]) g1 wb (fun W hW => by rw [hn]; exact HH.out.1 W (BX.out.trans hW)) (by omega) (by omega) HH.out.2.1 (by rw [hn]; exact WX.out) HG.out (by rw [hg1] at hTl; simp at hTl ⊢; omega)
                rw [hn] at IH
                have IH := Lib.hid IH
                clear wa bn kn WB2
                go_wp2_with (go_at_call 22; refine (IH.out).mono ?_)
                rintro e w7 ⟨rfl, w7a, b7, k7⟩
                have F7 := Lib.hid (And.intro w7a (And.intro b7 k7))
                clear w7a b7 k7
                go_wp2
                go_roundg gk
                case measure => omega
                case rel =>
                  exact ⟨false, g2, T ++ [44] ++ g1, u1, rfl, ⟨HU.out⟩, ⟨by rw [← RT.out, hg1]; simp⟩, ⟨by have := RK.out; omega⟩, ⟨F7.out.1⟩, ⟨BX.out.trans F7.out.2.1⟩, ⟨KX.out.trans F7.out.2.2⟩, ⟨F7.out.2.2 _ _ CX.out (fun e => by injection e with e; omega) (fun cs fz h => by cases h)⟩⟩
            · have hd' : decide (c.f0 < x.f0) = false := decide_eq_false hd
              rw [if_neg hd] at hRF
              obtain ⟨h1, h2⟩ := Prod.mk.inj (Option.some.inj hRF)
              have H12 := Lib.hid (And.intro h1 h2)
              clear hx hRF RF h1 h2 hax ex hd hal
              go_wp2
              go_quiet (fail)
              generalize hwq : wr.drewN nq = wq
              have BQ : Hid (Below wr.heap.size wr wq) := Lib.hid (by rw [← hwq]; exact pw_below_drewN (Below.refl _ _) _)
              have hbr : b ≤ wr.heap.size := Nat.le_trans (Nat.le_of_lt hbw) RB.out.size
              have WW := Lib.hid (RW.out.below BQ.out)
              clear hwq hb0 hb1 hc0
              have WB2 := Lib.hid (wbyte b (.slice (some ad) n c0) (a : Int) T 125 wq WW.out (by omega))
              go_wp2_with (go_at_call 39; refine (WB2.out).mono ?_)
              rintro e w7 ⟨rfl, w7a, b7, k7⟩
              have F7 := Lib.hid (And.intro w7a (And.intro b7 k7))
              clear w7a b7 k7
              go_wp2
              first | go_end0 | refine bodyPost_ret (results_none rfl _ _ _) rfl ?_
              obtain ⟨e1, e2⟩ := H12.out
              have hT : T = txt ++ headT c ++ [123] ++ r1 := by have h := RT.out; rw [← e1, List.append_nil] at h; exact h
              have hfin : txt ++ s = T ++ [125] := by rw [hT, ← HSS.out]; simp
              rw [hfin, ← e2]
              exact ⟨rfl, F7.out.1, RB.out.trans ((BQ.out.mono hbr).trans F7.out.2.1), RQ.out.trans ((kept_below BQ.out).trans F7.out.2.2)⟩
end Go.Proofs.YtmpnkckaohfflaaDoor.PGiv
end
section
namespace Go.Proofs.YtmpnkckaohfflaaDoor.PGiv
open Go.RowKit Go.Proofs.YtmpnkckaohfflaaDoorW.PrintWords Go.Proofs.YtmpnkckaohfflaaDoorW.PrintLast Go.Proofs.YtmpnkckaohfflaaDoorW.PrintMore Go.Proofs.YtmpnkckaohfflaaDoor.K Go.Proofs.YtmpnkckaohfflaaDoor.Num
set_option linter.unusedVariables false
set_option linter.unusedSimpArgs false
abbrev Glb (w : World) : Prop := NGiv.Glb w
theorem Glb.below {w W : World} (h : Glb w) (hb : Below w.heap.size w W) : Glb W := NGiv.Glb.below h hb
def layout_Check.f (l0 : List S45) : Option Int := (readF l0).map fun r => if r.isSome then 0 else 40
set_option maxHeartbeats 4000000 in
theorem layout_Check.calls (A0 : Option Addr) (c0 : Nat) (l0 : List S45) (r : Int) (w : World) (hr0 : Kd.C k45 w A0 l0.length l0) (hc0 : l0.length ≤ c0) (h : layout_Check.f l0 = some r) :
    Calls Tryd.prog 17 #[.slice A0 l0.length c0] w fun e w' => e = .returned (.int .i64 r) ∧ Below w.heap.size w w' := by
  obtain ⟨t, ht, hr⟩ := Option.map_eq_some_iff.1 h
  have HR := Lib.hid (read_calls A0 c0 l0 t w hr0 hc0 ht)
  clear hr0 hc0 h
  go_enter Tryd.func17, Tryd.ntmps17
  go_wp2_with (go_at_call 33; refine (HR.out).mono ?_)
  cases t with
  | none =>
    rintro e w1 ⟨rfl, b1⟩
    have B1 := Lib.hid b1
    clear b1
    go_wp2
    go_ret
    exact ⟨by rw [← hr]; rfl, B1.out⟩
  | some t =>
    rintro e w1 ⟨v, rfl, m1, b1⟩
    obtain ⟨tp, bt, rfl, _⟩ := tree_value m1
    have B1 := Lib.hid b1
    clear b1 m1
    go_wp2
    go_ret
    exact ⟨by rw [← hr]; rfl, B1.out⟩
instance (n : Int) : Decidable (i64r n) := inferInstanceAs (Decidable (_ ∧ _))
instance (c : S45) : Decidable (okC c) := inferInstanceAs (Decidable (_ ∧ _ ∧ _ ∧ _ ∧ _))
def textF (l : List S45) : Option ByteArray := (cellF 1000 l 0).bind fun p => (E.plan_Sum.f 200000 ⟨p.1.toArray⟩).bind fun n => (E.plan_four.f n).bind fun q =>
  if (∀ c ∈ l, okC c) ∧ l.length ≤ 1000 ∧ p.1 ≠ [] ∧ p.1.length ≤ 100000 ∧ q.size ≤ 1000 then some (q ++ (⟨#[44]⟩ : ByteArray) ++ ⟨p.1.toArray⟩) else none
def plan_Text.f (l0 : List S45) : Option (ByteArray × Int) := (readF l0).bind fun r => if r.isSome then (textF l0).map fun t => (t, 0) else some (⟨#[]⟩, 40)
theorem wr_new (w : World) (sl : Value) : WrAt w.heap.size sl 0 [] (w.alloc (.cells #[sl, .int .i64 0, .pointer none, .slice none 0 0] 53 (0, 0))) :=
  ⟨_, _, .inl rfl, by show (w.heap.push _)[w.heap.size]? = _; simp, ⟨rfl, .inl ⟨rfl, rfl⟩⟩⟩
set_option maxHeartbeats 8000000 in
set_option maxRecDepth 100000 in
theorem plan_Text.calls (A0 : Option Addr) (c0 : Nat) (l0 : List S45) (r1 : ByteArray) (r2 : Int) (w : World) (HG : Aside0 (Glb w)) (hr0 : Kd.C k45 w A0 l0.length l0) (hc0 : l0.length ≤ c0) (h : plan_Text.f l0 = some (r1, r2)) :
    Calls Tryd.prog 11 #[.slice A0 l0.length c0] w fun e w' => e = .returned (.tuple #[.string r1, .int .i64 r2]) ∧ Below w.heap.size w w' := by
  obtain ⟨t, ht, h⟩ := Option.bind_eq_some_iff.1 h
  cases t with
  | none =>
    obtain ⟨rfl, rfl⟩ := Prod.mk.inj (Option.some.inj h)
    have CK := Lib.hid (layout_Check.calls A0 c0 l0 40 w hr0 hc0 (by rw [layout_Check.f, ht]; rfl))
    clear hr0 hc0 h HG
    go_enter Tryd.func11, Tryd.ntmps11
    go_wp2_with (go_at_call 17; refine (CK.out).mono ?_)
    rintro e w1 ⟨rfl, b1⟩
    have B1 := Lib.hid b1
    clear b1
    go_wp2
    go_ret2
    exact ⟨rfl, B1.out⟩
  | some t =>
    obtain ⟨u, hu, he⟩ := Option.map_eq_some_iff.1 (show (textF l0).map (fun t => (t, (0 : Int))) = some (r1, r2) from h)
    obtain ⟨rfl, rfl⟩ := Prod.mk.inj he
    obtain ⟨⟨s, j⟩, hs, hu⟩ := Option.bind_eq_some_iff.1 hu
    obtain ⟨n, hn, hu⟩ := Option.bind_eq_some_iff.1 hu
    obtain ⟨q, hq, hu⟩ := Option.bind_eq_some_iff.1 hu
    by_cases hc : (∀ c ∈ l0, okC c) ∧ l0.length ≤ 1000 ∧ s ≠ [] ∧ s.length ≤ 100000 ∧ q.size ≤ 1000
    case neg => rw [if_neg hc] at hu; cases hu
    rw [if_pos hc] at hu
    obtain rfl := Option.some.inj hu
    have CK := Lib.hid (layout_Check.calls A0 c0 l0 0 w hr0 hc0 (by rw [layout_Check.f, ht]; rfl))
    have HH := Lib.hid (And.intro hr0 (And.intro hc0 hc))
    have HS := Lib.hid (And.intro hs (And.intro hn hq))
    clear hr0 hc0 h he hu hs hn hq hc ht
    go_enter Tryd.func11, Tryd.ntmps11
    go_wp2_with (go_at_call 17; refine (CK.out).mono ?_; rintro e w1 ⟨rfl, b1⟩)
    have B1 := Lib.hid b1
    clear b1
    have WN := Lib.hid (wr_new w1 (.slice A0 l0.length c0))
    have BN := Lib.hid (show Below w1.heap.size w1 (w1.alloc (.cells #[.slice A0 l0.length c0, .int .i64 0, .pointer none, .slice none 0 0] 53 (0, 0))) from (Below.refl _ _).alloc (Nat.le_refl _) _)
    have CC := Lib.hid (cell_calls 1000 w1.heap.size A0 c0 l0 0 j [] s _ (fun W hW => ⟨Kd.C_below HH.out.1 (B1.out.trans ((BN.out.trans hW).mono B1.out.size)), Glb.below HG.out (B1.out.trans ((BN.out.trans hW).mono B1.out.size))⟩) HH.out.2.1 (by have := HH.out.2.2.2.1; omega) HH.out.2.2.1 WN.out HS.out.1 (by have := HH.out.2.2.2.2.2.1; simp; omega))
    go_wp2_with (go_at_call 22; refine (CC.out).mono ?_; rintro e w2 ⟨rfl, wt, b2, _⟩)
    have WT := Lib.hid (wtext _ _ _ _ w2 wt (by rw [List.nil_append]; exact HH.out.2.2.2.2.1))
    rw [List.nil_append] at WT
    obtain ⟨sb, hsb⟩ : ∃ sb : ByteArray, sb = ⟨s.toArray⟩ := ⟨_, rfl⟩
    rw [← hsb] at WT
    have HSB := Lib.hid hsb
    have hsu : E.plan_Sum.f 200000 sb = some n := by rw [hsb]; exact HS.out.2.1
    have hss : sb.size ≤ 100000 := by rw [hsb]; exact HH.out.2.2.2.2.2.1
    have HSU := Lib.hid hsu
    clear hsb hsu
    have B2 := Lib.hid (B1.out.trans ((BN.out.trans b2).mono B1.out.size))
    have hle : w.heap.size ≤ w1.heap.size := B1.out.size
    clear wt b2 CC WN BN
    go_wp2_with (go_at_call 23; refine (WT.out).mono ?_; rintro e w3 ⟨rfl, b3⟩)
    have B3 := Lib.hid (B2.out.trans (b3.mono hle))
    clear b3 WT B2
    have hqs := HH.out.2.2.2.2.2.2
    have g1 : q.size + 1 ≤ 9223372036854775807 := by omega
    have g2 : q.size + 1 + sb.size ≤ 9223372036854775807 := by omega
    have g3 : (q ++ (⟨#[44]⟩ : ByteArray)).size + sb.size ≤ 9223372036854775807 := by rw [ByteArray.size_append]; exact g2
    have n1 := eq_false (Nat.not_lt.2 g1)
    have n2 := eq_false (Nat.not_lt.2 g2)
    have n3 := eq_false (Nat.not_lt.2 g3)
    replace g1 := eq_true g1
    replace g2 := eq_true g2
    replace g3 := eq_true g3
    have SU := Lib.hid (E.plan_Sum.calls 200000 sb n w3 HSU.out)
    go_wp2_with (go_at_call 25; refine (SU.out).mono ?_; rintro e w4 ⟨rfl, ⟨m4, rfl⟩⟩)
    have FO := Lib.hid (E.plan_four.calls n q (w3.drewN m4) HS.out.2.2)
    go_wp2_with (go_at_call 24; refine (FO.out).mono ?_; rintro e w5 ⟨rfl, b5⟩)
    have B5 := Lib.hid ((pw_below_drewN B3.out m4).trans (b5.mono (Nat.le_trans B3.out.size (Nat.le_refl _))))
    go_ret2
    rw [← HSB.out]
    exact ⟨rfl, B5.out⟩
end Go.Proofs.YtmpnkckaohfflaaDoor.PGiv
end
section
namespace Go.Proofs.YtmpnkckaohfflaaDoor.PGiv
open Go.RowKit Go.Proofs.YtmpnkckaohfflaaDoorW.PrintWords Go.Proofs.YtmpnkckaohfflaaDoorW.PrintLast Go.Proofs.YtmpnkckaohfflaaDoorW.PrintMore Go.Proofs.YtmpnkckaohfflaaDoor.K Go.Proofs.YtmpnkckaohfflaaDoor.Num
set_option linter.unusedVariables false
set_option linter.unusedSimpArgs false
abbrev brokenV : Value := .iface 88 (.agg #[])
def Brk (b : Nat) (w : World) (e : Ending) (w' : World) : Prop := e = .panicked [{ v := brokenV, recovered := false }] ∧ Below b w w'
theorem give_calls (a : Option Addr) (w : World) : Calls Tryd.prog 45 #[.pointer a] w fun e w' => e = .panicked [{ v := brokenV, recovered := false }] ∧ w' = w := by
  go_enter Tryd.func45, Tryd.ntmps45
  go_wp2
  exact ⟨rfl, rfl, rfl⟩
def RdBlk (b : Nat) (s : ByteArray) (n : Int) (sl : Value) (w : World) : Prop := w.heap[b]? = some (.cells #[.string s, .int .i64 n, sl] 86 (0, 0))
def Fr (b : Nat) (w w' : World) : Prop := Below b w w' ∧ ∀ k, k ≠ b → k < w.heap.size → w'.heap[k]? = w.heap[k]?
theorem Fr.refl (b : Nat) (w : World) : Fr b w w := ⟨Below.refl _ _, fun _ _ _ => rfl⟩
theorem Fr.trans {b : Nat} {w1 w2 w3 : World} (h : Fr b w1 w2) (k : Fr b w2 w3) : Fr b w1 w3 := ⟨h.1.trans k.1, fun i hi hl => (k.2 i hi (Nat.lt_of_lt_of_le hl h.1.size)).trans (h.2 i hi hl)⟩
theorem Fr.below {b : Nat} {w w' : World} (hb : b ≤ w.heap.size) (h : Below w.heap.size w w') : Fr b w w' := ⟨h.mono hb, fun k _ hk => h.block k hk⟩
theorem Fr.drewN (b : Nat) (w : World) (n : Nat) : Fr b w (w.drewN n) := ⟨pw_below_drewN (Below.refl _ _) n, fun _ _ _ => rfl⟩
theorem Fr.set {b : Nat} {w w' : World} (h : Fr b w w') (j : Nat) (v : Value) : Fr b w (w'.setCell ⟨b, j, none⟩ v) := ⟨h.1.setCell (p := ⟨b, j, none⟩) (Nat.le_refl _) _, fun k hk hl => (Below.heap_setCell _ _ _ k hk).trans (h.2 k hk hl)⟩
def rdNext (s : ByteArray) (a : Nat) : Option (UInt8 × Nat) := if h : a < s.size then some (s[a], a + 1) else none
def NextPost (b : Nat) (s : ByteArray) (sl : Value) (r : Option (UInt8 × Nat)) (w : World) (e : Ending) (w' : World) : Prop :=
  match r with
  | none => Brk b w e w'
  | some (c, a') => e = .returned (.int .u8 c.toNat) ∧ RdBlk b s a' sl w' ∧ Fr b w w'
set_option maxHeartbeats 2000000 in
set_option maxRecDepth 100000 in
theorem next_calls (b : Nat) (s : ByteArray) (a : Nat) (sl : Value) (w : World) (h : RdBlk b s a sl w) (hs : s.size ≤ 1000000) :
    Calls Tryd.prog 66 #[.pointer (some ⟨b, 0, none⟩)] w fun e w' => NextPost b s sl (rdNext s a) w e w' := by
  have h0 : w.cell? ⟨b, 0, none⟩ = some (.string s) := (blk_cell h 0).trans rfl
  have h1 : w.cell? ⟨b, 1, none⟩ = some (.int .i64 a) := (blk_cell h 1).trans rfl
  have HB := Lib.hid h
  clear h
  unfold rdNext
  go_enter Tryd.func66, Tryd.ntmps66
  by_cases ha : a < s.size
  · rw [dif_pos ha]
    have d1 : decide ((s.size : Int) ≤ (a : Int)) = false := decide_eq_false (by omega)
    go_wp2
    go_quiet (fail)
    generalize hq : w.drewN nq = wq
    have HQ := Lib.hid (show RdBlk b s a sl wq by rw [← hq]; exact HB.out)
    have FQ := Lib.hid (show Fr b w wq by rw [← hq]; exact Fr.drewN _ _ _)
    have q1 : wq.cell? ⟨b, 1, none⟩ = some (.int .i64 a) := (blk_cell HQ.out 1).trans rfl
    have f1 : wq.frozen? ⟨b, 1, none⟩ = false := blk_frozen HQ.out 1
    clear hq h0 h1
    go_wp2
    have HS := Lib.hid (show RdBlk b s ((a : Int) + 1) sl (wq.setCell ⟨b, 1, none⟩ (.int .i64 ((a : Int) + 1))) from blk_put HQ.out 1 _ rfl)
    have FS := Lib.hid (FQ.out.set 1 (.int .i64 ((a : Int) + 1)))
    generalize wq.setCell ⟨b, 1, none⟩ (.int .i64 ((a : Int) + 1)) = ws at HS FS ⊢
    have s0 : ws.cell? ⟨b, 0, none⟩ = some (.string s) := (blk_cell HS.out 0).trans rfl
    have s1 : ws.cell? ⟨b, 1, none⟩ = some (.int .i64 ((a : Int) + 1)) := (blk_cell HS.out 1).trans rfl
    clear q1 f1
    go_quiet (fail)
    go_wp2
    go_ret
    exact ⟨rfl, by have h := HS.out; rw [show (a : Int) + 1 = ((a + 1 : Nat) : Int) by omega] at h; exact h, FS.out.trans (Fr.drewN _ _ _)⟩
  · rw [dif_neg ha]
    have d1 : decide ((s.size : Int) ≤ (a : Int)) = true := decide_eq_true (by omega)
    go_wp2
    go_quiet (fail)
    go_wp2_with (go_at_call 45; refine (give_calls _ _).mono ?_; rintro e w' ⟨rfl, hw⟩; rw [hw]; clear hw w')
    exact ⟨rfl, rfl, pw_below_drewN (Below.refl _ _) _⟩
def rdMust (s : ByteArray) (a : Nat) (c : UInt8) : Option Nat := match rdNext s a with | none => none | some (d, a') => if d = c then some a' else none
def MustPost (b : Nat) (s : ByteArray) (sl : Value) (r : Option Nat) (w : World) (e : Ending) (w' : World) : Prop :=
  match r with
  | none => Brk b w e w'
  | some a' => e = .returned (.tuple #[]) ∧ RdBlk b s a' sl w' ∧ Fr b w w'
set_option maxHeartbeats 2000000 in
set_option maxRecDepth 100000 in
theorem must_calls (b : Nat) (s : ByteArray) (a : Nat) (sl : Value) (c : UInt8) (ci : Int) (hci : (c.toNat : Int) = ci) (w : World) (h : RdBlk b s a sl w) (hs : s.size ≤ 1000000) :
    Calls Tryd.prog 65 #[.pointer (some ⟨b, 0, none⟩), .int .u8 ci] w fun e w' => MustPost b s sl (rdMust s a c) w e w' := by
  subst hci
  have NX := Lib.hid (next_calls b s a sl w h hs)
  unfold rdMust
  go_enter Tryd.func65, Tryd.ntmps65
  cases hx : rdNext s a with
  | none =>
    rw [hx] at NX
    go_wp2_with (go_at_call 66; refine (NX.out).mono ?_; rintro e w' ⟨rfl, hb⟩)
    exact ⟨rfl, rfl, hb⟩
  | some r =>
    obtain ⟨d, a'⟩ := r
    rw [hx] at NX
    by_cases hd : d = c
    · have hd' : ((d.toNat : Int) != (c.toNat : Int)) = false := by rw [hd]; simp
      have hd2 : (d.toNat != c.toNat) = false := by rw [hd]; simp
      simp only [if_pos hd]
      clear hd hx
      go_wp2_with (go_at_call 66; refine (NX.out).mono ?_; rintro e w' ⟨rfl, hb, hf⟩)
      first | go_end0 | refine bodyPost_ret (results_none rfl _ _ _) rfl ?_
      exact ⟨rfl, hb, hf⟩
    · have hne : d.toNat ≠ c.toNat := fun e => hd (UInt8.toNat_inj.1 e)
      have hd' : ((d.toNat : Int) != (c.toNat : Int)) = true := bne_iff_ne.mpr (by omega)
      have hd2 : (d.toNat != c.toNat) = true := bne_iff_ne.mpr hne
      simp only [if_neg hd]
      clear hd hx hne
      go_wp2_with (first | (go_at_call 66; refine (NX.out).mono ?_; rintro e w' ⟨rfl, hb, hf⟩) | (go_at_call 45; refine (give_calls _ _).mono ?_; rintro e w'' ⟨rfl, hw⟩; rw [hw]; clear hw w''))
      exact ⟨rfl, rfl, hf.1⟩
def digEnd : Nat → ByteArray → Nat → Nat
  | 0, _, a => a
  | k + 1, s, a => if h : a < s.size then (if 48 ≤ s[a].toNat ∧ s[a].toNat ≤ 57 then digEnd k s (a + 1) else a) else a
theorem digEnd_le (s : ByteArray) : ∀ k a, a ≤ s.size → a ≤ digEnd k s a ∧ digEnd k s a ≤ s.size
  | 0, a, h => ⟨Nat.le_refl _, h⟩
  | k + 1, a, h => by
    rw [digEnd]
    split
    · split
      · have := digEnd_le s k (a + 1) (by omega)
        omega
      · exact ⟨Nat.le_refl _, h⟩
    · exact ⟨Nat.le_refl _, h⟩
def rdNumber (s : ByteArray) (a : Nat) : Option (Int × Nat) := if (numOf (s.extract a (digEnd (s.size - a) s a)).data.toList).2 = true then some ((numOf (s.extract a (digEnd (s.size - a) s a)).data.toList).1, digEnd (s.size - a) s a) else none
def NumPost (b : Nat) (s : ByteArray) (sl : Value) (r : Option (Int × Nat)) (w : World) (e : Ending) (w' : World) : Prop :=
  match r with
  | none => Brk b w e w'
  | some (n, a') => e = .returned (.int .i64 n) ∧ RdBlk b s a' sl w' ∧ Fr b w w'
set_option maxHeartbeats 8000000 in
set_option maxRecDepth 100000 in
theorem rdnumber_calls (b : Nat) (s : ByteArray) (a : Nat) (sl : Value) (w : World) (h : RdBlk b s a sl w) (hs : s.size ≤ 1000000) (ha : a ≤ s.size) (HG : ∀ W, Below b w W → Glb W) :
    Calls Tryd.prog 64 #[.pointer (some ⟨b, 0, none⟩)] w fun e w' => NumPost b s sl (rdNumber s a) w e w' := by
  have h1 : w.cell? ⟨b, 1, none⟩ = some (.int .i64 a) := (blk_cell h 1).trans rfl
  have HB := Lib.hid h
  have HG := Lib.hid HG
  unfold rdNumber
  generalize hE : digEnd (s.size - a) s a = E
  have hE2 := digEnd_le s (s.size - a) a ha
  rw [hE] at hE2
  have HE := Lib.hid hE
  clear hE h
  generalize hnm : numOf (s.extract a E).data.toList = nm
  have HN := Lib.hid hnm
  clear hnm
  obtain ⟨num, ok⟩ := nm
  go_enter Tryd.func64, Tryd.ntmps64
  go_wp2
  go_loopg [] (s.size - a) (fun kq wr => ∃ (i : Nat), Aside0 (digEnd kq s i = E) ∧ Aside0 (i + kq = s.size) ∧ Aside0 (a ≤ i) ∧ Aside0 (RdBlk b s i sl wr) ∧ Aside0 (Fr b w wr))
  case atStart => exact ⟨a, ⟨HE.out⟩, ⟨by omega⟩, ⟨Nat.le_refl _⟩, ⟨HB.out⟩, ⟨Fr.refl _ _⟩⟩
  case round =>
    clear h1
    obtain ⟨i, RE, RI, RA, RW, RF⟩ := hrel
    have r0 : wr.cell? ⟨b, 0, none⟩ = some (.string s) := (blk_cell RW.out 0).trans rfl
    have r1 : wr.cell? ⟨b, 1, none⟩ = some (.int .i64 i) := (blk_cell RW.out 1).trans rfl
    cases gk with
    | zero =>
      have hi : i = E := RE.out
      have his : i = s.size := RI.out
      subst hi
      have d1 : decide ((i : Int) < (s.size : Int)) = false := decide_eq_false (by omega)
      have d2 : decide (i < s.size) = false := decide_eq_false (by omega)
      clear his
      go_wp2
      go_quiet (fail)
      generalize hq : wr.drewN nq = wq
      have HQ := Lib.hid (show RdBlk b s i sl wq by rw [← hq]; exact RW.out)
      have FQ := Lib.hid (show Fr b w wq by rw [← hq]; exact RF.out.trans (Fr.drewN _ _ _))
      clear hq r0 r1
      have haE : a ≤ i := hE2.1
      have hEs : i ≤ s.size := hE2.2
      have hex : (s.extract a i).size ≤ 281474976710656 := by rw [ByteArray.size_extract]; omega
      have HX := Lib.hid hex
      clear hex
      have hle : b ≤ w.heap.size := Nat.le_of_lt (blk_lt HB.out)
      have hle2 : b ≤ wq.heap.size := Nat.le_trans hle FQ.out.1.size
      go_wp2
      have CQ := Lib.hid (show RdBlk b s i sl wq.drew from HQ.out)
      have y0 : wq.drew.cell? ⟨b, 0, none⟩ = some (.string s) := (blk_cell CQ.out 0).trans rfl
      have y1 : wq.drew.cell? ⟨b, 1, none⟩ = some (.int .i64 i) := (blk_cell CQ.out 1).trans rfl
      have GQ := Lib.hid (HG.out wq.drew (FQ.out.1.trans (Below.refl _ _).drew))
      have hg0 : (0 ≤ (a : Int)) = True := eq_true (by omega)
      have hg1 : ((a : Int) ≤ (i : Int)) = True := eq_true (by omega)
      have hg2 : ((i : Int) ≤ (s.size : Int)) = True := eq_true (by omega)
      have NB := NGiv.number_calls (s.extract a i) HX.out wq.drew GQ.out
      rw [HN.out] at NB
      have NB := Lib.hid NB
      go_region_held3 (fun w' => w'.cell? ⟨b, 0, none⟩ = some (.string s) ∧ w'.cell? ⟨b, 1, none⟩ = some (.int .i64 i))
        (first | exact ⟨y0, y1⟩)
        (first
          | (go_at_call 74
             with_reducible refine (NB.out).mono ?_
             rintro e wn ⟨rfl, bn⟩
             have CQ := Lib.hid (show RdBlk b s i sl wn from (bn.block _ (blk_lt CQ.out)).trans CQ.out)
             have FN := Lib.hid (FQ.out.trans ((Fr.drewN b wq 1).trans (Fr.below hle2 bn)))
             have y0 : wn.cell? ⟨b, 0, none⟩ = some (.string s) := (blk_cell CQ.out 0).trans rfl
             have y1 : wn.cell? ⟨b, 1, none⟩ = some (.int .i64 i) := (blk_cell CQ.out 1).trans rfl
             clear bn))
      cases ok with
      | true =>
        go_wp2
        go_ret
        exact ⟨rfl, CQ.out, FN.out⟩
      | false =>
        go_wp2_with (go_at_call 45; refine (give_calls _ _).mono ?_; rintro e w' ⟨rfl, hw⟩; rw [hw]; clear hw w')
        exact ⟨rfl, rfl, FN.out.1⟩
    | succ gk =>
      have his : i < s.size := by have := RI.out; omega
      have d1 : decide ((i : Int) < (s.size : Int)) = true := decide_eq_true (by omega)
      have d2 : decide (i < s.size) = true := decide_eq_true (by omega)
      have hR := RE.out
      rw [digEnd, dif_pos his] at hR
      by_cases c1 : 48 ≤ s[i].toNat
      · have c1' : decide (48 ≤ s[i].toNat) = true := decide_eq_true c1
        have c1i : decide ((48 : Int) ≤ (s[i].toNat : Int)) = true := decide_eq_true (by omega)
        by_cases c2 : s[i].toNat ≤ 57
        · have c2' : decide (s[i].toNat ≤ 57) = true := decide_eq_true c2
          have c2i : decide ((s[i].toNat : Int) ≤ (57 : Int)) = true := decide_eq_true (by omega)
          rw [if_pos ⟨c1, c2⟩] at hR
          have HR := Lib.hid hR
          clear hR c1 c2
          go_wp2
          go_quiet (fail)
          generalize hq : wr.drewN nq = wq
          have HQ := Lib.hid (show RdBlk b s i sl wq by rw [← hq]; exact RW.out)
          have FQ := Lib.hid (show Fr b w wq by rw [← hq]; exact RF.out.trans (Fr.drewN _ _ _))
          clear hq r0 r1
          have q1 : wq.cell? ⟨b, 1, none⟩ = some (.int .i64 i) := (blk_cell HQ.out 1).trans rfl
          have f1 : wq.frozen? ⟨b, 1, none⟩ = false := blk_frozen HQ.out 1
          go_wp2
          go_roundg gk
          case measure => omega
          case rel =>
            refine ⟨i + 1, ⟨HR.out⟩, ⟨by have := RI.out; omega⟩, ⟨by have := RA.out; omega⟩, ⟨?_⟩, ⟨FQ.out.set 1 _⟩⟩
            rw [show ((i + 1 : Nat) : Int) = (i : Int) + 1 by omega]
            exact blk_put HQ.out 1 _ rfl
        · have c2' : decide (s[i].toNat ≤ 57) = false := decide_eq_false c2
          have c2i : decide ((s[i].toNat : Int) ≤ (57 : Int)) = false := decide_eq_false (by omega)
          rw [if_neg (fun h => c2 h.2)] at hR
          subst hR
          clear c1 c2
          go_wp2
          go_quiet (fail)
          generalize hq : wr.drewN nq = wq
          have HQ := Lib.hid (show RdBlk b s i sl wq by rw [← hq]; exact RW.out)
          have FQ := Lib.hid (show Fr b w wq by rw [← hq]; exact RF.out.trans (Fr.drewN _ _ _))
          clear hq r0 r1
          have haE : a ≤ i := hE2.1
          have hEs : i ≤ s.size := hE2.2
          have hex : (s.extract a i).size ≤ 281474976710656 := by rw [ByteArray.size_extract]; omega
          have HX := Lib.hid hex
          clear hex
          have hle : b ≤ w.heap.size := Nat.le_of_lt (blk_lt HB.out)
          have hle2 : b ≤ wq.heap.size := Nat.le_trans hle FQ.out.1.size
          go_wp2
          have CQ := Lib.hid (show RdBlk b s i sl wq.drew from HQ.out)
          have y0 : wq.drew.cell? ⟨b, 0, none⟩ = some (.string s) := (blk_cell CQ.out 0).trans rfl
          have y1 : wq.drew.cell? ⟨b, 1, none⟩ = some (.int .i64 i) := (blk_cell CQ.out 1).trans rfl
          have GQ := Lib.hid (HG.out wq.drew (FQ.out.1.trans (Below.refl _ _).drew))
          have hg0 : (0 ≤ (a : Int)) = True := eq_true (by omega)
          have hg1 : ((a : Int) ≤ (i : Int)) = True := eq_true (by omega)
          have hg2 : ((i : Int) ≤ (s.size : Int)) = True := eq_true (by omega)
          have NB := NGiv.number_calls (s.extract a i) HX.out wq.drew GQ.out
          rw [HN.out] at NB
          have NB := Lib.hid NB
          go_region_held3 (fun w' => w'.cell? ⟨b, 0, none⟩ = some (.string s) ∧ w'.cell? ⟨b, 1, none⟩ = some (.int .i64 i))
            (first | exact ⟨y0, y1⟩)
            (first
              | (go_at_call 74
                 with_reducible refine (NB.out).mono ?_
                 rintro e wn ⟨rfl, bn⟩
                 have CQ := Lib.hid (show RdBlk b s i sl wn from (bn.block _ (blk_lt CQ.out)).trans CQ.out)
                 have FN := Lib.hid (FQ.out.trans ((Fr.drewN b wq 1).trans (Fr.below hle2 bn)))
                 have y0 : wn.cell? ⟨b, 0, none⟩ = some (.string s) := (blk_cell CQ.out 0).trans rfl
                 have y1 : wn.cell? ⟨b, 1, none⟩ = some (.int .i64 i) := (blk_cell CQ.out 1).trans rfl
                 clear bn))
          cases ok with
          | true =>
            go_wp2
            go_ret
            exact ⟨rfl, CQ.out, FN.out⟩
          | false =>
            go_wp2_with (go_at_call 45; refine (give_calls _ _).mono ?_; rintro e w' ⟨rfl, hw⟩; rw [hw]; clear hw w')
            exact ⟨rfl, rfl, FN.out.1⟩
      · have c1' : decide (48 ≤ s[i].toNat) = false := decide_eq_false c1
        have c1i : decide ((48 : Int) ≤ (s[i].toNat : Int)) = false := decide_eq_false (by omega)
        rw [if_neg (fun h => c1 h.1)] at hR
        subst hR
        clear c1
        go_wp2
        go_quiet (fail)
        generalize hq : wr.drewN nq = wq
        have HQ := Lib.hid (show RdBlk b s i sl wq by rw [← hq]; exact RW.out)
        have FQ := Lib.hid (show Fr b w wq by rw [← hq]; exact RF.out.trans (Fr.drewN _ _ _))
        clear hq r0 r1
        have haE : a ≤ i := hE2.1
        have hEs : i ≤ s.size := hE2.2
        have hex : (s.extract a i).size ≤ 281474976710656 := by rw [ByteArray.size_extract]; omega
        have HX := Lib.hid hex
        clear hex
        have hle : b ≤ w.heap.size := Nat.le_of_lt (blk_lt HB.out)
        have hle2 : b ≤ wq.heap.size := Nat.le_trans hle FQ.out.1.size
        go_wp2
        have CQ := Lib.hid (show RdBlk b s i sl wq.drew from HQ.out)
        have y0 : wq.drew.cell? ⟨b, 0, none⟩ = some (.string s) := (blk_cell CQ.out 0).trans rfl
        have y1 : wq.drew.cell? ⟨b, 1, none⟩ = some (.int .i64 i) := (blk_cell CQ.out 1).trans rfl
        have GQ := Lib.hid (HG.out wq.drew (FQ.out.1.trans (Below.refl _ _).drew))
        have hg0 : (0 ≤ (a : Int)) = True := eq_true (by omega)
        have hg1 : ((a : Int) ≤ (i : Int)) = True := eq_true (by omega)
        have hg2 : ((i : Int) ≤ (s.size : Int)) = True := eq_true (by omega)
        have NB := NGiv.number_calls (s.extract a i) HX.out wq.drew GQ.out
        rw [HN.out] at NB
        have NB := Lib.hid NB
        go_region_held3 (fun w' => w'.cell? ⟨b, 0, none⟩ = some (.string s) ∧ w'.cell? ⟨b, 1, none⟩ = some (.int .i64 i))
          (first | exact ⟨y0, y1⟩)
          (first
            | (go_at_call 74
               with_reducible refine (NB.out).mono ?_
               rintro e wn ⟨rfl, bn⟩
               have CQ := Lib.hid (show RdBlk b s i sl wn from (bn.block _ (blk_lt CQ.out)).trans CQ.out)
               have FN := Lib.hid (FQ.out.trans ((Fr.drewN b wq 1).trans (Fr.below hle2 bn)))
               have y0 : wn.cell? ⟨b, 0, none⟩ = some (.string s) := (blk_cell CQ.out 0).trans rfl
               have y1 : wn.cell? ⟨b, 1, none⟩ = some (.int .i64 i) := (blk_cell CQ.out 1).trans rfl
               clear bn))
        cases ok with
        | true =>
          go_wp2
          go_ret
          exact ⟨rfl, CQ.out, FN.out⟩
        | false =>
          go_wp2_with (go_at_call 45; refine (give_calls _ _).mono ?_; rintro e w' ⟨rfl, hw⟩; rw [hw]; clear hw w')
          exact ⟨rfl, rfl, FN.out.1⟩
end Go.Proofs.YtmpnkckaohfflaaDoor.PGiv
end
section
namespace Go.Proofs.YtmpnkckaohfflaaDoor.PGiv
open Go.RowKit Go.Proofs.YtmpnkckaohfflaaDoorW.PrintWords Go.Proofs.YtmpnkckaohfflaaDoorW.PrintLast Go.Proofs.YtmpnkckaohfflaaDoorW.PrintMore Go.Proofs.YtmpnkckaohfflaaDoor.K
set_option linter.unusedVariables false
set_option linter.unusedSimpArgs false
theorem cell_new0 (w1 : World) (o : Obj) : (w1.alloc o).heap[w1.heap.size]? = some o ∧ (∀ k : Nat, k < w1.heap.size → (w1.alloc o).heap[k]? = w1.heap[k]?) ∧ (w1.alloc o).heap.size = w1.heap.size + 1 ∧ (∀ B, B ≤ w1.heap.size → Below B w1 (w1.alloc o)) := by
  have e : (w1.alloc o).heap = w1.heap.push o := rfl
  exact ⟨by rw [e]; simp, fun k hk => Below.heap_alloc w1 o k hk, by rw [e]; simp, fun B hB => (Below.refl B w1).alloc hB o⟩
theorem seg_ne {xs : List Value} {p m : Nat} {u : Value} (h : m * 7 + 7 ≤ p ∨ p < m * 7) : ((xs.set p u).drop (m * 7)).take 7 = (xs.drop (m * 7)).take 7 := by
  apply List.ext_getElem?
  intro i
  rw [List.getElem?_take, List.getElem?_take]
  split
  · rw [List.getElem?_drop, List.getElem?_drop, List.getElem?_set_ne (by omega)]
  · rfl
theorem seg_eq {xs : List Value} {m j : Nat} {u : Value} (hj : j < 7) : ((xs.set (m * 7 + j) u).drop (m * 7)).take 7 = ((xs.drop (m * 7)).take 7).set j u := by
  apply List.ext_getElem?
  intro i
  by_cases h : i = j
  · subst h
    have e : (i < ((xs.drop (m * 7)).take 7).length) ↔ (m * 7 + i < xs.length) := by
      rw [List.length_take, List.length_drop]
      omega
    rw [List.getElem?_take_of_lt hj, List.getElem?_drop, List.getElem?_set, List.getElem?_set]
    simp only [e, if_true]
  · rw [List.getElem?_set_ne (fun e => h e.symm), List.getElem?_take, List.getElem?_take]
    split
    · rw [List.getElem?_drop, List.getElem?_drop, List.getElem?_set_ne (by omega)]
    · rfl
theorem row_set {w : World} {base n cap g : Nat} {ok : Nat → Prop} {L : List S45} {x x' : S45} {u : Value} {j : Nat} (h : Kd.R k45 45 w base ok (.slice (some ⟨g, 0, none⟩) n cap) (L ++ [x])) (hj : j < 7)
    (hx : [Value.int .i64 x'.f0, .int .i64 x'.f1, .int .i64 x'.f2, .int .i64 x'.f3, .int .i64 x'.f4, .int .i64 x'.f5, .int .i64 x'.f6] = [Value.int .i64 x.f0, .int .i64 x.f1, .int .i64 x.f2, .int .i64 x.f3, .int .i64 x.f4, .int .i64 x.f5, .int .i64 x.f6].set j u) :
    Kd.R k45 45 (w.setCell ⟨g, L.length * 7 + j, none⟩ u) base ok (.slice (some ⟨g, 0, none⟩) n cap) (L ++ [x']) := by
  obtain ⟨hok, inner, ⟨hl, hown⟩, hr1, hr2⟩ := h
  rcases hown with ⟨e, _⟩ | ⟨g', cap', cur, e, hb, hh, hnc, hcm, hcs, ht⟩
  · cases e
  injection e with e1 e2 e3
  injection e1 with e1
  injection e1 with e1
  subst e1 e3
  have hr1' : inner.length = (L ++ [x]).length * 7 := hr1
  have hn : (L ++ [x]).length = L.length + 1 := by simp
  have hsz : k45.sz = 7 := rfl
  have hn' : (L ++ [x']).length = L.length + 1 := by simp
  refine ⟨hok, inner.set (L.length * 7 + j) u, ⟨by rw [List.length_set, hl, hn, hn'], .inr ⟨g, cap, cur.setIfInBounds (L.length * 7 + j) u, by rw [e2, hn, hn'], hb, blk_set hh _ _, by rw [hn']; rw [hn] at hnc; exact hnc, hcm, by simpa using hcs, ?_⟩⟩, ?_⟩
  · have : (cur.setIfInBounds (L.length * 7 + j) u).toList = cur.toList.set (L.length * 7 + j) u := by simp
    rw [this, List.take_set]
    have ht' : cur.toList.take ((L ++ [x]).length * 7) = inner := ht
    rw [hn] at ht'
    rw [hn', hsz, ht']
  · refine ⟨by rw [List.length_set, hr1, hn, hn'], fun m p hm => ?_⟩
    by_cases hmL : m < L.length
    · have hm' : (L ++ [x])[m]? = some p := by rw [List.getElem?_append_left hmL] at hm ⊢; exact hm
      have h1 := hr2 m p hm'
      have h2 : ((inner.set (L.length * 7 + j) u).drop (m * 7)).take 7 = (inner.drop (m * 7)).take 7 := seg_ne (.inl (by omega))
      have h3 : k45.M w base (fun k => ok k ∧ some k ≠ (Value.slice (some ⟨g, 0, none⟩) n cap).ownBlock) p ((inner.drop (m * 7)).take 7) := h1
      have h4 := k45_openM h3
      show k45.M _ base _ p (((inner.set (L.length * 7 + j) u).drop (m * 7)).take 7)
      rw [h2, h4]
      exact k45_mkM _ _ _ p
    · have hmL' : m = L.length := by
        have := List.getElem?_eq_some_iff.1 hm
        obtain ⟨h, _⟩ := this
        simp at h
        omega
      subst hmL'
      have hp : p = x' := by simpa using hm.symm
      subst hp
      have h1 := hr2 L.length x (by simp)
      have h3 : k45.M w base (fun k => ok k ∧ some k ≠ (Value.slice (some ⟨g, 0, none⟩) n cap).ownBlock) x ((inner.drop (L.length * 7)).take 7) := h1
      have h4 := k45_openM h3
      show k45.M _ base _ p (((inner.set (L.length * 7 + j) u).drop (L.length * 7)).take 7)
      rw [seg_eq hj, h4, ← hx]
      exact k45_mkM _ _ _ p
theorem row_last {w : World} {base : Nat} {ok : Nat → Prop} {L : List S45} {x : S45} {v : Value} (h : Kd.R k45 45 w base ok v (L ++ [x])) :
    ∃ g cap, v = .slice (some ⟨g, 0, none⟩) (L.length + 1) cap ∧ base ≤ g ∧ g < w.heap.size ∧ (∀ j, w.frozen? ⟨g, j, none⟩ = false) ∧
      (∀ j u, [Value.int .i64 x.f0, .int .i64 x.f1, .int .i64 x.f2, .int .i64 x.f3, .int .i64 x.f4, .int .i64 x.f5, .int .i64 x.f6][j]? = some u → w.cell? ⟨g, L.length * 7 + j, none⟩ = some u) := by
  obtain ⟨hok, inner, ⟨hl, hown⟩, hr1, hr2⟩ := h
  rcases hown with ⟨_, e⟩ | ⟨g, cap, cur, rfl, hb, hh, hnc, hcm, hcs, ht⟩
  · simp at e
  refine ⟨g, cap, by simp, hb, blk_lt hh, fun j => blk_frozen hh j, fun j u hu => ?_⟩
  have h1 := hr2 L.length x (by simp)
  have h3 : k45.M w base _ x ((inner.drop (L.length * 7)).take 7) := h1
  have h4 := k45_openM h3
  have hj : j < 7 := by
    have := List.getElem?_eq_some_iff.1 hu
    obtain ⟨h, _⟩ := this
    simpa using h
  rw [← h4, List.getElem?_take_of_lt hj, List.getElem?_drop] at hu
  have hin : inner[L.length * 7 + j]? = some u := hu
  rw [blk_cell hh]
  have ht' : cur.toList.take ((L ++ [x]).length * 7) = inner := ht
  rw [← ht', List.getElem?_take] at hin
  split at hin
  · simpa using hin
  · cases hin
end Go.Proofs.YtmpnkckaohfflaaDoor.PGiv
end
section
namespace Go.Proofs.YtmpnkckaohfflaaDoor.PGiv
open Go.RowKit Go.Proofs.YtmpnkckaohfflaaDoorW.PrintWords Go.Proofs.YtmpnkckaohfflaaDoorW.PrintLast Go.Proofs.YtmpnkckaohfflaaDoorW.PrintMore Go.Proofs.YtmpnkckaohfflaaDoor.K Go.Proofs.YtmpnkckaohfflaaDoor.Num
set_option linter.unusedVariables false
set_option linter.unusedSimpArgs false
theorem Fr.far {b : Nat} {w w' : World} (h : Fr b w w') {p : Addr} (hp : w.heap.size ≤ p.block) (hb : b ≤ p.block) (u : Value) : Fr b w (w'.setCell p u) :=
  ⟨h.1.setCell hb u, fun k hk hl => (Below.heap_setCell _ _ _ k (by omega)).trans (h.2 k hk hl)⟩
mutual
def cellR : Nat → ByteArray → Nat → List S45 → Int → Option (Option (List S45 × Nat))
  | 0, _, _, _, _ => none
  | k + 1, s, a, L, d =>
    match rdNumber s a with
    | none => some none
    | some (W, a1) =>
    match rdMust s a1 120 with
    | none => some none
    | some a2 =>
    match rdNumber s a2 with
    | none => some none
    | some (H, a3) =>
    match rdMust s a3 44 with
    | none => some none
    | some a4 =>
    match rdNumber s a4 with
    | none => some none
    | some (X, a5) =>
    match rdMust s a5 44 with
    | none => some none
    | some a6 =>
    match rdNumber s a6 with
    | none => some none
    | some (Y, a7) =>
    match rdNext s a7 with
    | none => some none
    | some (c, a8) =>
      if c = 44 then
        match rdNumber s a8 with
        | none => some none
        | some (q, a9) => some (some (L ++ [⟨d, 1, X, Y, W, H, q⟩], a9))
      else if c = 123 then loopR k s a8 (L ++ [⟨d, 2, X, Y, W, H, 0⟩]) d 125
      else if c = 91 then loopR k s a8 (L ++ [⟨d, 3, X, Y, W, H, 0⟩]) d 93
      else some none
def loopR : Nat → ByteArray → Nat → List S45 → Int → UInt8 → Option (Option (List S45 × Nat))
  | 0, _, _, _, _, _ => none
  | k + 1, s, a, L, d, sh => (cellR k s a L (wrap64 (d + 1))).bind fun r =>
    match r with
    | none => some none
    | some (L', a') =>
    match rdNext s a' with
    | none => some none
    | some (c, a'') => if c = sh then some (some (L', a'')) else if c = 44 then loopR k s a'' L' d sh else some none
end
theorem next_le {s : ByteArray} {a a' : Nat} {c : UInt8} (h : rdNext s a = some (c, a')) : a < a' ∧ a' ≤ s.size := by
  unfold rdNext at h
  split at h
  · obtain ⟨_, rfl⟩ := Prod.mk.inj (Option.some.inj h)
    omega
  · cases h
theorem must_le {s : ByteArray} {a a' : Nat} {c : UInt8} (h : rdMust s a c = some a') : a < a' ∧ a' ≤ s.size := by
  unfold rdMust at h
  split at h
  · cases h
  · rename_i d a1 h1
    split at h
    · obtain rfl := Option.some.inj h
      exact next_le h1
    · cases h
theorem number_le {s : ByteArray} {a a' : Nat} {n : Int} (ha : a ≤ s.size) (h : rdNumber s a = some (n, a')) : a ≤ a' ∧ a' ≤ s.size := by
  unfold rdNumber at h
  split at h
  · obtain ⟨_, rfl⟩ := Prod.mk.inj (Option.some.inj h)
    exact digEnd_le s _ a ha
  · cases h
theorem rd_le : ∀ k, (∀ s a L d L' a', cellR k s a L d = some (some (L', a')) → a ≤ s.size → L.length ≤ a → a' ≤ s.size ∧ L'.length ≤ a') ∧ (∀ s a L d sh L' a', loopR k s a L d sh = some (some (L', a')) → a ≤ s.size → L.length ≤ a → a' ≤ s.size ∧ L'.length ≤ a') := by
  intro k
  induction k with
  | zero => exact ⟨fun s a L d L' a' h => by simp [cellR] at h, fun s a L d sh L' a' h => by simp [loopR] at h⟩
  | succ k ih =>
    obtain ⟨ih1, ih2⟩ := ih
    constructor
    · intro s a L d L' a' h ha hL
      rw [cellR] at h
      split at h
      · simp at h
      rename_i W a1 h1
      have l1 := number_le ha h1
      split at h
      · simp at h
      rename_i a2 h2
      have l2 := must_le h2
      split at h
      · simp at h
      rename_i H a3 h3
      have l3 := number_le l2.2 h3
      split at h
      · simp at h
      rename_i a4 h4
      have l4 := must_le h4
      split at h
      · simp at h
      rename_i X a5 h5
      have l5 := number_le l4.2 h5
      split at h
      · simp at h
      rename_i a6 h6
      have l6 := must_le h6
      split at h
      · simp at h
      rename_i Y a7 h7
      have l7 := number_le l6.2 h7
      split at h
      · simp at h
      rename_i c a8 h8
      have l8 := next_le h8
      split at h
      · split at h
        · simp at h
        · rename_i q a9 h9
          have l9 := number_le l8.2 h9
          simp only [Option.some.injEq, Prod.mk.injEq] at h
          obtain ⟨rfl, rfl⟩ := h
          simp
          omega
      · split at h
        · exact ih2 _ _ _ _ _ _ _ h l8.2 (by simp; omega)
        · split at h
          · exact ih2 _ _ _ _ _ _ _ h l8.2 (by simp; omega)
          · simp at h
    · intro s a L d sh L' a' h ha hL
      rw [loopR] at h
      obtain ⟨r, hr, h⟩ := Option.bind_eq_some_iff.1 h
      split at h
      · simp at h
      rename_i L1 b1
      have h1 := ih1 _ _ _ _ _ _ hr ha hL
      split at h
      · simp at h
      rename_i c b2 h2
      have l2 := next_le h2
      split at h
      · simp only [Option.some.injEq, Prod.mk.injEq] at h
        obtain ⟨rfl, rfl⟩ := h
        omega
      · split at h
        · exact ih2 _ _ _ _ _ _ _ h l2.2 (by omega)
        · simp at h
theorem u8_ne {c d : UInt8} {n : Int} (h : c ≠ d) (hn : (d.toNat : Int) = n) : (c.toNat : Int) ≠ n := fun e => h (UInt8.toNat_inj.1 (by omega))
def RcPost (b : Nat) (s : ByteArray) (r : Option (List S45 × Nat)) (w : World) (e : Ending) (w' : World) : Prop :=
  match r with
  | none => Brk b w e w'
  | some (L', a') => e = .returned (.tuple #[]) ∧ ∃ sl', RdBlk b s a' sl' w' ∧ Kd.R k45 45 w' (b + 1) (fun _ => True) sl' L' ∧ Below b w w'
set_option maxHeartbeats 32000000 in
set_option maxRecDepth 100000 in
theorem rcell_calls (k : Nat) : ∀ (b : Nat) (s : ByteArray) (a : Nat) (sl : Value) (L : List S45) (d : Int) (r : Option (List S45 × Nat)) (w : World), RdBlk b s a sl w → Kd.R k45 45 w (b + 1) (fun _ => True) sl L → s.size ≤ 1000000 → a ≤ s.size → L.length ≤ a →
    (∀ W, Below b w W → Glb W) → cellR k s a L d = some r →
    Calls Tryd.prog 44 #[.pointer (some ⟨b, 0, none⟩), .int .i64 d] w fun e w' => RcPost b s r w e w' := by
  induction k using Nat.strongRecOn with
  | _ k ih =>
  intro b s a sl L d r w hB hR hs ha hLa hG hF
  cases k with
  | zero => exact absurd hF (by simp [cellR])
  | succ k =>
  rw [cellR] at hF
  obtain ⟨Asl, csl, rfl⟩ := Kd.R_slice hR
  have hbw : b < w.heap.size := blk_lt hB
  have HG := Lib.hid hG
  have HR := Lib.hid hR
  obtain ⟨N1, N2, N3, N4⟩ := cell_new0 w (.cells #[.int .i64 d, .int .i64 0, .int .i64 0, .int .i64 0, .int .i64 0, .int .i64 0, .int .i64 0] 45 (0, 0))
  have F0 : Hid (Fr b w (w.alloc (.cells #[.int .i64 d, .int .i64 0, .int .i64 0, .int .i64 0, .int .i64 0, .int .i64 0, .int .i64 0] 45 (0, 0)))) := Lib.hid ⟨N4 b (by omega), fun k _ hk => N2 k hk⟩
  have B0 := Lib.hid (show RdBlk b s a (.slice Asl L.length csl) (w.alloc (.cells #[.int .i64 d, .int .i64 0, .int .i64 0, .int .i64 0, .int .i64 0, .int .i64 0, .int .i64 0] 45 (0, 0))) from (N2 b hbw).trans hB)
  have C0 := Lib.hid N1
  clear N1 N2 N3 N4 hG hR hB
  go_enter Tryd.func44, Tryd.ntmps44
  go_wp2_with fail
  generalize w.alloc (.cells #[.int .i64 d, .int .i64 0, .int .i64 0, .int .i64 0, .int .i64 0, .int .i64 0, .int .i64 0] 45 (0, 0)) = v0 at F0 B0 C0 ⊢
  have P1 := rdnumber_calls b s a (.slice Asl L.length csl) v0 B0.out hs ha (fun W hW => HG.out W (F0.out.1.trans hW))
  cases h1 : rdNumber s a with
  | none =>
    rw [h1] at P1 hF
    obtain rfl := Option.some.inj hF
    have P1 := Lib.hid P1
    go_wp2_with (go_at_call 64; refine (P1.out).mono ?_; rintro e w' ⟨rfl, hb⟩)
    exact ⟨rfl, rfl, F0.out.1.trans hb⟩
  | some r1 =>
    obtain ⟨W, a1⟩ := r1
    rw [h1] at P1 hF
    simp only at hF
    have l1 := number_le ha h1
    have P1 := Lib.hid P1
    clear h1
    go_wp2_with (go_at_call 64; refine (P1.out).mono ?_; rintro e w1 ⟨rfl, hb, hf⟩; have C1 := Lib.hid ((hf.2 _ (by omega) (blk_lt C0.out)).trans C0.out); have F1 := Lib.hid (F0.out.trans hf); have B1 := Lib.hid hb; have xx : w1.cell? ⟨w.heap.size, 4, none⟩ = some (.int .i64 0) := (blk_cell C1.out 4).trans rfl; have zz : w1.frozen? ⟨w.heap.size, 4, none⟩ = false := blk_frozen C1.out 4; clear hb hf)
    have C1 := Lib.hid (show (w1.setCell ⟨w.heap.size, 4, none⟩ (.int .i64 W)).heap[w.heap.size]? = some (.cells #[.int .i64 d, .int .i64 0, .int .i64 0, .int .i64 0, .int .i64 W, .int .i64 0, .int .i64 0] 45 (0, 0)) from blk_put C1.out 4 _ rfl)
    have F1 := Lib.hid (F1.out.far (p := ⟨w.heap.size, 4, none⟩) (Nat.le_refl _) (Nat.le_of_lt hbw) (.int .i64 W))
    have B1 := Lib.hid (show RdBlk b s a1 (.slice Asl L.length csl) (w1.setCell ⟨w.heap.size, 4, none⟩ (.int .i64 W)) from blk_far B1.out (p := ⟨w.heap.size, 4, none⟩) (by show b ≠ w.heap.size; omega) _)
    clear xx zz P1
    try go_wp2_with fail
    generalize w1.setCell ⟨w.heap.size, 4, none⟩ (.int .i64 W) = v1 at C1 F1 B1 ⊢
    have P2 := must_calls b s a1 (.slice Asl L.length csl) 120 120 rfl v1 B1.out hs
    cases h2 : rdMust s a1 120 with
    | none =>
      rw [h2] at P2 hF
      obtain rfl := Option.some.inj hF
      have P2 := Lib.hid P2
      go_wp2_with (go_at_call 65; refine (P2.out).mono ?_; rintro e w' ⟨rfl, hb⟩)
      exact ⟨rfl, rfl, F1.out.1.trans hb⟩
    | some a2 =>
      rw [h2] at P2 hF
      simp only at hF
      have l2 := must_le h2
      have P2 := Lib.hid P2
      clear h2
      go_wp2_with (go_at_call 65; refine (P2.out).mono ?_; rintro e v2 ⟨rfl, hb, hf⟩; have C2 := Lib.hid ((hf.2 _ (by omega) (blk_lt C1.out)).trans C1.out); have F2 := Lib.hid (F1.out.trans hf); have B2 := Lib.hid hb; clear hb hf)
      clear P2
      have P3 := rdnumber_calls b s a2 (.slice Asl L.length csl) v2 B2.out hs l2.2 (fun W hW => HG.out W (F2.out.1.trans hW))
      cases h3 : rdNumber s a2 with
      | none =>
        rw [h3] at P3 hF
        obtain rfl := Option.some.inj hF
        have P3 := Lib.hid P3
        go_wp2_with (go_at_call 64; refine (P3.out).mono ?_; rintro e w' ⟨rfl, hb⟩)
        exact ⟨rfl, rfl, F2.out.1.trans hb⟩
      | some r3 =>
        obtain ⟨H, a3⟩ := r3
        rw [h3] at P3 hF
        simp only at hF
        have l3 := number_le l2.2 h3
        have P3 := Lib.hid P3
        clear h3
        go_wp2_with (go_at_call 64; refine (P3.out).mono ?_; rintro e w3 ⟨rfl, hb, hf⟩; have C3 := Lib.hid ((hf.2 _ (by omega) (blk_lt C2.out)).trans C2.out); have F3 := Lib.hid (F2.out.trans hf); have B3 := Lib.hid hb; have xx : w3.cell? ⟨w.heap.size, 5, none⟩ = some (.int .i64 0) := (blk_cell C3.out 5).trans rfl; have zz : w3.frozen? ⟨w.heap.size, 5, none⟩ = false := blk_frozen C3.out 5; clear hb hf)
        have C3 := Lib.hid (show (w3.setCell ⟨w.heap.size, 5, none⟩ (.int .i64 H)).heap[w.heap.size]? = some (.cells #[.int .i64 d, .int .i64 0, .int .i64 0, .int .i64 0, .int .i64 W, .int .i64 H, .int .i64 0] 45 (0, 0)) from blk_put C3.out 5 _ rfl)
        have F3 := Lib.hid (F3.out.far (p := ⟨w.heap.size, 5, none⟩) (Nat.le_refl _) (Nat.le_of_lt hbw) (.int .i64 H))
        have B3 := Lib.hid (show RdBlk b s a3 (.slice Asl L.length csl) (w3.setCell ⟨w.heap.size, 5, none⟩ (.int .i64 H)) from blk_far B3.out (p := ⟨w.heap.size, 5, none⟩) (by show b ≠ w.heap.size; omega) _)
        clear xx zz P3
        try go_wp2_with fail
        generalize w3.setCell ⟨w.heap.size, 5, none⟩ (.int .i64 H) = v3 at C3 F3 B3 ⊢
        have P4 := must_calls b s a3 (.slice Asl L.length csl) 44 44 rfl v3 B3.out hs
        cases h4 : rdMust s a3 44 with
        | none =>
          rw [h4] at P4 hF
          obtain rfl := Option.some.inj hF
          have P4 := Lib.hid P4
          go_wp2_with (go_at_call 65; refine (P4.out).mono ?_; rintro e w' ⟨rfl, hb⟩)
          exact ⟨rfl, rfl, F3.out.1.trans hb⟩
        | some a4 =>
          rw [h4] at P4 hF
          simp only at hF
          have l4 := must_le h4
          have P4 := Lib.hid P4
          clear h4
          go_wp2_with (go_at_call 65; refine (P4.out).mono ?_; rintro e v4 ⟨rfl, hb, hf⟩; have C4 := Lib.hid ((hf.2 _ (by omega) (blk_lt C3.out)).trans C3.out); have F4 := Lib.hid (F3.out.trans hf); have B4 := Lib.hid hb; clear hb hf)
          clear P4
          have P5 := rdnumber_calls b s a4 (.slice Asl L.length csl) v4 B4.out hs l4.2 (fun W hW => HG.out W (F4.out.1.trans hW))
          cases h5 : rdNumber s a4 with
          | none =>
            rw [h5] at P5 hF
            obtain rfl := Option.some.inj hF
            have P5 := Lib.hid P5
            go_wp2_with (go_at_call 64; refine (P5.out).mono ?_; rintro e w' ⟨rfl, hb⟩)
            exact ⟨rfl, rfl, F4.out.1.trans hb⟩
          | some r5 =>
            obtain ⟨X, a5⟩ := r5
            rw [h5] at P5 hF
            simp only at hF
            have l5 := number_le l4.2 h5
            have P5 := Lib.hid P5
            clear h5
            go_wp2_with (go_at_call 64; refine (P5.out).mono ?_; rintro e w5 ⟨rfl, hb, hf⟩; have C5 := Lib.hid ((hf.2 _ (by omega) (blk_lt C4.out)).trans C4.out); have F5 := Lib.hid (F4.out.trans hf); have B5 := Lib.hid hb; have xx : w5.cell? ⟨w.heap.size, 2, none⟩ = some (.int .i64 0) := (blk_cell C5.out 2).trans rfl; have zz : w5.frozen? ⟨w.heap.size, 2, none⟩ = false := blk_frozen C5.out 2; clear hb hf)
            have C5 := Lib.hid (show (w5.setCell ⟨w.heap.size, 2, none⟩ (.int .i64 X)).heap[w.heap.size]? = some (.cells #[.int .i64 d, .int .i64 0, .int .i64 X, .int .i64 0, .int .i64 W, .int .i64 H, .int .i64 0] 45 (0, 0)) from blk_put C5.out 2 _ rfl)
            have F5 := Lib.hid (F5.out.far (p := ⟨w.heap.size, 2, none⟩) (Nat.le_refl _) (Nat.le_of_lt hbw) (.int .i64 X))
            have B5 := Lib.hid (show RdBlk b s a5 (.slice Asl L.length csl) (w5.setCell ⟨w.heap.size, 2, none⟩ (.int .i64 X)) from blk_far B5.out (p := ⟨w.heap.size, 2, none⟩) (by show b ≠ w.heap.size; omega) _)
            clear xx zz P5
            try go_wp2_with fail
            generalize w5.setCell ⟨w.heap.size, 2, none⟩ (.int .i64 X) = v5 at C5 F5 B5 ⊢
            have P6 := must_calls b s a5 (.slice Asl L.length csl) 44 44 rfl v5 B5.out hs
            cases h6 : rdMust s a5 44 with
            | none =>
              rw [h6] at P6 hF
              obtain rfl := Option.some.inj hF
              have P6 := Lib.hid P6
              go_wp2_with (go_at_call 65; refine (P6.out).mono ?_; rintro e w' ⟨rfl, hb⟩)
              exact ⟨rfl, rfl, F5.out.1.trans hb⟩
            | some a6 =>
              rw [h6] at P6 hF
              simp only at hF
              have l6 := must_le h6
              have P6 := Lib.hid P6
              clear h6
              go_wp2_with (go_at_call 65; refine (P6.out).mono ?_; rintro e v6 ⟨rfl, hb, hf⟩; have C6 := Lib.hid ((hf.2 _ (by omega) (blk_lt C5.out)).trans C5.out); have F6 := Lib.hid (F5.out.trans hf); have B6 := Lib.hid hb; clear hb hf)
              clear P6
              have P7 := rdnumber_calls b s a6 (.slice Asl L.length csl) v6 B6.out hs l6.2 (fun W hW => HG.out W (F6.out.1.trans hW))
              cases h7 : rdNumber s a6 with
              | none =>
                rw [h7] at P7 hF
                obtain rfl := Option.some.inj hF
                have P7 := Lib.hid P7
                go_wp2_with (go_at_call 64; refine (P7.out).mono ?_; rintro e w' ⟨rfl, hb⟩)
                exact ⟨rfl, rfl, F6.out.1.trans hb⟩
              | some r7 =>
                obtain ⟨Y, a7⟩ := r7
                rw [h7] at P7 hF
                simp only at hF
                have l7 := number_le l6.2 h7
                have P7 := Lib.hid P7
                clear h7
                go_wp2_with (go_at_call 64; refine (P7.out).mono ?_; rintro e w7 ⟨rfl, hb, hf⟩; have C7 := Lib.hid ((hf.2 _ (by omega) (blk_lt C6.out)).trans C6.out); have F7 := Lib.hid (F6.out.trans hf); have B7 := Lib.hid hb; have xx : w7.cell? ⟨w.heap.size, 3, none⟩ = some (.int .i64 0) := (blk_cell C7.out 3).trans rfl; have zz : w7.frozen? ⟨w.heap.size, 3, none⟩ = false := blk_frozen C7.out 3; have yy : (w7.setCell ⟨w.heap.size, 3, none⟩ (.int .i64 Y)).cell? ⟨b, 2, none⟩ = some (.slice Asl L.length csl) := (blk_cell (blk_far B7.out (p := ⟨w.heap.size, 3, none⟩) (by show b ≠ w.heap.size; omega) _) 2).trans rfl; clear hb hf)
                have C7 := Lib.hid (show (w7.setCell ⟨w.heap.size, 3, none⟩ (.int .i64 Y)).heap[w.heap.size]? = some (.cells #[.int .i64 d, .int .i64 0, .int .i64 X, .int .i64 Y, .int .i64 W, .int .i64 H, .int .i64 0] 45 (0, 0)) from blk_put C7.out 3 _ rfl)
                have F7 := Lib.hid (F7.out.far (p := ⟨w.heap.size, 3, none⟩) (Nat.le_refl _) (Nat.le_of_lt hbw) (.int .i64 Y))
                have B7 := Lib.hid (show RdBlk b s a7 (.slice Asl L.length csl) (w7.setCell ⟨w.heap.size, 3, none⟩ (.int .i64 Y)) from blk_far B7.out (p := ⟨w.heap.size, 3, none⟩) (by show b ≠ w.heap.size; omega) _)
                clear xx zz P7 yy
                try go_wp2_with fail
                generalize w7.setCell ⟨w.heap.size, 3, none⟩ (.int .i64 Y) = v7 at C7 F7 B7 ⊢
                have hO0 : v7.cell? ⟨b, 2, none⟩ = some (.slice Asl L.length csl) := (blk_cell B7.out 2).trans rfl
                have hOa : ∀ o : Obj, (v7.alloc o).cell? ⟨b, 2, none⟩ = some (.slice Asl L.length csl) := fun o => cell_alloc hO0 o
                have hc0 : v7.cell? ⟨w.heap.size, 0, none⟩ = some (.int .i64 d) := (blk_cell C7.out 0).trans rfl
                have hc1 : v7.cell? ⟨w.heap.size, 1, none⟩ = some (.int .i64 0) := (blk_cell C7.out 1).trans rfl
                have hc2 : v7.cell? ⟨w.heap.size, 2, none⟩ = some (.int .i64 X) := (blk_cell C7.out 2).trans rfl
                have hc3 : v7.cell? ⟨w.heap.size, 3, none⟩ = some (.int .i64 Y) := (blk_cell C7.out 3).trans rfl
                have hc4 : v7.cell? ⟨w.heap.size, 4, none⟩ = some (.int .i64 W) := (blk_cell C7.out 4).trans rfl
                have hc5 : v7.cell? ⟨w.heap.size, 5, none⟩ = some (.int .i64 H) := (blk_cell C7.out 5).trans rfl
                have hc6 : v7.cell? ⟨w.heap.size, 6, none⟩ = some (.int .i64 0) := (blk_cell C7.out 6).trans rfl
                have R7 := Lib.hid (Kd.R_mono (ok' := fun _ => True) (Kd.R_move (w1 := v7) (Kd.R_bound HR.out) (fun k hk => F7.out.2 k (by have := hk.2.1; omega) hk.2.2.1)) (fun _ _ => trivial))
                have L7 : Hid (b < v7.heap.size) := Lib.hid (blk_lt B7.out)
                have hLs : L.length ≤ 1000000 := by omega
                clear C0 F0 B0 C1 F1 B1 C2 F2 B2 C3 F3 B3 C4 F4 B4 C5 F5 B5 C6 F6 B6
                go_cut [5, 40] (fun av sv wx => av = .int .i64 L.length ∧ Aside0 (RdBlk b s a7 sv wx) ∧ Aside0 (Kd.R k45 45 wx (b + 1) (fun _ => True) sv (L ++ [⟨d, 0, X, Y, W, H, 0⟩])) ∧ Aside0 (Below b w wx))
                case first =>
                  go_region_law (refine Kd.R_append_step k45 (w0 := v7.drew) (W := v7.drew) (b + 1) (by kernel_rfl) (.tmp 37) (.tmp 39) 22 45 _ 56 rfl Tryd.underlying22 info45 rfl (by decide) (by decide) (.slice Asl L.length csl) L ⟨d, 0, X, Y, W, H, 0⟩ _ (fun _ => True) (fun _ => False) rfl rfl (k45_mkM _ _ _ _) (fun _ h => h.elim) (fun _ _ => trivial) (Kd.R_move (w1 := v7.drew) R7.out (fun _ _ => rfl)) (Below.refl _ _) (by have := L7.out; show b + 1 ≤ v7.heap.size; omega) (by omega) ?_; intro u1 w5 r5 hb5 hg5 hat5; obtain ⟨Av, cv, rfl⟩ := Kd.R_slice r5; have O5 := Lib.hid ((hg5.block b L7.out (fun e => by obtain ⟨inner, hown⟩ := Kd.R_own R7.out; exact absurd (own_base hown b e.symm) (by omega))).trans B7.out); have hO5 : w5.cell? ⟨b, 2, none⟩ = some (.slice Asl L.length csl) := (blk_cell O5.out 2).trans rfl; have hf5 : w5.frozen? ⟨b, 2, none⟩ = false := blk_frozen O5.out 2; have R5 := Lib.hid r5; have B5 := Lib.hid hb5; clear r5 hb5 hg5 hat5)
                  all_goals
                    go_wp2_with fail
                    go_meet
                    refine ⟨rfl, ⟨blk_put O5.out 2 _ rfl⟩, ⟨?_⟩, ⟨?_⟩⟩
                    · have h5 := R5.out
                      rw [List.length_append, List.length_singleton] at h5
                      exact Kd.R_mono (Kd.R_far (p := ⟨b, 2, none⟩) (Kd.R_mono (Kd.R_bound h5) (fun k hk => (show True ∧ k ≠ b from ⟨trivial, by have := hk.2.1; omega⟩))) (fun k hk => hk.2) _) (fun _ _ => trivial)
                    · exact ((F7.out.1.trans ((Below.refl b v7).drew)).trans (B5.out.mono (by omega))).setCell (p := ⟨b, 2, none⟩) (Nat.le_refl _) _
                case rest =>
                  clear hO0 hOa hc0 hc1 hc2 hc3 hc4 hc5 hc6 R7 L7 C7 B7 F7
                  obtain ⟨rfl, RDB, RRR, RBB⟩ := hcut
                  obtain ⟨g, cap, rfl, hbg, hgl, hfz, hce⟩ := row_last RRR.out
                  have HCE := Lib.hid hce
                  have HFZ := Lib.hid hfz
                  clear hce hfz
                  have P8 := next_calls b s a7 (.slice (some ⟨g, 0, none⟩) (L.length + 1) cap) wc RDB.out hs
                  cases h8 : rdNext s a7 with
                  | none =>
                    rw [h8] at P8 hF
                    obtain rfl := Option.some.inj hF
                    have P8 := Lib.hid P8
                    go_wp2_with (go_at_call 66; refine (P8.out).mono ?_; rintro e w' ⟨rfl, hb⟩)
                    exact ⟨rfl, rfl, RBB.out.trans hb⟩
                  | some r8 =>
                    obtain ⟨c, a8⟩ := r8
                    rw [h8] at P8 hF
                    simp only at hF
                    have l8 := next_le h8
                    have P8 := Lib.hid P8
                    clear h8
                    obtain ⟨ci, hci⟩ : ∃ ci : Int, ci = (c.toNat : Int) := ⟨_, rfl⟩
                    have Q8 : Calls Tryd.prog 66 #[.pointer (some ⟨b, 0, none⟩)] wc fun e w' => e = .returned (.int .u8 ci) ∧ RdBlk b s a8 (.slice (some ⟨g, 0, none⟩) (L.length + 1) cap) w' ∧ Fr b wc w' := by rw [hci]; exact P8.out
                    have Q8 := Lib.hid Q8
                    clear P8
                    have hb0 : (0 ≤ (L.length : Int)) = True := eq_true (by omega)
                    have hb1 : ((L.length : Int) < ((L.length + 1 : Nat) : Int)) = True := eq_true (by omega)
                    have hb2 : ((L.length : Int) < (L.length : Int) + 1) = True := eq_true (by omega)
                    have hgb : g ≠ b := by omega
                    have hbg2 : ¬ b = g := by omega
                    by_cases k44 : c = 44
                    · rw [if_pos k44] at hF
                      obtain rfl : ci = 44 := by rw [hci, k44]; rfl
                      clear hci
                      go_wp2_with (go_at_call 66; refine (Q8.out).mono ?_; rintro e w8 ⟨rfl, hb, hf⟩; have hg8 : w8.heap[g]? = wc.heap[g]? := hf.2 g hgb hgl; have R8 := Lib.hid (Kd.R_mono (ok' := fun _ => True) (Kd.R_move (w1 := w8) (Kd.R_bound RRR.out) (fun k hk => hf.2 k (by have := hk.2.1; omega) hk.2.2.1)) (fun _ _ => trivial)); have y1 : w8.cell? ⟨g, L.length * 7 + 1, none⟩ = some (.int .i64 0) := (show w8.cell? ⟨g, L.length * 7 + 1, none⟩ = wc.cell? ⟨g, L.length * 7 + 1, none⟩ by simp only [World.cell?, hg8]).trans (HCE.out 1 _ rfl); have f1 : w8.frozen? ⟨g, L.length * 7 + 1, none⟩ = false := (show w8.frozen? ⟨g, L.length * 7 + 1, none⟩ = wc.frozen? ⟨g, L.length * 7 + 1, none⟩ by simp only [World.frozen?, hg8]).trans (HFZ.out _); have y2 : w8.cell? ⟨b, 2, none⟩ = some (.slice (some ⟨g, 0, none⟩) (L.length + 1) cap) := (blk_cell hb 2).trans rfl; have B8 := Lib.hid hb; have D8 := Lib.hid (RBB.out.trans hf.1); have G8 := Lib.hid (show g < w8.heap.size from Nat.lt_of_lt_of_le hgl hf.1.size); clear hb hf hg8)
                      have R9 := Lib.hid (row_set R8.out (x' := ⟨d, 1, X, Y, W, H, 0⟩) (j := 1) (u := .int .i64 1) (by omega) rfl)
                      have B9 := Lib.hid (show RdBlk b s a8 (.slice (some ⟨g, 0, none⟩) (L.length + 1) cap) (w8.setCell ⟨g, L.length * 7 + 1, none⟩ (.int .i64 1)) from blk_far B8.out (p := ⟨g, L.length * 7 + 1, none⟩) hbg2 _)
                      have D9 := Lib.hid (D8.out.setCell (p := ⟨g, L.length * 7 + 1, none⟩) (by show b ≤ g; omega) (.int .i64 1))
                      have G9 := Lib.hid (show g < (w8.setCell ⟨g, L.length * 7 + 1, none⟩ (.int .i64 1)).heap.size by rw [World.size_setCell]; exact G8.out)
                      clear y1 f1 y2 R8 B8 D8 G8
                      try go_wp2_with fail
                      generalize w8.setCell ⟨g, L.length * 7 + 1, none⟩ (.int .i64 1) = w9 at R9 B9 D9 G9 ⊢
                      obtain ⟨g', cap', eg, _, _, hfz9, hce9⟩ := row_last R9.out
                      injection eg with eg1 eg2 eg3
                      injection eg1 with eg1
                      injection eg1 with eg1
                      subst eg1
                      have Y9 := Lib.hid (hce9 6 _ rfl)
                      have Z9 := Lib.hid (hfz9 (L.length * 7 + 6))
                      clear hfz9 hce9 eg3
                      have P9 := rdnumber_calls b s a8 (.slice (some ⟨g, 0, none⟩) (L.length + 1) cap) w9.drew B9.out hs l8.2 (fun W hW => HG.out W (D9.out.trans ((Below.refl b w9).drew.trans hW)))
                      have B9d := Lib.hid (show RdBlk b s a8 (.slice (some ⟨g, 0, none⟩) (L.length + 1) cap) w9.drew from B9.out)
                      have z2 : w9.drew.cell? ⟨b, 2, none⟩ = some (.slice (some ⟨g, 0, none⟩) (L.length + 1) cap) := (blk_cell B9d.out 2).trans rfl
                      cases h9 : rdNumber s a8 with
                      | none =>
                        rw [h9] at P9 hF
                        obtain rfl := Option.some.inj hF
                        have P9 := Lib.hid (P9.mono (fun e w' h => (show Brk b w9.drew e w' ∨ (e = .returned (.int .i64 0) ∧ Hid False) from .inl h)))
                        go_region_held (fun w' => w'.cell? ⟨b, 2, none⟩ = some (.slice (some ⟨g, 0, none⟩) (L.length + 1) cap))
                          (first | exact z2 | exact zf.out.elim)
                          (first
                            | (go_at_call 64
                               with_reducible refine (P9.out).mono ?_
                               rintro e wn (⟨rfl, hb⟩ | ⟨rfl, zf⟩)
                               focus exact ⟨rfl, rfl, (D9.out.trans (Below.refl b w9).drew).trans hb⟩
                               have y6 : wn.cell? ⟨g, L.length * 7 + 6, none⟩ = some (.int .i64 0) := zf.out.elim
                               have f6 : wn.frozen? ⟨g, L.length * 7 + 6, none⟩ = false := zf.out.elim
                               have z2 : wn.cell? ⟨b, 2, none⟩ = some (.slice (some ⟨g, 0, none⟩) (L.length + 1) cap) := zf.out.elim))
                        all_goals exact zf.out.elim
                      | some r9 =>
                        obtain ⟨q, a9⟩ := r9
                        rw [h9] at P9 hF
                        simp only at hF
                        obtain rfl := Option.some.inj hF
                        have P9 := Lib.hid P9
                        clear h9 hF
                        go_region_held3 (fun w' => w'.cell? ⟨b, 2, none⟩ = some (.slice (some ⟨g, 0, none⟩) (L.length + 1) cap))
                          (first | exact z2 | exact zS _)
                          (first
                            | (go_at_call 64
                               with_reducible refine (P9.out).mono ?_
                               rintro e wn ⟨rfl, hb, hf⟩
                               have hgn : wn.heap[g]? = w9.heap[g]? := hf.2 g hgb G9.out
                               have Rn := Lib.hid (Kd.R_mono (ok' := fun _ => True) (Kd.R_move (w1 := wn) (Kd.R_bound R9.out) (fun k hk => hf.2 k (by have := hk.2.1; omega) hk.2.2.1)) (fun _ _ => trivial))
                               have y6 : wn.cell? ⟨g, L.length * 7 + 6, none⟩ = some (.int .i64 0) := by rw [show wn.cell? ⟨g, L.length * 7 + 6, none⟩ = w9.cell? ⟨g, L.length * 7 + 6, none⟩ by simp only [World.cell?, hgn]]; exact Y9.out
                               have f6 : wn.frozen? ⟨g, L.length * 7 + 6, none⟩ = false := by rw [show wn.frozen? ⟨g, L.length * 7 + 6, none⟩ = w9.frozen? ⟨g, L.length * 7 + 6, none⟩ by simp only [World.frozen?, hgn]]; exact Z9.out
                               have z2 : wn.cell? ⟨b, 2, none⟩ = some (.slice (some ⟨g, 0, none⟩) (L.length + 1) cap) := (blk_cell hb 2).trans rfl
                               have zS : ∀ u, (wn.setCell ⟨g, L.length * 7 + 6, none⟩ u).cell? ⟨b, 2, none⟩ = some (.slice (some ⟨g, 0, none⟩) (L.length + 1) cap) := fun u => (cell_far (p := ⟨g, L.length * 7 + 6, none⟩) (a := ⟨b, 2, none⟩) hbg2 u).trans z2
                               have Bn := Lib.hid hb
                               have Dn := Lib.hid ((D9.out.trans (Below.refl b w9).drew).trans hf.1)
                               clear hb hf hgn))
                        all_goals
                          go_wp2
                          refine bodyPost_ret (results_none rfl _ _ _) rfl ?_
                          exact ⟨rfl, _, blk_far Bn.out (p := ⟨g, L.length * 7 + 6, none⟩) hbg2 _, row_set Rn.out (x' := ⟨d, 1, X, Y, W, H, q⟩) (by omega) rfl, Dn.out.setCell (p := ⟨g, L.length * 7 + 6, none⟩) (by show b ≤ g; omega) _⟩
                    · rw [if_neg k44] at hF
                      have e44 : (ci == 44) = false := beq_eq_false_iff_ne.mpr (by rw [hci]; exact u8_ne k44 rfl)
                      by_cases k123 : c = 123
                      · rw [if_pos k123] at hF
                        obtain rfl : ci = 123 := by rw [hci, k123]; rfl
                        clear hci e44
                        go_wp2_with (go_at_call 66; refine (Q8.out).mono ?_; rintro e w8 ⟨rfl, hb, hf⟩; have hg8 : w8.heap[g]? = wc.heap[g]? := hf.2 g hgb hgl; have R8 := Lib.hid (Kd.R_mono (ok' := fun _ => True) (Kd.R_move (w1 := w8) (Kd.R_bound RRR.out) (fun k hk => hf.2 k (by have := hk.2.1; omega) hk.2.2.1)) (fun _ _ => trivial)); have y1 : w8.cell? ⟨g, L.length * 7 + 1, none⟩ = some (.int .i64 0) := (show w8.cell? ⟨g, L.length * 7 + 1, none⟩ = wc.cell? ⟨g, L.length * 7 + 1, none⟩ by simp only [World.cell?, hg8]).trans (HCE.out 1 _ rfl); have f1 : w8.frozen? ⟨g, L.length * 7 + 1, none⟩ = false := (show w8.frozen? ⟨g, L.length * 7 + 1, none⟩ = wc.frozen? ⟨g, L.length * 7 + 1, none⟩ by simp only [World.frozen?, hg8]).trans (HFZ.out _); have y2 : w8.cell? ⟨b, 2, none⟩ = some (.slice (some ⟨g, 0, none⟩) (L.length + 1) cap) := (blk_cell hb 2).trans rfl; have B8 := Lib.hid hb; have D8 := Lib.hid (RBB.out.trans hf.1); have G8 := Lib.hid (show g < w8.heap.size from Nat.lt_of_lt_of_le hgl hf.1.size); clear hb hf hg8)
                        have R9 := Lib.hid (row_set R8.out (x' := ⟨d, 2, X, Y, W, H, 0⟩) (j := 1) (u := .int .i64 2) (by omega) rfl)
                        have B9 := Lib.hid (show RdBlk b s a8 (.slice (some ⟨g, 0, none⟩) (L.length + 1) cap) (w8.setCell ⟨g, L.length * 7 + 1, none⟩ (.int .i64 2)) from blk_far B8.out (p := ⟨g, L.length * 7 + 1, none⟩) hbg2 _)
                        have D9 := Lib.hid (D8.out.setCell (p := ⟨g, L.length * 7 + 1, none⟩) (by show b ≤ g; omega) (.int .i64 2))
                        have G9 := Lib.hid (show g < (w8.setCell ⟨g, L.length * 7 + 1, none⟩ (.int .i64 2)).heap.size by rw [World.size_setCell]; exact G8.out)
                        clear y1 f1 y2 R8 B8 D8 G8
                        try go_wp2_with fail
                        generalize w8.setCell ⟨g, L.length * 7 + 1, none⟩ (.int .i64 2) = w9 at R9 B9 D9 G9 ⊢
                        obtain ⟨g', cap', eg, _, _, hfz9, hce9⟩ := row_last R9.out
                        injection eg with eg1 eg2 eg3
                        injection eg1 with eg1
                        injection eg1 with eg1
                        subst eg1
                        have Y9 := Lib.hid (hce9 6 _ rfl)
                        have Z9 := Lib.hid (hfz9 (L.length * 7 + 6))
                        clear hfz9 hce9 eg3
                        go_loopg [] k (fun kq wr => ∃ (a' : Nat) (L' : List S45) (sl' : Value), Aside0 (loopR kq s a' L' d 125 = some r) ∧ Aside0 (kq ≤ k) ∧ Aside0 (RdBlk b s a' sl' wr) ∧ Aside0 (Kd.R k45 45 wr (b + 1) (fun _ => True) sl' L') ∧ Aside0 (a' ≤ s.size ∧ L'.length ≤ a') ∧ Aside0 (Below b w wr))
                        case atStart => exact ⟨a8, _, _, ⟨hF⟩, ⟨Nat.le_refl _⟩, ⟨B9.out⟩, ⟨R9.out⟩, ⟨l8.2, by simp; omega⟩, ⟨D9.out⟩⟩
                        case round =>
                          obtain ⟨a', L', sl', RF, RK, RW, RR, RA, RB⟩ := hrel
                          cases gk with
                          | zero => exact absurd RF.out (by simp [loopR])
                          | succ gk =>
                            have hRF := RF.out
                            rw [loopR] at hRF
                            obtain ⟨r1, hr1, hRF⟩ := Option.bind_eq_some_iff.1 hRF
                            have IH := ih gk (by have := RK.out; omega) b s a' sl' L' (wrap64 (d + 1)) r1 wr RW.out RR.out hs RA.out.1 RA.out.2 (fun W hW => HG.out W (RB.out.trans hW)) hr1
                            have LB := Lib.hid (fun L1 b1 (e : r1 = some (L1, b1)) => (rd_le gk).1 s a' L' (wrap64 (d + 1)) L1 b1 (by rw [hr1, e]) RA.out.1 RA.out.2)
                            clear hr1 RF
                            cases r1 with
                            | none =>
                              obtain rfl := Option.some.inj hRF
                              have IH := Lib.hid IH
                              go_wp2_with (go_at_call 44; refine (IH.out).mono ?_; rintro e w' ⟨rfl, hb⟩)
                              exact ⟨rfl, rfl, RB.out.trans hb⟩
                            | some q1 =>
                              obtain ⟨L1, b1⟩ := q1
                              simp only at hRF
                              have IH := Lib.hid IH
                              go_wp2_with (go_at_call 44; refine (IH.out).mono ?_; rintro e wa ⟨rfl, sla, hba, hra, hda⟩; have BA := Lib.hid hba; have RA1 := Lib.hid hra; have DA := Lib.hid (RB.out.trans hda); clear hba hra hda)
                              have P2 := next_calls b s b1 sla wa BA.out hs
                              have lb : b1 ≤ s.size ∧ L1.length ≤ b1 := LB.out _ _ rfl
                              cases h2 : rdNext s b1 with
                              | none =>
                                rw [h2] at P2 hRF
                                obtain rfl := Option.some.inj hRF
                                have P2 := Lib.hid P2
                                go_wp2_with (go_at_call 66; refine (P2.out).mono ?_; rintro e w' ⟨rfl, hb⟩)
                                exact ⟨rfl, rfl, DA.out.trans hb⟩
                              | some q2 =>
                                obtain ⟨c2, b2⟩ := q2
                                rw [h2] at P2 hRF
                                simp only at hRF
                                have l2 := next_le h2
                                obtain ⟨cj, hcj⟩ : ∃ cj : Int, cj = (c2.toNat : Int) := ⟨_, rfl⟩
                                have Q2 : Calls Tryd.prog 66 #[.pointer (some ⟨b, 0, none⟩)] wa fun e w' => e = .returned (.int .u8 cj) ∧ RdBlk b s b2 sla w' ∧ Fr b wa w' := by rw [hcj]; exact P2
                                have Q2 := Lib.hid Q2
                                clear P2 h2 IH
                                by_cases ks : c2 = 125
                                · rw [if_pos ks] at hRF
                                  obtain rfl := Option.some.inj hRF
                                  obtain rfl : cj = 125 := by rw [hcj, ks]; rfl
                                  clear hcj
                                  go_wp2_with (go_at_call 66; refine (Q2.out).mono ?_; rintro e wb ⟨rfl, hb, hf⟩; have BB := Lib.hid hb; have RB2 := Lib.hid (Kd.R_mono (ok' := fun _ => True) (Kd.R_move (w1 := wb) (Kd.R_bound RA1.out) (fun k hk => hf.2 k (by have := hk.2.1; omega) hk.2.2.1)) (fun _ _ => trivial)); have DB := Lib.hid (DA.out.trans hf.1); clear hb hf)
                                  refine bodyPost_ret (results_none rfl _ _ _) rfl ?_
                                  exact ⟨rfl, _, BB.out, RB2.out, DB.out⟩
                                · rw [if_neg ks] at hRF
                                  have es : (cj == 125) = false := beq_eq_false_iff_ne.mpr (by rw [hcj]; exact u8_ne ks rfl)
                                  by_cases k4 : c2 = 44
                                  · rw [if_pos k4] at hRF
                                    obtain rfl : cj = 44 := by rw [hcj, k4]; rfl
                                    have HRF := Lib.hid hRF
                                    clear hcj hRF ks
                                    go_wp2_with (go_at_call 66; refine (Q2.out).mono ?_; rintro e wb ⟨rfl, hb, hf⟩; have BB := Lib.hid hb; have RB2 := Lib.hid (Kd.R_mono (ok' := fun _ => True) (Kd.R_move (w1 := wb) (Kd.R_bound RA1.out) (fun k hk => hf.2 k (by have := hk.2.1; omega) hk.2.2.1)) (fun _ _ => trivial)); have DB := Lib.hid (DA.out.trans hf.1); clear hb hf)
                                    go_roundg gk
                                    case measure => omega
                                    case rel => exact ⟨b2, L1, sla, ⟨HRF.out⟩, ⟨by have := RK.out; omega⟩, ⟨BB.out⟩, ⟨RB2.out⟩, ⟨l2.2, by omega⟩, ⟨DB.out⟩⟩
                                  · rw [if_neg k4] at hRF
                                    obtain rfl := Option.some.inj hRF
                                    have e4 : (cj == 44) = false := beq_eq_false_iff_ne.mpr (by rw [hcj]; exact u8_ne k4 rfl)
                                    have e5 : (cj != 44) = true := bne_iff_ne.mpr (by rw [hcj]; exact u8_ne k4 rfl)
                                    clear hcj ks k4
                                    go_wp2_with (first | (go_at_call 66; refine (Q2.out).mono ?_; rintro e wb ⟨rfl, hb, hf⟩) | (go_at_call 45; refine (give_calls _ _).mono ?_; rintro e w'' ⟨rfl, hw⟩; rw [hw]; clear hw w''))
                                    exact ⟨rfl, rfl, DA.out.trans hf.1⟩
                      · rw [if_neg k123] at hF
                        have e123 : (ci == 123) = false := beq_eq_false_iff_ne.mpr (by rw [hci]; exact u8_ne k123 rfl)
                        by_cases k91 : c = 91
                        · rw [if_pos k91] at hF
                          obtain rfl : ci = 91 := by rw [hci, k91]; rfl
                          clear hci e44 e123
                          go_wp2_with (go_at_call 66; refine (Q8.out).mono ?_; rintro e w8 ⟨rfl, hb, hf⟩; have hg8 : w8.heap[g]? = wc.heap[g]? := hf.2 g hgb hgl; have R8 := Lib.hid (Kd.R_mono (ok' := fun _ => True) (Kd.R_move (w1 := w8) (Kd.R_bound RRR.out) (fun k hk => hf.2 k (by have := hk.2.1; omega) hk.2.2.1)) (fun _ _ => trivial)); have y1 : w8.cell? ⟨g, L.length * 7 + 1, none⟩ = some (.int .i64 0) := (show w8.cell? ⟨g, L.length * 7 + 1, none⟩ = wc.cell? ⟨g, L.length * 7 + 1, none⟩ by simp only [World.cell?, hg8]).trans (HCE.out 1 _ rfl); have f1 : w8.frozen? ⟨g, L.length * 7 + 1, none⟩ = false := (show w8.frozen? ⟨g, L.length * 7 + 1, none⟩ = wc.frozen? ⟨g, L.length * 7 + 1, none⟩ by simp only [World.frozen?, hg8]).trans (HFZ.out _); have y2 : w8.cell? ⟨b, 2, none⟩ = some (.slice (some ⟨g, 0, none⟩) (L.length + 1) cap) := (blk_cell hb 2).trans rfl; have B8 := Lib.hid hb; have D8 := Lib.hid (RBB.out.trans hf.1); have G8 := Lib.hid (show g < w8.heap.size from Nat.lt_of_lt_of_le hgl hf.1.size); clear hb hf hg8)
                          have R9 := Lib.hid (row_set R8.out (x' := ⟨d, 3, X, Y, W, H, 0⟩) (j := 1) (u := .int .i64 3) (by omega) rfl)
                          have B9 := Lib.hid (show RdBlk b s a8 (.slice (some ⟨g, 0, none⟩) (L.length + 1) cap) (w8.setCell ⟨g, L.length * 7 + 1, none⟩ (.int .i64 3)) from blk_far B8.out (p := ⟨g, L.length * 7 + 1, none⟩) hbg2 _)
                          have D9 := Lib.hid (D8.out.setCell (p := ⟨g, L.length * 7 + 1, none⟩) (by show b ≤ g; omega) (.int .i64 3))
                          have G9 := Lib.hid (show g < (w8.setCell ⟨g, L.length * 7 + 1, none⟩ (.int .i64 3)).heap.size by rw [World.size_setCell]; exact G8.out)
                          clear y1 f1 y2 R8 B8 D8 G8
                          try go_wp2_with fail
                          generalize w8.setCell ⟨g, L.length * 7 + 1, none⟩ (.int .i64 3) = w9 at R9 B9 D9 G9 ⊢
                          obtain ⟨g', cap', eg, _, _, hfz9, hce9⟩ := row_last R9.out
                          injection eg with eg1 eg2 eg3
                          injection eg1 with eg1
                          injection eg1 with eg1
                          subst eg1
                          have Y9 := Lib.hid (hce9 6 _ rfl)
                          have Z9 := Lib.hid (hfz9 (L.length * 7 + 6))
                          clear hfz9 hce9 eg3
                          go_loopg [] k (fun kq wr => ∃ (a' : Nat) (L' : List S45) (sl' : Value), Aside0 (loopR kq s a' L' d 93 = some r) ∧ Aside0 (kq ≤ k) ∧ Aside0 (RdBlk b s a' sl' wr) ∧ Aside0 (Kd.R k45 45 wr (b + 1) (fun _ => True) sl' L') ∧ Aside0 (a' ≤ s.size ∧ L'.length ≤ a') ∧ Aside0 (Below b w wr))
                          case atStart => exact ⟨a8, _, _, ⟨hF⟩, ⟨Nat.le_refl _⟩, ⟨B9.out⟩, ⟨R9.out⟩, ⟨l8.2, by simp; omega⟩, ⟨D9.out⟩⟩
                          case round =>
                            obtain ⟨a', L', sl', RF, RK, RW, RR, RA, RB⟩ := hrel
                            cases gk with
                            | zero => exact absurd RF.out (by simp [loopR])
                            | succ gk =>
                              have hRF := RF.out
                              rw [loopR] at hRF
                              obtain ⟨r1, hr1, hRF⟩ := Option.bind_eq_some_iff.1 hRF
                              have IH := ih gk (by have := RK.out; omega) b s a' sl' L' (wrap64 (d + 1)) r1 wr RW.out RR.out hs RA.out.1 RA.out.2 (fun W hW => HG.out W (RB.out.trans hW)) hr1
                              have LB := Lib.hid (fun L1 b1 (e : r1 = some (L1, b1)) => (rd_le gk).1 s a' L' (wrap64 (d + 1)) L1 b1 (by rw [hr1, e]) RA.out.1 RA.out.2)
                              clear hr1 RF
                              cases r1 with
                              | none =>
                                obtain rfl := Option.some.inj hRF
                                have IH := Lib.hid IH
                                go_wp2_with (go_at_call 44; refine (IH.out).mono ?_; rintro e w' ⟨rfl, hb⟩)
                                exact ⟨rfl, rfl, RB.out.trans hb⟩
                              | some q1 =>
                                obtain ⟨L1, b1⟩ := q1
                                simp only at hRF
                                have IH := Lib.hid IH
                                go_wp2_with (go_at_call 44; refine (IH.out).mono ?_; rintro e wa ⟨rfl, sla, hba, hra, hda⟩; have BA := Lib.hid hba; have RA1 := Lib.hid hra; have DA := Lib.hid (RB.out.trans hda); clear hba hra hda)
                                have P2 := next_calls b s b1 sla wa BA.out hs
                                have lb : b1 ≤ s.size ∧ L1.length ≤ b1 := LB.out _ _ rfl
                                cases h2 : rdNext s b1 with
                                | none =>
                                  rw [h2] at P2 hRF
                                  obtain rfl := Option.some.inj hRF
                                  have P2 := Lib.hid P2
                                  go_wp2_with (go_at_call 66; refine (P2.out).mono ?_; rintro e w' ⟨rfl, hb⟩)
                                  exact ⟨rfl, rfl, DA.out.trans hb⟩
                                | some q2 =>
                                  obtain ⟨c2, b2⟩ := q2
                                  rw [h2] at P2 hRF
                                  simp only at hRF
                                  have l2 := next_le h2
                                  obtain ⟨cj, hcj⟩ : ∃ cj : Int, cj = (c2.toNat : Int) := ⟨_, rfl⟩
                                  have Q2 : Calls Tryd.prog 66 #[.pointer (some ⟨b, 0, none⟩)] wa fun e w' => e = .returned (.int .u8 cj) ∧ RdBlk b s b2 sla w' ∧ Fr b wa w' := by rw [hcj]; exact P2
                                  have Q2 := Lib.hid Q2
                                  clear P2 h2 IH
                                  by_cases ks : c2 = 93
                                  · rw [if_pos ks] at hRF
                                    obtain rfl := Option.some.inj hRF
                                    obtain rfl : cj = 93 := by rw [hcj, ks]; rfl
                                    clear hcj
                                    go_wp2_with (go_at_call 66; refine (Q2.out).mono ?_; rintro e wb ⟨rfl, hb, hf⟩; have BB := Lib.hid hb; have RB2 := Lib.hid (Kd.R_mono (ok' := fun _ => True) (Kd.R_move (w1 := wb) (Kd.R_bound RA1.out) (fun k hk => hf.2 k (by have := hk.2.1; omega) hk.2.2.1)) (fun _ _ => trivial)); have DB := Lib.hid (DA.out.trans hf.1); clear hb hf)
                                    refine bodyPost_ret (results_none rfl _ _ _) rfl ?_
                                    exact ⟨rfl, _, BB.out, RB2.out, DB.out⟩
                                  · rw [if_neg ks] at hRF
                                    have es : (cj == 93) = false := beq_eq_false_iff_ne.mpr (by rw [hcj]; exact u8_ne ks rfl)
                                    by_cases k4 : c2 = 44
                                    · rw [if_pos k4] at hRF
                                      obtain rfl : cj = 44 := by rw [hcj, k4]; rfl
                                      have HRF := Lib.hid hRF
                                      clear hcj hRF ks
                                      go_wp2_with (go_at_call 66; refine (Q2.out).mono ?_; rintro e wb ⟨rfl, hb, hf⟩; have BB := Lib.hid hb; have RB2 := Lib.hid (Kd.R_mono (ok' := fun _ => True) (Kd.R_move (w1 := wb) (Kd.R_bound RA1.out) (fun k hk => hf.2 k (by have := hk.2.1; omega) hk.2.2.1)) (fun _ _ => trivial)); have DB := Lib.hid (DA.out.trans hf.1); clear hb hf)
                                      go_roundg gk
                                      case measure => omega
                                      case rel => exact ⟨b2, L1, sla, ⟨HRF.out⟩, ⟨by have := RK.out; omega⟩, ⟨BB.out⟩, ⟨RB2.out⟩, ⟨l2.2, by omega⟩, ⟨DB.out⟩⟩
                                    · rw [if_neg k4] at hRF
                                      obtain rfl := Option.some.inj hRF
                                      have e4 : (cj == 44) = false := beq_eq_false_iff_ne.mpr (by rw [hcj]; exact u8_ne k4 rfl)
                                      have e5 : (cj != 44) = true := bne_iff_ne.mpr (by rw [hcj]; exact u8_ne k4 rfl)
                                      clear hcj ks k4
                                      go_wp2_with (first | (go_at_call 66; refine (Q2.out).mono ?_; rintro e wb ⟨rfl, hb, hf⟩) | (go_at_call 45; refine (give_calls _ _).mono ?_; rintro e w'' ⟨rfl, hw⟩; rw [hw]; clear hw w''))
                                      exact ⟨rfl, rfl, DA.out.trans hf.1⟩
                        · rw [if_neg k91] at hF
                          have e91 : (ci == 91) = false := beq_eq_false_iff_ne.mpr (by rw [hci]; exact u8_ne k91 rfl)
                          obtain rfl := Option.some.inj hF
                          clear k44 k123 k91 hci
                          go_wp2_with (first | (go_at_call 66; refine (Q8.out).mono ?_; rintro e w8 ⟨rfl, hb, hf⟩) | (go_at_call 45; refine (give_calls _ _).mono ?_; rintro e w'' ⟨rfl, hw⟩; rw [hw]; clear hw w''))
                          exact ⟨rfl, rfl, RBB.out.trans hf.1⟩
end Go.Proofs.YtmpnkckaohfflaaDoor.PGiv
end
section
namespace Go.Proofs.YtmpnkckaohfflaaDoor.PGiv
open Go.RowKit Go.Proofs.YtmpnkckaohfflaaDoorW.PrintWords Go.Proofs.YtmpnkckaohfflaaDoorW.PrintLast Go.Proofs.YtmpnkckaohfflaaDoorW.PrintMore Go.Proofs.YtmpnkckaohfflaaDoor.K Go.Proofs.YtmpnkckaohfflaaDoor.Num
set_option linter.unusedVariables false
set_option linter.unusedSimpArgs false
theorem mine (w : World) : (Instr.typeAssert brokenV 20 88 true).run Tryd.prog w = .ok (.tuple #[.agg #[], .bool true]) w := by kernel_rfl
set_option maxHeartbeats 4000000 in
set_option maxRecDepth 100000 in
theorem catch_panicking (pl po : Nat) (x y : Value) (older : List PanicEntry) (w : World) (hl : w.heap[pl]? = some (.cells #[x] 22 (0, 0))) (ho : w.heap[po]? = some (.cells #[y] 4 (0, 0))) (hne : pl ≠ po) :
    CallsD Tryd.prog 43 #[.pointer (some ⟨pl, 0, none⟩), .pointer (some ⟨po, 0, none⟩)] (.panicking ({ v := brokenV, recovered := false } :: older)) w fun e u' w' =>
      e = .returned (.tuple #[]) ∧ u' = .panicking ({ v := brokenV, recovered := true } :: older) ∧ w' = ((w.setCell ⟨pl, 0, none⟩ (.slice none 0 0)).setCell ⟨po, 0, none⟩ (.bool false)).alloc (.cells #[] 88 (0, 0)) := by
  have hm := mine
  refine callsD_of_wpS Tryd.func43 rfl fun c₀ cs hu => ?_
  apply wpS_seq
  apply wpS_region
  simp [wpOpsS, go_sem, recoverD, hu, Tryd.ntmps43, Exit.thenS]
  refine wpS_of_wp ?_
  have hx : w.cell? ⟨pl, 0, none⟩ = some x := (blk_cell hl 0).trans rfl
  have hy : w.cell? ⟨po, 0, none⟩ = some y := (blk_cell ho 0).trans rfl
  have hfx : w.frozen? ⟨pl, 0, none⟩ = false := blk_frozen hl 0
  have hfy : w.frozen? ⟨po, 0, none⟩ = false := blk_frozen ho 0
  have hpl : pl < w.heap.size := blk_lt hl
  have hpo : po < w.heap.size := blk_lt ho
  have hne2 : ¬ po = pl := fun e => hne e.symm
  go_wp2
  exact ⟨rfl, _, rfl, _, results_none rfl _ _ _, rfl, rfl, rfl⟩
set_option maxHeartbeats 4000000 in
set_option maxRecDepth 100000 in
theorem catch_idle (pl po : Addr) (w : World) :
    CallsD Tryd.prog 43 #[.pointer (some pl), .pointer (some po)] .returning w fun e u' w' => e = .returned (.tuple #[]) ∧ u' = .returning ∧ w' = w := by
  refine callsD_of_wpS Tryd.func43 rfl fun c₀ cs hu => ?_
  apply wpS_seq
  apply wpS_region
  simp [wpOpsS, go_sem, recoverD, hu, Tryd.ntmps43, Exit.thenS]
  refine wpS_of_wp ?_
  go_wp2
  cases c₀
  simp_all [bodyPostS, results, Tryd.results43]
def bodyF (s : ByteArray) : Option (Option (List S45)) := (cellR 5000 s 0 [] 0).bind fun r => match r with
  | none => some none
  | some (L, a) => if a = s.size then some (some L) else some none
def BodyPost (w : World) (r : Option (List S45)) (e : Ending) (w' : World) : Prop :=
  match r with
  | none => e = .returned (.tuple #[.slice none 0 0, .bool false]) ∧ Below w.heap.size w w'
  | some L => ∃ v, e = .returned (.tuple #[v, .bool true]) ∧ Kd.R k45 45 w' w.heap.size (fun _ => True) v L ∧ Below w.heap.size w w'
theorem three_new2 (w : World) (a b c : Obj) : (((w.alloc a).alloc b).alloc c).heap[w.heap.size]? = some a ∧ (((w.alloc a).alloc b).alloc c).heap[w.heap.size + 1]? = some b ∧ (((w.alloc a).alloc b).alloc c).heap[w.heap.size + 2]? = some c ∧ (((w.alloc a).alloc b).alloc c).heap.size = w.heap.size + 3 ∧ Below w.heap.size w (((w.alloc a).alloc b).alloc c) := three_new w a b c
theorem door_facts (pl po : Nat) (x y : Value) (w : World) (hl : w.heap[pl]? = some (.cells #[x] 22 (0, 0))) (ho : w.heap[po]? = some (.cells #[y] 4 (0, 0))) (hne : pl ≠ po) :
    (((w.setCell ⟨pl, 0, none⟩ (.slice none 0 0)).setCell ⟨po, 0, none⟩ (.bool false)).alloc (.cells #[] 88 (0, 0))).cell? ⟨pl, 0, none⟩ = some (.slice none 0 0) ∧
    (((w.setCell ⟨pl, 0, none⟩ (.slice none 0 0)).setCell ⟨po, 0, none⟩ (.bool false)).alloc (.cells #[] 88 (0, 0))).cell? ⟨po, 0, none⟩ = some (.bool false) ∧
    ∀ B, B ≤ pl → B ≤ po → B ≤ w.heap.size → Below B w (((w.setCell ⟨pl, 0, none⟩ (.slice none 0 0)).setCell ⟨po, 0, none⟩ (.bool false)).alloc (.cells #[] 88 (0, 0))) := by
  have h1 := blk_put hl 0 (.slice none 0 0) rfl
  have h2 := blk_far h1 (p := ⟨po, 0, none⟩) hne (.bool false)
  have h3 := blk_far ho (p := ⟨pl, 0, none⟩) (fun e => hne e.symm) (.slice none 0 0)
  have h4 := blk_put h3 0 (.bool false) rfl
  refine ⟨cell_alloc ((blk_cell h2 0).trans rfl) _, cell_alloc ((blk_cell h4 0).trans rfl) _, fun B h1 h2 h3 => ?_⟩
  exact ((((Below.refl _ _).setCell (p := ⟨pl, 0, none⟩) h1 _).setCell (p := ⟨po, 0, none⟩) h2 _).alloc (by rw [World.size_setCell, World.size_setCell]; exact h3) _)
set_option maxHeartbeats 8000000 in
set_option maxRecDepth 100000 in
theorem body_calls (s : ByteArray) (r : Option (List S45)) (w : World) (HG : Glb w) (hs : s.size ≤ 1000000) (h : bodyF s = some r) :
    Calls Tryd.prog 30 #[.string s] w fun e w' => BodyPost w r e w' := by
  obtain ⟨q, hq, hr⟩ := Option.bind_eq_some_iff.1 h
  have hmf : ∀ (fn : Fn) (first cap : Array Value) (w : World), (Instr.makeFunc fn first cap).run Tryd.prog w = .ok (.func fn first cap) w := fun _ _ _ _ => rfl
  obtain ⟨N0, N1, N2, N3, N4⟩ := three_new2 w (.cells #[.slice none 0 0] 22 (0, 0)) (.cells #[.bool false] 4 (0, 0)) (.cells #[.string s, .int .i64 0, .slice none 0 0] 86 (0, 0))
  have CC := rcell_calls 5000 (w.heap.size + 2) s 0 (.slice none 0 0) [] 0 q (((w.alloc (.cells #[.slice none 0 0] 22 (0, 0))).alloc (.cells #[.bool false] 4 (0, 0))).alloc (.cells #[.string s, .int .i64 0, .slice none 0 0] 86 (0, 0))) N2 (Kd.R_nil _ _ _ _ _) hs (by omega) (by simp) (fun W hW => Glb.below HG (N4.trans (hW.mono (by omega)))) hq
  have CC := Lib.hid CC
  have NN := Lib.hid (And.intro N0 (And.intro N1 (And.intro N3 N4)))
  clear N0 N1 N2 N3 N4 h hq
  go_enter_defers Tryd.func30, Tryd.ntmps30
  cases q with
  | none =>
    obtain rfl := Option.some.inj hr
    go_wp2_with (go_at_call 44; refine (CC.out).mono ?_; rintro e w1 ⟨rfl, hb⟩; have HB := Lib.hid hb; clear hb)
    have hl : w1.heap[w.heap.size]? = some (.cells #[.slice none 0 0] 22 (0, 0)) := (HB.out.block _ (by omega)).trans NN.out.1
    have ho : w1.heap[w.heap.size + 1]? = some (.cells #[.bool false] 4 (0, 0)) := (HB.out.block _ (by omega)).trans NN.out.2.1
    have hd := door_facts w.heap.size (w.heap.size + 1) _ _ w1 hl ho (by omega)
    refine leaves_cons (f := 43) (args := #[.pointer (some ⟨w.heap.size, 0, none⟩), .pointer (some ⟨w.heap.size + 1, 0, none⟩)]) (by simp) (by simp [go_sem]) ?_
    refine (catch_panicking w.heap.size (w.heap.size + 1) _ _ [] w1 hl ho (by omega)).mono ?_
    rintro e u' w'' ⟨rfl, rfl, hw⟩
    rw [← hw] at hd
    obtain ⟨hd1, hd2, hd3⟩ := hd
    have BW : Below w.heap.size w w'' := (NN.out.2.2.2.trans (HB.out.mono (by omega))).trans (hd3 w.heap.size (Nat.le_refl _) (by omega) (Nat.le_trans NN.out.2.2.2.size (HB.out.mono (B' := w.heap.size) (by omega)).size))
    have HBW := Lib.hid BW
    clear hw hd3 BW hl ho
    simp [Leaves, settle, results, Tryd.results30, go_sem, hd1, hd2]
    exact ⟨rfl, HBW.out⟩
  | some q1 =>
    obtain ⟨L, a⟩ := q1
    simp only at hr
    by_cases ha : a = s.size
    · rw [if_pos ha] at hr
      obtain rfl := Option.some.inj hr
      subst ha
      have hne : ((s.size : Int) != (s.size : Int)) = false := by simp
      go_wp2_with (go_at_call 44; refine (CC.out).mono ?_; rintro e w1 ⟨rfl, sl, hB, hR, hb⟩; obtain ⟨As, cs', rfl⟩ := Kd.R_slice hR; have HB := Lib.hid hb; have RB := Lib.hid hB; have RR := Lib.hid hR; have y1 : w1.cell? ⟨w.heap.size + 1 + 1, 1, none⟩ = some (.int .i64 s.size) := (blk_cell hB 1).trans rfl; have y2 : w1.cell? ⟨w.heap.size + 1 + 1, 2, none⟩ = some (.slice As L.length cs') := (blk_cell hB 2).trans rfl; have hl : w1.heap[w.heap.size]? = some (.cells #[.slice none 0 0] 22 (0, 0)) := (hb.block _ (by omega)).trans NN.out.1; have ho : w1.heap[w.heap.size + 1]? = some (.cells #[.bool false] 4 (0, 0)) := (hb.block _ (by omega)).trans NN.out.2.1; have x1 : w1.cell? ⟨w.heap.size, 0, none⟩ = some (.slice none 0 0) := (blk_cell hl 0).trans rfl; have x2 : w1.frozen? ⟨w.heap.size, 0, none⟩ = false := blk_frozen hl 0; have x3 : w1.cell? ⟨w.heap.size + 1, 0, none⟩ = some (.bool false) := (blk_cell ho 0).trans rfl; have x4 : w1.frozen? ⟨w.heap.size + 1, 0, none⟩ = false := blk_frozen ho 0; have HL := Lib.hid hl; have HO := Lib.hid ho; clear hb hB hR hl ho)
      have h1 := blk_put HL.out 0 (.slice As L.length cs') rfl
      have h2 := blk_far h1 (p := ⟨w.heap.size + 1, 0, none⟩) (show w.heap.size ≠ w.heap.size + 1 by omega) (.bool true)
      have h3 := blk_far HO.out (p := ⟨w.heap.size, 0, none⟩) (show w.heap.size + 1 ≠ w.heap.size by omega) (.slice As L.length cs')
      have h4 := blk_put h3 0 (.bool true) rfl
      have hd1 := (blk_cell h2 0).trans (show _ = some (Value.slice As L.length cs') from rfl)
      have hd2 := (blk_cell h4 0).trans (show _ = some (Value.bool true) from rfl)
      have hR2 := Kd.R_far (p := ⟨w.heap.size + 1, 0, none⟩) (Kd.R_far (p := ⟨w.heap.size, 0, none⟩) (Kd.R_mono (Kd.R_bound RR.out) (fun k hk => (show k ≠ w.heap.size ∧ k ≠ w.heap.size + 1 from ⟨by have := hk.2.1; omega, by have := hk.2.1; omega⟩))) (fun k hk => hk.1) (.slice As L.length cs')) (fun k hk => hk.2) (.bool true)
      have hB2 : Below w.heap.size w ((w1.setCell ⟨w.heap.size, 0, none⟩ (.slice As L.length cs')).setCell ⟨w.heap.size + 1, 0, none⟩ (.bool true)) := ((NN.out.2.2.2.trans (HB.out.mono (by omega))).setCell (p := ⟨w.heap.size, 0, none⟩) (Nat.le_refl _) _).setCell (p := ⟨w.heap.size + 1, 0, none⟩) (Nat.le_succ _) _
      generalize (w1.setCell ⟨w.heap.size, 0, none⟩ (.slice As L.length cs')).setCell ⟨w.heap.size + 1, 0, none⟩ (.bool true) = w2 at hd1 hd2 hR2 hB2 ⊢
      have HR2 := Lib.hid hR2
      have HB2 := Lib.hid hB2
      clear h1 h2 h3 h4 hR2 hB2 x1 x2 x3 x4 y1 y2
      refine leaves_cons (f := 43) (args := #[.pointer (some ⟨w.heap.size, 0, none⟩), .pointer (some ⟨w.heap.size + 1, 0, none⟩)]) (by simp) (by simp [go_sem]) ?_
      refine (catch_idle ⟨w.heap.size, 0, none⟩ ⟨w.heap.size + 1, 0, none⟩ w2).mono ?_
      rintro e u' w'' ⟨rfl, rfl, hw⟩
      rw [hw]
      simp [Leaves, settle, results, Tryd.results30, go_sem, hd1, hd2]
      exact ⟨_, rfl, Kd.R_mono (Kd.R_lower HR2.out (by omega)) (fun _ _ => trivial), HB2.out⟩
    · rw [if_neg ha] at hr
      obtain rfl := Option.some.inj hr
      have hne : ((a : Int) != (s.size : Int)) = true := bne_iff_ne.mpr (by omega)
      have hne2 : (a != s.size) = true := bne_iff_ne.mpr ha
      clear ha
      go_wp2_with (first | (go_at_call 44; refine (CC.out).mono ?_; rintro e w1 ⟨rfl, sl, hB, hR, hb⟩; have HB := Lib.hid hb; have y1 : w1.cell? ⟨w.heap.size + 1 + 1, 1, none⟩ = some (.int .i64 a) := (blk_cell hB 1).trans rfl; clear hb hB hR) | (go_at_call 45; refine (give_calls _ _).mono ?_; rintro e w'' ⟨rfl, hw⟩; rw [hw]; clear hw w''))
      have hl : w1.heap[w.heap.size]? = some (.cells #[.slice none 0 0] 22 (0, 0)) := (HB.out.block _ (by omega)).trans NN.out.1
      have ho : w1.heap[w.heap.size + 1]? = some (.cells #[.bool false] 4 (0, 0)) := (HB.out.block _ (by omega)).trans NN.out.2.1
      have hd := door_facts w.heap.size (w.heap.size + 1) _ _ w1 hl ho (by omega)
      refine leaves_cons (f := 43) (args := #[.pointer (some ⟨w.heap.size, 0, none⟩), .pointer (some ⟨w.heap.size + 1, 0, none⟩)]) (by simp) (by simp [go_sem]) ?_
      refine (catch_panicking w.heap.size (w.heap.size + 1) _ _ [] w1 hl ho (by omega)).mono ?_
      rintro e u' w'' ⟨rfl, rfl, hw⟩
      rw [← hw] at hd
      obtain ⟨hd1, hd2, hd3⟩ := hd
      have BW : Below w.heap.size w w'' := (NN.out.2.2.2.trans (HB.out.mono (by omega))).trans (hd3 w.heap.size (Nat.le_refl _) (by omega) (Nat.le_trans NN.out.2.2.2.size (HB.out.mono (B' := w.heap.size) (by omega)).size))
      have HBW := Lib.hid BW
      clear hw hd3 BW hl ho
      simp [Leaves, settle, results, Tryd.results30, go_sem, hd1, hd2]
      exact ⟨rfl, HBW.out⟩
end Go.Proofs.YtmpnkckaohfflaaDoor.PGiv
end
section
namespace Go.Proofs.YtmpnkckaohfflaaDoor.PGiv
open Go.RowKit Go.Proofs.YtmpnkckaohfflaaDoorW.PrintWords Go.Proofs.YtmpnkckaohfflaaDoorW.PrintLast Go.Proofs.YtmpnkckaohfflaaDoorW.PrintMore Go.Proofs.YtmpnkckaohfflaaDoor.K Go.Proofs.YtmpnkckaohfflaaDoor.Num
set_option linter.unusedVariables false
set_option linter.unusedSimpArgs false
def hexD : ByteArray := ⟨#[48, 49, 50, 51, 52, 53, 54, 55, 56, 57, 97, 98, 99, 100, 101, 102]⟩
def hexAt (s : ByteArray) (i : Nat) : Bool := if h : i < s.size then decide (0 ≤ Lib.indexByte hexD.data.toList s[i]) else false
def hexTo (s : ByteArray) : Nat → Nat → Bool
  | 0, _ => true
  | k + 1, i => hexAt s i && hexTo s k (i + 1)
def tailF (s : ByteArray) : Option (List S45 × Int) := (bodyF (s.extract 5 s.size)).bind fun r => match r with
  | none => some ([], 50)
  | some L => (layout_Check.f L).bind fun e => if e = 0 then some (L, 0) else some ([], e)
def plan_Parse.f (s : ByteArray) : Option (List S45 × Int) :=
  if 2048 < s.size then some ([], 2) else if h : s.size < 5 then some ([], 50) else if s[4]'(by omega) ≠ 44 then some ([], 50) else if hexTo s 4 0 = false then some ([], 50)
  else (E.plan_Sum.f 200000 (s.extract 5 s.size)).bind fun n => (E.plan_four.f n).bind fun q => if (s.extract 0 4).toList = q.toList then tailF s else some ([], 51)
def ParsePost (w : World) (r1 : List S45) (r2 : Int) (e : Ending) (w' : World) : Prop := ∃ v0_ : Value, e = .returned (.tuple #[v0_, .int .i64 r2]) ∧ Kd.R k45 45 w' w.heap.size (fun _ => True) v0_ r1 ∧ Below w.heap.size w w'
theorem ParsePost.nil {w w' : World} {r2 : Int} {e : Ending} (he : e = .returned (.tuple #[.slice none 0 0, .int .i64 r2])) (hb : Below w.heap.size w w') : ParsePost w [] r2 e w' := ⟨_, he, Kd.R_nil _ _ _ _ _, hb⟩
set_option maxHeartbeats 16000000 in
set_option maxRecDepth 100000 in
theorem plan_Parse.calls (a0 : ByteArray) (r1 : List S45) (r2 : Int) (w : World) (HG : Aside0 (Glb w)) (h : plan_Parse.f a0 = some (r1, r2)) :
    Calls Tryd.prog 15 #[.string a0] w fun e w' => ParsePost w r1 r2 e w' := by
  unfold plan_Parse.f at h
  go_enter Tryd.func15, Tryd.ntmps15
  by_cases h1 : 2048 < a0.size
  · rw [if_pos h1] at h
    obtain ⟨rfl, rfl⟩ := Prod.mk.inj (Option.some.inj h)
    have d1 : decide ((2048 : Int) < (a0.size : Int)) = true := decide_eq_true (by omega)
    clear h
    go_wp2
    go_ret2
    exact ParsePost.nil rfl (Below.refl _ _)
  · rw [if_neg h1] at h
    have d1 : decide ((2048 : Int) < (a0.size : Int)) = false := decide_eq_false (by omega)
    by_cases h2 : a0.size < 5
    · rw [dif_pos h2] at h
      obtain ⟨rfl, rfl⟩ := Prod.mk.inj (Option.some.inj h)
      have d2 : decide ((a0.size : Int) < (5 : Int)) = true := decide_eq_true (by omega)
      clear h
      go_wp2
      go_ret2
      exact ParsePost.nil rfl (Below.refl _ _)
    · rw [dif_neg h2] at h
      have d2 : decide ((a0.size : Int) < (5 : Int)) = false := decide_eq_false (by omega)
      have h5 : 4 < a0.size := by omega
      by_cases h3 : a0[4]'h5 = 44
      · rw [if_neg (not_not_intro h3)] at h
        have d3 : (((a0[4]'h5).toNat : Int) != 44) = false := by rw [h3]; rfl
        have d4 : ((a0[4]'h5).toNat != 44) = false := by rw [h3]; rfl
        have HH := Lib.hid h
        clear h
        go_wp2
        obtain ⟨hb, hhb⟩ : ∃ hb : Bool, hexTo a0 4 0 = hb := ⟨_, rfl⟩
        rw [hhb] at HH
        have HHB := Lib.hid hhb
        clear hhb h3 d1 d2 d3 d4
        go_loopg [4] 4 (fun kq iv wr => ∃ i : Nat, iv = .int .i64 (i : Int) ∧ Aside0 (i + kq = 4) ∧ Aside0 (hexTo a0 kq i = hb) ∧ wr = w)
        case atStart => exact ⟨0, rfl, ⟨rfl⟩, ⟨HHB.out⟩, rfl⟩
        case round =>
          obtain ⟨i, rfl, RI, RH, hwr⟩ := hrel
          rw [hwr]
          clear hwr
          cases gk with
          | succ gk =>
            have hi4 : i < 4 := by have := RI.out; omega
            have his : i < a0.size := by omega
            have c1 : decide ((i : Int) < (4 : Int)) = true := decide_eq_true (by omega)
            have c2 : decide (i < 4) = true := decide_eq_true hi4
            have hRH := RH.out
            rw [hexTo] at hRH
            have IX := Tryd.strings_IndexByte hexD ((a0[i].toNat : Nat) : Int) w
            have hcv : ((a0[i].toNat : Nat) : Int).toNat.toUInt8 = a0[i] := by rw [Int.toNat_natCast]; exact UInt8.ofNat_toNat
            rw [hcv] at IX
            have hAt : hexAt a0 i = decide (0 ≤ Lib.indexByte hexD.data.toList a0[i]) := by rw [hexAt, dif_pos his]
            generalize hix : Lib.indexByte hexD.data.toList a0[i] = ix at IX hAt
            have IX := Lib.hid (show Calls Tryd.prog 29 #[.string ⟨#[48, 49, 50, 51, 52, 53, 54, 55, 56, 57, 97, 98, 99, 100, 101, 102]⟩, .int .u8 ((a0[i].toNat : Nat) : Int)] w (fun e w' => e = .returned (.int .i64 ix) ∧ w' = w) from IX)
            clear hcv hix
            by_cases hx : ix < 0
            · have hx' : decide (ix < 0) = true := decide_eq_true hx
              have hf : hb = false := by rw [hAt] at hRH; rw [← hRH]; simp; intro h; omega
              have HH1 := HH.out
              rw [if_pos hf] at HH1
              obtain ⟨e1, e2⟩ := Prod.mk.inj (Option.some.inj HH1)
              have E12 := Lib.hid (And.intro e1 e2)
              clear HH HH1 hRH hAt hx hf RH e1 e2
              go_wp2_with (go_at_call 29; refine (IX.out).mono ?_; rintro e w' ⟨rfl, hw⟩; rw [hw]; clear hw w')
              go_ret2
              rw [← E12.out.1, ← E12.out.2]
              exact ParsePost.nil rfl (Below.refl _ _)
            · have hx' : decide (ix < 0) = false := decide_eq_false hx
              have hf : hexTo a0 gk (i + 1) = hb := by rw [hAt, decide_eq_true (by omega : 0 ≤ ix)] at hRH; simpa using hRH
              have HF := Lib.hid hf
              clear hRH hAt hx hf RH
              go_wp2_with (go_at_call 29; refine (IX.out).mono ?_; rintro e w' ⟨rfl, hw⟩; rw [hw]; clear hw w')
              go_roundg gk
              case measure => omega
              case rel => exact ⟨i + 1, by push_cast; rfl, ⟨by have := RI.out; omega⟩, ⟨HF.out⟩, rfl⟩
          | zero =>
            have hi4 : i = 4 := RI.out
            subst hi4
            have hbt : hb = true := RH.out.symm
            subst hbt
            have HH1 := HH.out
            rw [if_neg (by simp)] at HH1
            obtain ⟨n, hn, HH1⟩ := Option.bind_eq_some_iff.1 HH1
            obtain ⟨q, hq, HH1⟩ := Option.bind_eq_some_iff.1 HH1
            have SU := Lib.hid (show ∀ W, Calls Tryd.prog 25 #[.string (a0.extract 5 a0.size)] W (fun e w' => e = .returned (.int .i64 n) ∧ Below W.heap.size W w') from fun W => (E.plan_Sum.calls 200000 (a0.extract 5 a0.size) n W hn).mono (by rintro e w' ⟨he, m, rfl⟩; exact ⟨he, pw_below_drewN (Below.refl _ _) m⟩))
            have FO := Lib.hid (show ∀ W, Calls Tryd.prog 24 #[.int .i64 n] W (fun e w' => e = .returned (.string q) ∧ Below W.heap.size W w') from fun W => E.plan_four.calls n q W hq)
            have HH2 := Lib.hid HH1
            clear HH HH1 hn hq RH RI
            have g1 : (0 ≤ (a0.size : Int)) = True := eq_true (by omega)
            have g2 : ((4 : Int) ≤ (a0.size : Int)) = True := eq_true (by omega)
            have g3 : ((5 : Int) ≤ (a0.size : Int)) = True := eq_true (by omega)
            have g4 : (4 ≤ a0.size) = True := eq_true (by omega)
            have g5 : (5 ≤ a0.size) = True := eq_true (by omega)
            go_wp2
            have BQ := Lib.hid (show Below w.heap.size w w.drew from (Below.refl _ _).drew)
            go_region_held3 (fun w' => True)
              (first | exact trivial)
              (first
                | (go_at_call 25
                   with_reducible refine (SU.out _).mono ?_
                   rintro e wn ⟨rfl, bn⟩
                   have BQ := Lib.hid (BQ.out.trans (bn.mono BQ.out.size))
                   clear bn)
                | (go_at_call 24
                   with_reducible refine (FO.out _).mono ?_
                   rintro e wn ⟨rfl, bn⟩
                   have BQ := Lib.hid (BQ.out.trans (bn.mono BQ.out.size))
                   clear bn))
            have hsz : (a0.extract 5 a0.size).size ≤ 1000000 := by rw [ByteArray.size_extract]; omega
            generalize hB : (!((a0.extract 0 4).toList == q.toList)) = bq
            cases bq with
            | false =>
              have hq : (a0.extract 0 4).toList = q.toList := by simpa using hB
              clear hB
              have HH3 := HH2.out
              rw [if_pos hq] at HH3
              obtain ⟨r, hr, HH3⟩ := Option.bind_eq_some_iff.1 HH3
              have BC := Lib.hid (body_calls (a0.extract 5 a0.size) r wn (Glb.below HG.out BQ.out) hsz hr)
              have HH4 := Lib.hid HH3
              clear HH2 HH3 hr hq hsz SU FO
              cases r with
              | none =>
                obtain ⟨e1, e2⟩ := Prod.mk.inj (Option.some.inj HH4.out)
                have E12 := Lib.hid (And.intro e1 e2)
                clear e1 e2 HH4
                go_wp2_with (go_at_call 30; refine (BC.out).mono ?_; rintro e wb ⟨rfl, hb⟩; have BB := Lib.hid (BQ.out.trans (hb.mono BQ.out.size)); clear hb)
                go_ret2
                rw [← E12.out.1, ← E12.out.2]
                exact ParsePost.nil rfl BB.out
              | some L =>
                obtain ⟨e, he, HH5⟩ := Option.bind_eq_some_iff.1 (show (layout_Check.f L).bind (fun e => if e = 0 then some (L, (0 : Int)) else some ([], e)) = some (r1, r2) from HH4.out)
                have HE := Lib.hid he
                have HH5 := Lib.hid HH5
                clear HH4 he
                go_wp2_with (go_at_call 30; refine (BC.out).mono ?_; rintro e' wb ⟨v, rfl, hR, hb⟩; obtain ⟨Av, cv, rfl, hlc, hC⟩ := Kd.R_reads hR; have BB := Lib.hid (BQ.out.trans (hb.mono BQ.out.size)); have RB := Lib.hid (Kd.R_lower hR BQ.out.size); have CK := Lib.hid (layout_Check.calls Av cv L e wb hC hlc HE.out); clear hb hR hC)
                by_cases e0 : e = 0
                · have HH6 := HH5.out
                  rw [if_pos e0] at HH6
                  obtain ⟨e1, e2⟩ := Prod.mk.inj (Option.some.inj HH6)
                  have E12 := Lib.hid (And.intro e1 e2)
                  clear e1 e2 HH5 HH6
                  subst e0
                  go_wp2_with (go_at_call 17; refine (CK.out).mono ?_; rintro e' wk ⟨rfl, hb⟩; have BK := Lib.hid (BB.out.trans (hb.mono BB.out.size)); have RK := Lib.hid (Kd.R_below RB.out hb); clear hb)
                  go_ret2
                  rw [← E12.out.1, ← E12.out.2]
                  exact ⟨_, rfl, RK.out, BK.out⟩
                · have HH6 := HH5.out
                  rw [if_neg e0] at HH6
                  obtain ⟨e1, e2⟩ := Prod.mk.inj (Option.some.inj HH6)
                  have E12 := Lib.hid (And.intro e1 e2)
                  have e0' : (e != 0) = true := bne_iff_ne.mpr e0
                  clear e1 e2 HH5 HH6 e0
                  go_wp2_with (go_at_call 17; refine (CK.out).mono ?_; rintro e' wk ⟨rfl, hb⟩; have BK := Lib.hid (BB.out.trans (hb.mono BB.out.size)); clear hb)
                  go_ret2
                  rw [← E12.out.1, ← E12.out.2]
                  exact ParsePost.nil rfl BK.out
            | true =>
              have hq : ¬ (a0.extract 0 4).toList = q.toList := by simpa using hB
              clear hB
              have HH3 := HH2.out
              rw [if_neg hq] at HH3
              obtain ⟨e1, e2⟩ := Prod.mk.inj (Option.some.inj HH3)
              have E12 := Lib.hid (And.intro e1 e2)
              clear HH2 HH3 hq e1 e2
              go_wp2
              go_ret2
              rw [← E12.out.1, ← E12.out.2]
              exact ParsePost.nil rfl BQ.out
      · rw [if_pos h3] at h
        obtain ⟨rfl, rfl⟩ := Prod.mk.inj (Option.some.inj h)
        have d3 : (((a0[4]'h5).toNat : Int) != 44) = true := bne_iff_ne.mpr (u8_ne h3 rfl)
        clear h
        go_wp2
        go_ret2
        exact ParsePost.nil rfl (Below.refl _ _)
end Go.Proofs.YtmpnkckaohfflaaDoor.PGiv
end
section
namespace Go.Proofs.YtmpnkckaohfflaaDoor.L
open Go.Proofs.YtmpnkckaohfflaaDoor.K Go.RowKit Go.Proofs.YtmpnkckaohfflaaDoorW.PrintWords Go.Proofs.YtmpnkckaohfflaaDoorW.PrintLast Go.Proofs.YtmpnkckaohfflaaDoorW.PrintMore Go.Proofs.YtmpnkckaohfflaaDoor.PGiv
attribute [local go_sem] max2_int min2_int max_two min_two max_three min_three max_four min_four
set_option linter.unusedVariables false
set_option linter.unusedSimpArgs false
attribute [local go_sem high] eqA45
def mullionref05_four.f (a0 : Int) : Option (ByteArray) := if 0 ≤ (wrap64 (Int.tdiv a0 4096)) then (if (wrap64 (Int.tdiv a0 4096)) ≤ (wrap64 ((wrap64 (Int.tdiv a0 4096)) + 1)) then (if (wrap64 ((wrap64 (Int.tdiv a0 4096)) + 1)) ≤ 16 then (if 0 ≤ (Int.tmod (wrap64 (Int.tdiv a0 256)) 16) then (if (Int.tmod (wrap64 (Int.tdiv a0 256)) 16) ≤ (wrap64 ((Int.tmod (wrap64 (Int.tdiv a0 256)) 16) + 1)) then (if (wrap64 ((Int.tmod (wrap64 (Int.tdiv a0 256)) 16) + 1)) ≤ 16 then (if ((⟨#[48, 49, 50, 51, 52, 53, 54, 55, 56, 57, 97, 98, 99, 100, 101, 102]⟩ : ByteArray).extract ((wrap64 (Int.tdiv a0 4096)) : Int).toNat ((wrap64 ((wrap64 (Int.tdiv a0 4096)) + 1)) : Int).toNat).size + ((⟨#[48, 49, 50, 51, 52, 53, 54, 55, 56, 57, 97, 98, 99, 100, 101, 102]⟩ : ByteArray).extract ((Int.tmod (wrap64 (Int.tdiv a0 256)) 16) : Int).toNat ((wrap64 ((Int.tmod (wrap64 (Int.tdiv a0 256)) 16) + 1)) : Int).toNat).size ≤ 9223372036854775807 then (if 0 ≤ (Int.tmod (wrap64 (Int.tdiv a0 16)) 16) then (if (Int.tmod (wrap64 (Int.tdiv a0 16)) 16) ≤ (wrap64 ((Int.tmod (wrap64 (Int.tdiv a0 16)) 16) + 1)) then (if (wrap64 ((Int.tmod (wrap64 (Int.tdiv a0 16)) 16) + 1)) ≤ 16 then (if (((⟨#[48, 49, 50, 51, 52, 53, 54, 55, 56, 57, 97, 98, 99, 100, 101, 102]⟩ : ByteArray).extract ((wrap64 (Int.tdiv a0 4096)) : Int).toNat ((wrap64 ((wrap64 (Int.tdiv a0 4096)) + 1)) : Int).toNat) ++ ((⟨#[48, 49, 50, 51, 52, 53, 54, 55, 56, 57, 97, 98, 99, 100, 101, 102]⟩ : ByteArray).extract ((Int.tmod (wrap64 (Int.tdiv a0 256)) 16) : Int).toNat ((wrap64 ((Int.tmod (wrap64 (Int.tdiv a0 256)) 16) + 1)) : Int).toNat)).size + ((⟨#[48, 49, 50, 51, 52, 53, 54, 55, 56, 57, 97, 98, 99, 100, 101, 102]⟩ : ByteArray).extract ((Int.tmod (wrap64 (Int.tdiv a0 16)) 16) : Int).toNat ((wrap64 ((Int.tmod (wrap64 (Int.tdiv a0 16)) 16) + 1)) : Int).toNat).size ≤ 9223372036854775807 then (if 0 ≤ (Int.tmod a0 16) then (if (Int.tmod a0 16) ≤ (wrap64 ((Int.tmod a0 16) + 1)) then (if (wrap64 ((Int.tmod a0 16) + 1)) ≤ 16 then (if ((((⟨#[48, 49, 50, 51, 52, 53, 54, 55, 56, 57, 97, 98, 99, 100, 101, 102]⟩ : ByteArray).extract ((wrap64 (Int.tdiv a0 4096)) : Int).toNat ((wrap64 ((wrap64 (Int.tdiv a0 4096)) + 1)) : Int).toNat) ++ ((⟨#[48, 49, 50, 51, 52, 53, 54, 55, 56, 57, 97, 98, 99, 100, 101, 102]⟩ : ByteArray).extract ((Int.tmod (wrap64 (Int.tdiv a0 256)) 16) : Int).toNat ((wrap64 ((Int.tmod (wrap64 (Int.tdiv a0 256)) 16) + 1)) : Int).toNat)) ++ ((⟨#[48, 49, 50, 51, 52, 53, 54, 55, 56, 57, 97, 98, 99, 100, 101, 102]⟩ : ByteArray).extract ((Int.tmod (wrap64 (Int.tdiv a0 16)) 16) : Int).toNat ((wrap64 ((Int.tmod (wrap64 (Int.tdiv a0 16)) 16) + 1)) : Int).toNat)).size + ((⟨#[48, 49, 50, 51, 52, 53, 54, 55, 56, 57, 97, 98, 99, 100, 101, 102]⟩ : ByteArray).extract ((Int.tmod a0 16) : Int).toNat ((wrap64 ((Int.tmod a0 16) + 1)) : Int).toNat).size ≤ 9223372036854775807 then (some (((((⟨#[48, 49, 50, 51, 52, 53, 54, 55, 56, 57, 97, 98, 99, 100, 101, 102]⟩ : ByteArray).extract ((wrap64 (Int.tdiv a0 4096)) : Int).toNat ((wrap64 ((wrap64 (Int.tdiv a0 4096)) + 1)) : Int).toNat) ++ ((⟨#[48, 49, 50, 51, 52, 53, 54, 55, 56, 57, 97, 98, 99, 100, 101, 102]⟩ : ByteArray).extract ((Int.tmod (wrap64 (Int.tdiv a0 256)) 16) : Int).toNat ((wrap64 ((Int.tmod (wrap64 (Int.tdiv a0 256)) 16) + 1)) : Int).toNat)) ++ ((⟨#[48, 49, 50, 51, 52, 53, 54, 55, 56, 57, 97, 98, 99, 100, 101, 102]⟩ : ByteArray).extract ((Int.tmod (wrap64 (Int.tdiv a0 16)) 16) : Int).toNat ((wrap64 ((Int.tmod (wrap64 (Int.tdiv a0 16)) 16) + 1)) : Int).toNat)) ++ ((⟨#[48, 49, 50, 51, 52, 53, 54, 55, 56, 57, 97, 98, 99, 100, 101, 102]⟩ : ByteArray).extract ((Int.tmod a0 16) : Int).toNat ((wrap64 ((Int.tmod a0 16) + 1)) : Int).toNat))) else (none)) else (none)) else (none)) else (none)) else (none)) else (none)) else (none)) else (none)) else (none)) else (none)) else (none)) else (none)) else (none)) else (none)) else (none)
set_option maxHeartbeats 8000000 in
set_option maxRecDepth 100000 in
theorem mullionref05_four.calls (a0 : Int) (r : ByteArray) (w : World) (h : mullionref05_four.f a0 = some r) :
    Calls Tryd.prog 27 #[.int .i64 a0] w fun e w' => e = .returned (.string r) ∧ Drawn0 w w' := by
  have H : (if 0 ≤ (wrap64 (Int.tdiv a0 4096)) then (if (wrap64 (Int.tdiv a0 4096)) ≤ (wrap64 ((wrap64 (Int.tdiv a0 4096)) + 1)) then (if (wrap64 ((wrap64 (Int.tdiv a0 4096)) + 1)) ≤ 16 then (if 0 ≤ (Int.tmod (wrap64 (Int.tdiv a0 256)) 16) then (if (Int.tmod (wrap64 (Int.tdiv a0 256)) 16) ≤ (wrap64 ((Int.tmod (wrap64 (Int.tdiv a0 256)) 16) + 1)) then (if (wrap64 ((Int.tmod (wrap64 (Int.tdiv a0 256)) 16) + 1)) ≤ 16 then (if ((⟨#[48, 49, 50, 51, 52, 53, 54, 55, 56, 57, 97, 98, 99, 100, 101, 102]⟩ : ByteArray).extract ((wrap64 (Int.tdiv a0 4096)) : Int).toNat ((wrap64 ((wrap64 (Int.tdiv a0 4096)) + 1)) : Int).toNat).size + ((⟨#[48, 49, 50, 51, 52, 53, 54, 55, 56, 57, 97, 98, 99, 100, 101, 102]⟩ : ByteArray).extract ((Int.tmod (wrap64 (Int.tdiv a0 256)) 16) : Int).toNat ((wrap64 ((Int.tmod (wrap64 (Int.tdiv a0 256)) 16) + 1)) : Int).toNat).size ≤ 9223372036854775807 then (if 0 ≤ (Int.tmod (wrap64 (Int.tdiv a0 16)) 16) then (if (Int.tmod (wrap64 (Int.tdiv a0 16)) 16) ≤ (wrap64 ((Int.tmod (wrap64 (Int.tdiv a0 16)) 16) + 1)) then (if (wrap64 ((Int.tmod (wrap64 (Int.tdiv a0 16)) 16) + 1)) ≤ 16 then (if (((⟨#[48, 49, 50, 51, 52, 53, 54, 55, 56, 57, 97, 98, 99, 100, 101, 102]⟩ : ByteArray).extract ((wrap64 (Int.tdiv a0 4096)) : Int).toNat ((wrap64 ((wrap64 (Int.tdiv a0 4096)) + 1)) : Int).toNat) ++ ((⟨#[48, 49, 50, 51, 52, 53, 54, 55, 56, 57, 97, 98, 99, 100, 101, 102]⟩ : ByteArray).extract ((Int.tmod (wrap64 (Int.tdiv a0 256)) 16) : Int).toNat ((wrap64 ((Int.tmod (wrap64 (Int.tdiv a0 256)) 16) + 1)) : Int).toNat)).size + ((⟨#[48, 49, 50, 51, 52, 53, 54, 55, 56, 57, 97, 98, 99, 100, 101, 102]⟩ : ByteArray).extract ((Int.tmod (wrap64 (Int.tdiv a0 16)) 16) : Int).toNat ((wrap64 ((Int.tmod (wrap64 (Int.tdiv a0 16)) 16) + 1)) : Int).toNat).size ≤ 9223372036854775807 then (if 0 ≤ (Int.tmod a0 16) then (if (Int.tmod a0 16) ≤ (wrap64 ((Int.tmod a0 16) + 1)) then (if (wrap64 ((Int.tmod a0 16) + 1)) ≤ 16 then (if ((((⟨#[48, 49, 50, 51, 52, 53, 54, 55, 56, 57, 97, 98, 99, 100, 101, 102]⟩ : ByteArray).extract ((wrap64 (Int.tdiv a0 4096)) : Int).toNat ((wrap64 ((wrap64 (Int.tdiv a0 4096)) + 1)) : Int).toNat) ++ ((⟨#[48, 49, 50, 51, 52, 53, 54, 55, 56, 57, 97, 98, 99, 100, 101, 102]⟩ : ByteArray).extract ((Int.tmod (wrap64 (Int.tdiv a0 256)) 16) : Int).toNat ((wrap64 ((Int.tmod (wrap64 (Int.tdiv a0 256)) 16) + 1)) : Int).toNat)) ++ ((⟨#[48, 49, 50, 51, 52, 53, 54, 55, 56, 57, 97, 98, 99, 100, 101, 102]⟩ : ByteArray).extract ((Int.tmod (wrap64 (Int.tdiv a0 16)) 16) : Int).toNat ((wrap64 ((Int.tmod (wrap64 (Int.tdiv a0 16)) 16) + 1)) : Int).toNat)).size + ((⟨#[48, 49, 50, 51, 52, 53, 54, 55, 56, 57, 97, 98, 99, 100, 101, 102]⟩ : ByteArray).extract ((Int.tmod a0 16) : Int).toNat ((wrap64 ((Int.tmod a0 16) + 1)) : Int).toNat).size ≤ 9223372036854775807 then (some (((((⟨#[48, 49, 50, 51, 52, 53, 54, 55, 56, 57, 97, 98, 99, 100, 101, 102]⟩ : ByteArray).extract ((wrap64 (Int.tdiv a0 4096)) : Int).toNat ((wrap64 ((wrap64 (Int.tdiv a0 4096)) + 1)) : Int).toNat) ++ ((⟨#[48, 49, 50, 51, 52, 53, 54, 55, 56, 57, 97, 98, 99, 100, 101, 102]⟩ : ByteArray).extract ((Int.tmod (wrap64 (Int.tdiv a0 256)) 16) : Int).toNat ((wrap64 ((Int.tmod (wrap64 (Int.tdiv a0 256)) 16) + 1)) : Int).toNat)) ++ ((⟨#[48, 49, 50, 51, 52, 53, 54, 55, 56, 57, 97, 98, 99, 100, 101, 102]⟩ : ByteArray).extract ((Int.tmod (wrap64 (Int.tdiv a0 16)) 16) : Int).toNat ((wrap64 ((Int.tmod (wrap64 (Int.tdiv a0 16)) 16) + 1)) : Int).toNat)) ++ ((⟨#[48, 49, 50, 51, 52, 53, 54, 55, 56, 57, 97, 98, 99, 100, 101, 102]⟩ : ByteArray).extract ((Int.tmod a0 16) : Int).toNat ((wrap64 ((Int.tmod a0 16) + 1)) : Int).toNat))) else (none)) else (none)) else (none)) else (none)) else (none)) else (none)) else (none)) else (none)) else (none)) else (none)) else (none)) else (none)) else (none)) else (none)) else (none)) = some r := h
  clear h
  obtain ⟨ji2, hji2⟩ : ∃ j_ : Int, (wrap64 (Int.tdiv a0 4096)) = j_ := ⟨_, rfl⟩
  replace H : (if 0 ≤ (ji2) then (if (ji2) ≤ (wrap64 ((ji2) + 1)) then (if (wrap64 ((ji2) + 1)) ≤ 16 then (if 0 ≤ (Int.tmod (wrap64 (Int.tdiv a0 256)) 16) then (if (Int.tmod (wrap64 (Int.tdiv a0 256)) 16) ≤ (wrap64 ((Int.tmod (wrap64 (Int.tdiv a0 256)) 16) + 1)) then (if (wrap64 ((Int.tmod (wrap64 (Int.tdiv a0 256)) 16) + 1)) ≤ 16 then (if ((⟨#[48, 49, 50, 51, 52, 53, 54, 55, 56, 57, 97, 98, 99, 100, 101, 102]⟩ : ByteArray).extract ((ji2) : Int).toNat ((wrap64 ((ji2) + 1)) : Int).toNat).size + ((⟨#[48, 49, 50, 51, 52, 53, 54, 55, 56, 57, 97, 98, 99, 100, 101, 102]⟩ : ByteArray).extract ((Int.tmod (wrap64 (Int.tdiv a0 256)) 16) : Int).toNat ((wrap64 ((Int.tmod (wrap64 (Int.tdiv a0 256)) 16) + 1)) : Int).toNat).size ≤ 9223372036854775807 then (if 0 ≤ (Int.tmod (wrap64 (Int.tdiv a0 16)) 16) then (if (Int.tmod (wrap64 (Int.tdiv a0 16)) 16) ≤ (wrap64 ((Int.tmod (wrap64 (Int.tdiv a0 16)) 16) + 1)) then (if (wrap64 ((Int.tmod (wrap64 (Int.tdiv a0 16)) 16) + 1)) ≤ 16 then (if (((⟨#[48, 49, 50, 51, 52, 53, 54, 55, 56, 57, 97, 98, 99, 100, 101, 102]⟩ : ByteArray).extract ((ji2) : Int).toNat ((wrap64 ((ji2) + 1)) : Int).toNat) ++ ((⟨#[48, 49, 50, 51, 52, 53, 54, 55, 56, 57, 97, 98, 99, 100, 101, 102]⟩ : ByteArray).extract ((Int.tmod (wrap64 (Int.tdiv a0 256)) 16) : Int).toNat ((wrap64 ((Int.tmod (wrap64 (Int.tdiv a0 256)) 16) + 1)) : Int).toNat)).size + ((⟨#[48, 49, 50, 51, 52, 53, 54, 55, 56, 57, 97, 98, 99, 100, 101, 102]⟩ : ByteArray).extract ((Int.tmod (wrap64 (Int.tdiv a0 16)) 16) : Int).toNat ((wrap64 ((Int.tmod (wrap64 (Int.tdiv a0 16)) 16) + 1)) : Int).toNat).size ≤ 9223372036854775807 then (if 0 ≤ (Int.tmod a0 16) then (if (Int.tmod a0 16) ≤ (wrap64 ((Int.tmod a0 16) + 1)) then (if (wrap64 ((Int.tmod a0 16) + 1)) ≤ 16 then (if ((((⟨#[48, 49, 50, 51, 52, 53, 54, 55, 56, 57, 97, 98, 99, 100, 101, 102]⟩ : ByteArray).extract ((ji2) : Int).toNat ((wrap64 ((ji2) + 1)) : Int).toNat) ++ ((⟨#[48, 49, 50, 51, 52, 53, 54, 55, 56, 57, 97, 98, 99, 100, 101, 102]⟩ : ByteArray).extract ((Int.tmod (wrap64 (Int.tdiv a0 256)) 16) : Int).toNat ((wrap64 ((Int.tmod (wrap64 (Int.tdiv a0 256)) 16) + 1)) : Int).toNat)) ++ ((⟨#[48, 49, 50, 51, 52, 53, 54, 55, 56, 57, 97, 98, 99, 100, 101, 102]⟩ : ByteArray).extract ((Int.tmod (wrap64 (Int.tdiv a0 16)) 16) : Int).toNat ((wrap64 ((Int.tmod (wrap64 (Int.tdiv a0 16)) 16) + 1)) : Int).toNat)).size + ((⟨#[48, 49, 50, 51, 52, 53, 54, 55, 56, 57, 97, 98, 99, 100, 101, 102]⟩ : ByteArray).extract ((Int.tmod a0 16) : Int).toNat ((wrap64 ((Int.tmod a0 16) + 1)) : Int).toNat).size ≤ 9223372036854775807 then (some (((((⟨#[48, 49, 50, 51, 52, 53, 54, 55, 56, 57, 97, 98, 99, 100, 101, 102]⟩ : ByteArray).extract ((ji2) : Int).toNat ((wrap64 ((ji2) + 1)) : Int).toNat) ++ ((⟨#[48, 49, 50, 51, 52, 53, 54, 55, 56, 57, 97, 98, 99, 100, 101, 102]⟩ : ByteArray).extract ((Int.tmod (wrap64 (Int.tdiv a0 256)) 16) : Int).toNat ((wrap64 ((Int.tmod (wrap64 (Int.tdiv a0 256)) 16) + 1)) : Int).toNat)) ++ ((⟨#[48, 49, 50, 51, 52, 53, 54, 55, 56, 57, 97, 98, 99, 100, 101, 102]⟩ : ByteArray).extract ((Int.tmod (wrap64 (Int.tdiv a0 16)) 16) : Int).toNat ((wrap64 ((Int.tmod (wrap64 (Int.tdiv a0 16)) 16) + 1)) : Int).toNat)) ++ ((⟨#[48, 49, 50, 51, 52, 53, 54, 55, 56, 57, 97, 98, 99, 100, 101, 102]⟩ : ByteArray).extract ((Int.tmod a0 16) : Int).toNat ((wrap64 ((Int.tmod a0 16) + 1)) : Int).toNat))) else (none)) else (none)) else (none)) else (none)) else (none)) else (none)) else (none)) else (none)) else (none)) else (none)) else (none)) else (none)) else (none)) else (none)) else (none)) = some r := by first | (rw [hji2] at H; exact H) | (simp only [hji2] at H ⊢; exact H)
  have hji2w : (IntKind.i64.wrap (Int.tdiv a0 4096)) = ji2 := (i64_w _).trans hji2
  by_cases c3 : 0 ≤ (ji2)
  · rw [if_pos c3] at H
    have c3b0 := eq_true c3
    have c3b1 : decide (0 ≤ (ji2)) = true := decide_eq_true c3
    clear c3
    by_cases c4 : (ji2) ≤ (wrap64 ((ji2) + 1))
    · rw [if_pos c4] at H
      have c4b0 := eq_true c4
      have c4b1 : decide ((ji2) ≤ (wrap64 ((ji2) + 1))) = true := decide_eq_true c4
      by_cases c5 : (wrap64 ((ji2) + 1)) ≤ 16
      · rw [if_pos c5] at H
        have c5b0 := eq_true c5
        have c5b1 : decide ((wrap64 ((ji2) + 1)) ≤ 16) = true := decide_eq_true c5
        obtain ⟨ji6, hji6⟩ : ∃ j_ : Int, (Int.tmod (wrap64 (Int.tdiv a0 256)) 16) = j_ := ⟨_, rfl⟩
        replace H : (if 0 ≤ (ji6) then (if (ji6) ≤ (wrap64 ((ji6) + 1)) then (if (wrap64 ((ji6) + 1)) ≤ 16 then (if ((⟨#[48, 49, 50, 51, 52, 53, 54, 55, 56, 57, 97, 98, 99, 100, 101, 102]⟩ : ByteArray).extract ((ji2) : Int).toNat ((wrap64 ((ji2) + 1)) : Int).toNat).size + ((⟨#[48, 49, 50, 51, 52, 53, 54, 55, 56, 57, 97, 98, 99, 100, 101, 102]⟩ : ByteArray).extract ((ji6) : Int).toNat ((wrap64 ((ji6) + 1)) : Int).toNat).size ≤ 9223372036854775807 then (if 0 ≤ (Int.tmod (wrap64 (Int.tdiv a0 16)) 16) then (if (Int.tmod (wrap64 (Int.tdiv a0 16)) 16) ≤ (wrap64 ((Int.tmod (wrap64 (Int.tdiv a0 16)) 16) + 1)) then (if (wrap64 ((Int.tmod (wrap64 (Int.tdiv a0 16)) 16) + 1)) ≤ 16 then (if (((⟨#[48, 49, 50, 51, 52, 53, 54, 55, 56, 57, 97, 98, 99, 100, 101, 102]⟩ : ByteArray).extract ((ji2) : Int).toNat ((wrap64 ((ji2) + 1)) : Int).toNat) ++ ((⟨#[48, 49, 50, 51, 52, 53, 54, 55, 56, 57, 97, 98, 99, 100, 101, 102]⟩ : ByteArray).extract ((ji6) : Int).toNat ((wrap64 ((ji6) + 1)) : Int).toNat)).size + ((⟨#[48, 49, 50, 51, 52, 53, 54, 55, 56, 57, 97, 98, 99, 100, 101, 102]⟩ : ByteArray).extract ((Int.tmod (wrap64 (Int.tdiv a0 16)) 16) : Int).toNat ((wrap64 ((Int.tmod (wrap64 (Int.tdiv a0 16)) 16) + 1)) : Int).toNat).size ≤ 9223372036854775807 then (if 0 ≤ (Int.tmod a0 16) then (if (Int.tmod a0 16) ≤ (wrap64 ((Int.tmod a0 16) + 1)) then (if (wrap64 ((Int.tmod a0 16) + 1)) ≤ 16 then (if ((((⟨#[48, 49, 50, 51, 52, 53, 54, 55, 56, 57, 97, 98, 99, 100, 101, 102]⟩ : ByteArray).extract ((ji2) : Int).toNat ((wrap64 ((ji2) + 1)) : Int).toNat) ++ ((⟨#[48, 49, 50, 51, 52, 53, 54, 55, 56, 57, 97, 98, 99, 100, 101, 102]⟩ : ByteArray).extract ((ji6) : Int).toNat ((wrap64 ((ji6) + 1)) : Int).toNat)) ++ ((⟨#[48, 49, 50, 51, 52, 53, 54, 55, 56, 57, 97, 98, 99, 100, 101, 102]⟩ : ByteArray).extract ((Int.tmod (wrap64 (Int.tdiv a0 16)) 16) : Int).toNat ((wrap64 ((Int.tmod (wrap64 (Int.tdiv a0 16)) 16) + 1)) : Int).toNat)).size + ((⟨#[48, 49, 50, 51, 52, 53, 54, 55, 56, 57, 97, 98, 99, 100, 101, 102]⟩ : ByteArray).extract ((Int.tmod a0 16) : Int).toNat ((wrap64 ((Int.tmod a0 16) + 1)) : Int).toNat).size ≤ 9223372036854775807 then (some (((((⟨#[48, 49, 50, 51, 52, 53, 54, 55, 56, 57, 97, 98, 99, 100, 101, 102]⟩ : ByteArray).extract ((ji2) : Int).toNat ((wrap64 ((ji2) + 1)) : Int).toNat) ++ ((⟨#[48, 49, 50, 51, 52, 53, 54, 55, 56, 57, 97, 98, 99, 100, 101, 102]⟩ : ByteArray).extract ((ji6) : Int).toNat ((wrap64 ((ji6) + 1)) : Int).toNat)) ++ ((⟨#[48, 49, 50, 51, 52, 53, 54, 55, 56, 57, 97, 98, 99, 100, 101, 102]⟩ : ByteArray).extract ((Int.tmod (wrap64 (Int.tdiv a0 16)) 16) : Int).toNat ((wrap64 ((Int.tmod (wrap64 (Int.tdiv a0 16)) 16) + 1)) : Int).toNat)) ++ ((⟨#[48, 49, 50, 51, 52, 53, 54, 55, 56, 57, 97, 98, 99, 100, 101, 102]⟩ : ByteArray).extract ((Int.tmod a0 16) : Int).toNat ((wrap64 ((Int.tmod a0 16) + 1)) : Int).toNat))) else (none)) else (none)) else (none)) else (none)) else (none)) else (none)) else (none)) else (none)) else (none)) else (none)) else (none)) else (none)) = some r := by first | (rw [hji6] at H; exact H) | (simp only [hji6] at H ⊢; exact H)
        by_cases c7 : 0 ≤ (ji6)
        · rw [if_pos c7] at H
          have c7b0 := eq_true c7
          have c7b1 : decide (0 ≤ (ji6)) = true := decide_eq_true c7
          clear c7
          by_cases c8 : (ji6) ≤ (wrap64 ((ji6) + 1))
          · rw [if_pos c8] at H
            have c8b0 := eq_true c8
            have c8b1 : decide ((ji6) ≤ (wrap64 ((ji6) + 1))) = true := decide_eq_true c8
            by_cases c9 : (wrap64 ((ji6) + 1)) ≤ 16
            · rw [if_pos c9] at H
              have c9b0 := eq_true c9
              have c9b1 : decide ((wrap64 ((ji6) + 1)) ≤ 16) = true := decide_eq_true c9
              by_cases c10 : ((⟨#[48, 49, 50, 51, 52, 53, 54, 55, 56, 57, 97, 98, 99, 100, 101, 102]⟩ : ByteArray).extract ((ji2) : Int).toNat ((wrap64 ((ji2) + 1)) : Int).toNat).size + ((⟨#[48, 49, 50, 51, 52, 53, 54, 55, 56, 57, 97, 98, 99, 100, 101, 102]⟩ : ByteArray).extract ((ji6) : Int).toNat ((wrap64 ((ji6) + 1)) : Int).toNat).size ≤ 9223372036854775807
              · rw [if_pos c10] at H
                have c10b0 := eq_true c10
                have c10b1 : decide (((⟨#[48, 49, 50, 51, 52, 53, 54, 55, 56, 57, 97, 98, 99, 100, 101, 102]⟩ : ByteArray).extract ((ji2) : Int).toNat ((wrap64 ((ji2) + 1)) : Int).toNat).size + ((⟨#[48, 49, 50, 51, 52, 53, 54, 55, 56, 57, 97, 98, 99, 100, 101, 102]⟩ : ByteArray).extract ((ji6) : Int).toNat ((wrap64 ((ji6) + 1)) : Int).toNat).size ≤ 9223372036854775807) = true := decide_eq_true c10
                try have c10b2 : (9223372036854775807 < ((⟨#[48, 49, 50, 51, 52, 53, 54, 55, 56, 57, 97, 98, 99, 100, 101, 102]⟩ : ByteArray).extract ((ji2) : Int).toNat ((wrap64 ((ji2) + 1)) : Int).toNat).size + ((⟨#[48, 49, 50, 51, 52, 53, 54, 55, 56, 57, 97, 98, 99, 100, 101, 102]⟩ : ByteArray).extract ((ji6) : Int).toNat ((wrap64 ((ji6) + 1)) : Int).toNat).size) = False := eq_false (Nat.not_lt.2 c10)
                obtain ⟨ji11, hji11⟩ : ∃ j_ : Int, (Int.tmod (wrap64 (Int.tdiv a0 16)) 16) = j_ := ⟨_, rfl⟩
                replace H : (if 0 ≤ (ji11) then (if (ji11) ≤ (wrap64 ((ji11) + 1)) then (if (wrap64 ((ji11) + 1)) ≤ 16 then (if (((⟨#[48, 49, 50, 51, 52, 53, 54, 55, 56, 57, 97, 98, 99, 100, 101, 102]⟩ : ByteArray).extract ((ji2) : Int).toNat ((wrap64 ((ji2) + 1)) : Int).toNat) ++ ((⟨#[48, 49, 50, 51, 52, 53, 54, 55, 56, 57, 97, 98, 99, 100, 101, 102]⟩ : ByteArray).extract ((ji6) : Int).toNat ((wrap64 ((ji6) + 1)) : Int).toNat)).size + ((⟨#[48, 49, 50, 51, 52, 53, 54, 55, 56, 57, 97, 98, 99, 100, 101, 102]⟩ : ByteArray).extract ((ji11) : Int).toNat ((wrap64 ((ji11) + 1)) : Int).toNat).size ≤ 9223372036854775807 then (if 0 ≤ (Int.tmod a0 16) then (if (Int.tmod a0 16) ≤ (wrap64 ((Int.tmod a0 16) + 1)) then (if (wrap64 ((Int.tmod a0 16) + 1)) ≤ 16 then (if ((((⟨#[48, 49, 50, 51, 52, 53, 54, 55, 56, 57, 97, 98, 99, 100, 101, 102]⟩ : ByteArray).extract ((ji2) : Int).toNat ((wrap64 ((ji2) + 1)) : Int).toNat) ++ ((⟨#[48, 49, 50, 51, 52, 53, 54, 55, 56, 57, 97, 98, 99, 100, 101, 102]⟩ : ByteArray).extract ((ji6) : Int).toNat ((wrap64 ((ji6) + 1)) : Int).toNat)) ++ ((⟨#[48, 49, 50, 51, 52, 53, 54, 55, 56, 57, 97, 98, 99, 100, 101, 102]⟩ : ByteArray).extract ((ji11) : Int).toNat ((wrap64 ((ji11) + 1)) : Int).toNat)).size + ((⟨#[48, 49, 50, 51, 52, 53, 54, 55, 56, 57, 97, 98, 99, 100, 101, 102]⟩ : ByteArray).extract ((Int.tmod a0 16) : Int).toNat ((wrap64 ((Int.tmod a0 16) + 1)) : Int).toNat).size ≤ 9223372036854775807 then (some (((((⟨#[48, 49, 50, 51, 52, 53, 54, 55, 56, 57, 97, 98, 99, 100, 101, 102]⟩ : ByteArray).extract ((ji2) : Int).toNat ((wrap64 ((ji2) + 1)) : Int).toNat) ++ ((⟨#[48, 49, 50, 51, 52, 53, 54, 55, 56, 57, 97, 98, 99, 100, 101, 102]⟩ : ByteArray).extract ((ji6) : Int).toNat ((wrap64 ((ji6) + 1)) : Int).toNat)) ++ ((⟨#[48, 49, 50, 51, 52, 53, 54, 55, 56, 57, 97, 98, 99, 100, 101, 102]⟩ : ByteArray).extract ((ji11) : Int).toNat ((wrap64 ((ji11) + 1)) : Int).toNat)) ++ ((⟨#[48, 49, 50, 51, 52, 53, 54, 55, 56, 57, 97, 98, 99, 100, 101, 102]⟩ : ByteArray).extract ((Int.tmod a0 16) : Int).toNat ((wrap64 ((Int.tmod a0 16) + 1)) : Int).toNat))) else (none)) else (none)) else (none)) else (none)) else (none)) else (none)) else (none)) else (none)) = some r := by first | (rw [hji11] at H; exact H) | (simp only [hji11] at H ⊢; exact H)
                by_cases c12 : 0 ≤ (ji11)
                · rw [if_pos c12] at H
                  have c12b0 := eq_true c12
                  have c12b1 : decide (0 ≤ (ji11)) = true := decide_eq_true c12
                  clear c12
                  by_cases c13 : (ji11) ≤ (wrap64 ((ji11) + 1))
                  · rw [if_pos c13] at H
                    have c13b0 := eq_true c13
                    have c13b1 : decide ((ji11) ≤ (wrap64 ((ji11) + 1))) = true := decide_eq_true c13
                    by_cases c14 : (wrap64 ((ji11) + 1)) ≤ 16
                    · rw [if_pos c14] at H
                      have c14b0 := eq_true c14
                      have c14b1 : decide ((wrap64 ((ji11) + 1)) ≤ 16) = true := decide_eq_true c14
                      by_cases c15 : (((⟨#[48, 49, 50, 51, 52, 53, 54, 55, 56, 57, 97, 98, 99, 100, 101, 102]⟩ : ByteArray).extract ((ji2) : Int).toNat ((wrap64 ((ji2) + 1)) : Int).toNat) ++ ((⟨#[48, 49, 50, 51, 52, 53, 54, 55, 56, 57, 97, 98, 99, 100, 101, 102]⟩ : ByteArray).extract ((ji6) : Int).toNat ((wrap64 ((ji6) + 1)) : Int).toNat)).size + ((⟨#[48, 49, 50, 51, 52, 53, 54, 55, 56, 57, 97, 98, 99, 100, 101, 102]⟩ : ByteArray).extract ((ji11) : Int).toNat ((wrap64 ((ji11) + 1)) : Int).toNat).size ≤ 9223372036854775807
                      · rw [if_pos c15] at H
                        have c15b0 := eq_true c15
                        have c15b1 : decide ((((⟨#[48, 49, 50, 51, 52, 53, 54, 55, 56, 57, 97, 98, 99, 100, 101, 102]⟩ : ByteArray).extract ((ji2) : Int).toNat ((wrap64 ((ji2) + 1)) : Int).toNat) ++ ((⟨#[48, 49, 50, 51, 52, 53, 54, 55, 56, 57, 97, 98, 99, 100, 101, 102]⟩ : ByteArray).extract ((ji6) : Int).toNat ((wrap64 ((ji6) + 1)) : Int).toNat)).size + ((⟨#[48, 49, 50, 51, 52, 53, 54, 55, 56, 57, 97, 98, 99, 100, 101, 102]⟩ : ByteArray).extract ((ji11) : Int).toNat ((wrap64 ((ji11) + 1)) : Int).toNat).size ≤ 9223372036854775807) = true := decide_eq_true c15
                        try have c15b2 : (9223372036854775807 < (((⟨#[48, 49, 50, 51, 52, 53, 54, 55, 56, 57, 97, 98, 99, 100, 101, 102]⟩ : ByteArray).extract ((ji2) : Int).toNat ((wrap64 ((ji2) + 1)) : Int).toNat) ++ ((⟨#[48, 49, 50, 51, 52, 53, 54, 55, 56, 57, 97, 98, 99, 100, 101, 102]⟩ : ByteArray).extract ((ji6) : Int).toNat ((wrap64 ((ji6) + 1)) : Int).toNat)).size + ((⟨#[48, 49, 50, 51, 52, 53, 54, 55, 56, 57, 97, 98, 99, 100, 101, 102]⟩ : ByteArray).extract ((ji11) : Int).toNat ((wrap64 ((ji11) + 1)) : Int).toNat).size) = False := eq_false (Nat.not_lt.2 c15)
                        obtain ⟨ji16, hji16⟩ : ∃ j_ : Int, (Int.tmod a0 16) = j_ := ⟨_, rfl⟩
                        replace H : (if 0 ≤ (ji16) then (if (ji16) ≤ (wrap64 ((ji16) + 1)) then (if (wrap64 ((ji16) + 1)) ≤ 16 then (if ((((⟨#[48, 49, 50, 51, 52, 53, 54, 55, 56, 57, 97, 98, 99, 100, 101, 102]⟩ : ByteArray).extract ((ji2) : Int).toNat ((wrap64 ((ji2) + 1)) : Int).toNat) ++ ((⟨#[48, 49, 50, 51, 52, 53, 54, 55, 56, 57, 97, 98, 99, 100, 101, 102]⟩ : ByteArray).extract ((ji6) : Int).toNat ((wrap64 ((ji6) + 1)) : Int).toNat)) ++ ((⟨#[48, 49, 50, 51, 52, 53, 54, 55, 56, 57, 97, 98, 99, 100, 101, 102]⟩ : ByteArray).extract ((ji11) : Int).toNat ((wrap64 ((ji11) + 1)) : Int).toNat)).size + ((⟨#[48, 49, 50, 51, 52, 53, 54, 55, 56, 57, 97, 98, 99, 100, 101, 102]⟩ : ByteArray).extract ((ji16) : Int).toNat ((wrap64 ((ji16) + 1)) : Int).toNat).size ≤ 9223372036854775807 then (some (((((⟨#[48, 49, 50, 51, 52, 53, 54, 55, 56, 57, 97, 98, 99, 100, 101, 102]⟩ : ByteArray).extract ((ji2) : Int).toNat ((wrap64 ((ji2) + 1)) : Int).toNat) ++ ((⟨#[48, 49, 50, 51, 52, 53, 54, 55, 56, 57, 97, 98, 99, 100, 101, 102]⟩ : ByteArray).extract ((ji6) : Int).toNat ((wrap64 ((ji6) + 1)) : Int).toNat)) ++ ((⟨#[48, 49, 50, 51, 52, 53, 54, 55, 56, 57, 97, 98, 99, 100, 101, 102]⟩ : ByteArray).extract ((ji11) : Int).toNat ((wrap64 ((ji11) + 1)) : Int).toNat)) ++ ((⟨#[48, 49, 50, 51, 52, 53, 54, 55, 56, 57, 97, 98, 99, 100, 101, 102]⟩ : ByteArray).extract ((ji16) : Int).toNat ((wrap64 ((ji16) + 1)) : Int).toNat))) else (none)) else (none)) else (none)) else (none)) = some r := by first | (rw [hji16] at H; exact H) | (simp only [hji16] at H ⊢; exact H)
                        by_cases c17 : 0 ≤ (ji16)
                        · rw [if_pos c17] at H
                          have c17b0 := eq_true c17
                          have c17b1 : decide (0 ≤ (ji16)) = true := decide_eq_true c17
                          clear c17
                          by_cases c18 : (ji16) ≤ (wrap64 ((ji16) + 1))
                          · rw [if_pos c18] at H
                            have c18b0 := eq_true c18
                            have c18b1 : decide ((ji16) ≤ (wrap64 ((ji16) + 1))) = true := decide_eq_true c18
                            by_cases c19 : (wrap64 ((ji16) + 1)) ≤ 16
                            · rw [if_pos c19] at H
                              have c19b0 := eq_true c19
                              have c19b1 : decide ((wrap64 ((ji16) + 1)) ≤ 16) = true := decide_eq_true c19
                              by_cases c20 : ((((⟨#[48, 49, 50, 51, 52, 53, 54, 55, 56, 57, 97, 98, 99, 100, 101, 102]⟩ : ByteArray).extract ((ji2) : Int).toNat ((wrap64 ((ji2) + 1)) : Int).toNat) ++ ((⟨#[48, 49, 50, 51, 52, 53, 54, 55, 56, 57, 97, 98, 99, 100, 101, 102]⟩ : ByteArray).extract ((ji6) : Int).toNat ((wrap64 ((ji6) + 1)) : Int).toNat)) ++ ((⟨#[48, 49, 50, 51, 52, 53, 54, 55, 56, 57, 97, 98, 99, 100, 101, 102]⟩ : ByteArray).extract ((ji11) : Int).toNat ((wrap64 ((ji11) + 1)) : Int).toNat)).size + ((⟨#[48, 49, 50, 51, 52, 53, 54, 55, 56, 57, 97, 98, 99, 100, 101, 102]⟩ : ByteArray).extract ((ji16) : Int).toNat ((wrap64 ((ji16) + 1)) : Int).toNat).size ≤ 9223372036854775807
                              · rw [if_pos c20] at H
                                have c20b0 := eq_true c20
                                have c20b1 : decide (((((⟨#[48, 49, 50, 51, 52, 53, 54, 55, 56, 57, 97, 98, 99, 100, 101, 102]⟩ : ByteArray).extract ((ji2) : Int).toNat ((wrap64 ((ji2) + 1)) : Int).toNat) ++ ((⟨#[48, 49, 50, 51, 52, 53, 54, 55, 56, 57, 97, 98, 99, 100, 101, 102]⟩ : ByteArray).extract ((ji6) : Int).toNat ((wrap64 ((ji6) + 1)) : Int).toNat)) ++ ((⟨#[48, 49, 50, 51, 52, 53, 54, 55, 56, 57, 97, 98, 99, 100, 101, 102]⟩ : ByteArray).extract ((ji11) : Int).toNat ((wrap64 ((ji11) + 1)) : Int).toNat)).size + ((⟨#[48, 49, 50, 51, 52, 53, 54, 55, 56, 57, 97, 98, 99, 100, 101, 102]⟩ : ByteArray).extract ((ji16) : Int).toNat ((wrap64 ((ji16) + 1)) : Int).toNat).size ≤ 9223372036854775807) = true := decide_eq_true c20
                                try have c20b2 : (9223372036854775807 < ((((⟨#[48, 49, 50, 51, 52, 53, 54, 55, 56, 57, 97, 98, 99, 100, 101, 102]⟩ : ByteArray).extract ((ji2) : Int).toNat ((wrap64 ((ji2) + 1)) : Int).toNat) ++ ((⟨#[48, 49, 50, 51, 52, 53, 54, 55, 56, 57, 97, 98, 99, 100, 101, 102]⟩ : ByteArray).extract ((ji6) : Int).toNat ((wrap64 ((ji6) + 1)) : Int).toNat)) ++ ((⟨#[48, 49, 50, 51, 52, 53, 54, 55, 56, 57, 97, 98, 99, 100, 101, 102]⟩ : ByteArray).extract ((ji11) : Int).toNat ((wrap64 ((ji11) + 1)) : Int).toNat)).size + ((⟨#[48, 49, 50, 51, 52, 53, 54, 55, 56, 57, 97, 98, 99, 100, 101, 102]⟩ : ByteArray).extract ((ji16) : Int).toNat ((wrap64 ((ji16) + 1)) : Int).toNat).size) = False := eq_false (Nat.not_lt.2 c20)
                                obtain rfl := Option.some.inj H
                                go_enter Tryd.func27, Tryd.ntmps27
                                go_wp2
                                repeat (go_quiet (fail); try go_wp2)
                                go_ret
                                exact ⟨by first | rfl | (simp; done) | (simp only [← hji2, ← hji6, ← hji11, ← hji16] <;> (first | rfl | simp)) | (simp [*]; done), by repeat (first | exact Drawn0.refl _ | apply Drawn0.step)⟩
                              · rw [if_neg c20] at H
                                exact absurd H (by simp)
                            · rw [if_neg c19] at H
                              exact absurd H (by simp)
                          · rw [if_neg c18] at H
                            exact absurd H (by simp)
                        · rw [if_neg c17] at H
                          exact absurd H (by simp)
                      · rw [if_neg c15] at H
                        exact absurd H (by simp)
                    · rw [if_neg c14] at H
                      exact absurd H (by simp)
                  · rw [if_neg c13] at H
                    exact absurd H (by simp)
                · rw [if_neg c12] at H
                  exact absurd H (by simp)
              · rw [if_neg c10] at H
                exact absurd H (by simp)
            · rw [if_neg c9] at H
              exact absurd H (by simp)
          · rw [if_neg c8] at H
            exact absurd H (by simp)
        · rw [if_neg c7] at H
          exact absurd H (by simp)
      · rw [if_neg c5] at H
        exact absurd H (by simp)
    · rw [if_neg c4] at H
      exact absurd H (by simp)
  · rw [if_neg c3] at H
    exact absurd H (by simp)
def mullionref05_Sum.l0 : Nat → ByteArray → Int → Int → Option (Int)
  | 0, _, _, _ => none
  | k + 1, x0, x3, x4 => if x4 < (x0.size : Int) then (if 0 ≤ x4 then (mullionref05_Sum.l0 k x0 (Int.tmod (wrap64 ((wrap64 ((wrap64 (Int.tdiv x3 2)) + (wrap64 (32768 * (Int.tmod x3 2))))) + (wrap64 (bt x0 x4)))) 65536) (wrap64 (x4 + 1))) else (none)) else (some x3)
def mullionref05_Sum.f (k : Nat) (a0 : ByteArray) : Option (Int) := mullionref05_Sum.l0 k a0 0 0
theorem mullionref05_Sum.mono_l : ∀ k, (∀ y0 y1 y2, LeO (mullionref05_Sum.l0 k y0 y1 y2) (mullionref05_Sum.l0 (k + 1) y0 y1 y2))
  | 0 => fun _ _ _ r h => by simp [mullionref05_Sum.l0] at h
  | k + 1 => by
    have ih0 := mullionref05_Sum.mono_l k
    · intro y0 y1 y2
      unfold mullionref05_Sum.l0
      repeat' first
      | (with_reducible exact ih0 _ _ _)
      | (with_reducible exact LeO.refl _)
      | (with_reducible exact LeO.none _)
      | (with_reducible refine LeO.ite ?_ ?_)
      | (with_reducible refine LeO.bind ?_ (fun _ => ?_))
      | exact ih0 _ _ _
      | exact LeO.none _
      | refine LeO.ite ?_ ?_
      | refine LeO.bind ?_ (fun _ => ?_)
theorem mullionref05_Sum.mono : ∀ a0 k, LeO (mullionref05_Sum.f k a0) (mullionref05_Sum.f (k + 1) a0) := by
  intro a0 k
  have ih0 := mullionref05_Sum.mono_l k
  unfold mullionref05_Sum.f
  repeat' first
      | (with_reducible exact ih0 _ _ _)
      | (with_reducible exact LeO.refl _)
      | (with_reducible exact LeO.none _)
      | (with_reducible refine LeO.ite ?_ ?_)
      | (with_reducible refine LeO.bind ?_ (fun _ => ?_))
      | exact ih0 _ _ _
      | exact LeO.none _
      | refine LeO.ite ?_ ?_
      | refine LeO.bind ?_ (fun _ => ?_)
set_option maxHeartbeats 8000000 in
set_option maxRecDepth 100000 in
theorem mullionref05_Sum.calls (k : Nat) (a0 : ByteArray) (r : Int) (w : World) (h : mullionref05_Sum.f k a0 = some r) :
    Calls Tryd.prog 28 #[.string a0] w fun e w' => e = .returned (.int .i64 r) ∧ Drawn0 w w' := by
  have H : (mullionref05_Sum.l0 k a0 0 0) = some r := h
  clear h
  have H' := Aside0.mk H
  clear H
  go_enter Tryd.func28, Tryd.ntmps28
  go_wp2
  go_loopg [3, 4] k (fun kq v3 v4 w' => ∃ (x3_1 : Int) (x4_1 : Int), v3 = .int .i64 x3_1 ∧ v4 = .int .i64 x4_1 ∧ Aside0 (mullionref05_Sum.l0 kq a0 x3_1 x4_1 = some r) ∧ Aside0 (kq ≤ k) ∧ Drawn0 w w')
  case atStart => exact ⟨(0), (0), (by first | rfl | (simp; done) | (simp [*]; done)), (by first | rfl | (simp; done) | (simp [*]; done)), H', ⟨Nat.le_refl _⟩, by repeat (first | exact Drawn0.refl _ | apply Drawn0.step)⟩
  case round =>
    clear H'
    obtain ⟨x3_1, x4_1, rfl, rfl, HA, HK1, ⟨m1, rfl⟩⟩ := hrel
    cases gk with
    | zero => exact absurd HA.out (by simp [mullionref05_Sum.l0])
    | succ k1 =>
      have H := HA.out
      clear HA
      simp only [mullionref05_Sum.l0] at H
      by_cases c2 : x4_1 < (a0.size : Int)
      · rw [if_pos c2] at H
        have c2b0 : decide (x4_1 < (a0.size : Int)) = true := decide_eq_true c2
        clear c2
        by_cases c3 : 0 ≤ x4_1
        · rw [if_pos c3] at H
          have c3b0 : decide (0 ≤ x4_1) = true := decide_eq_true c3
          clear c3
          have H' := Aside0.mk H
          clear H
          have p4 : 0 ≤ (x4_1 : Int) := of_decide_eq_true (by first | (with_reducible assumption) | assumption)
          have q4 : x4_1 < (a0.size : Int) := of_decide_eq_true (by first | (with_reducible assumption) | assumption)
          have hx4 := bt_at a0 x4_1
          replace p4 := eq_true p4
          replace q4 := eq_true q4
          go_wp2
          go_roundg k1
          case measure => have := HK1.out; omega
          case rel => exact ⟨(Int.tmod (wrap64 ((wrap64 ((wrap64 (Int.tdiv x3_1 2)) + (wrap64 (32768 * (Int.tmod x3_1 2))))) + (wrap64 (bt a0 x4_1)))) 65536), (wrap64 (x4_1 + 1)), (by first | rfl | (simp; done) | (simp [*]; done)), (by first | rfl | (simp; done) | (simp [*]; done)), H', ⟨by have := HK1.out; omega⟩, by repeat (first | exact Drawn0.refl _ | apply Drawn0.step)⟩
        · rw [if_neg c3] at H
          exact absurd H (by simp)
      · rw [if_neg c2] at H
        have c2b0 : decide (x4_1 < (a0.size : Int)) = false := decide_eq_false c2
        clear c2
        obtain rfl := Option.some.inj H
        go_wp2
        go_ret
        exact ⟨by first | rfl | (simp; done) | (simp [*]; done), by repeat (first | exact Drawn0.refl _ | apply Drawn0.step)⟩
def mullionref05_Text.f (k : Nat) (l0 : List (S45)) : Option (ByteArray × Int) := (mullionref04_Check.f k l0).bind fun t211 => (if t211 = 0 then ((mullionref05_body.f k l0 0).bind fun t212 => ((mullionref05_Sum.f k t212).bind fun t213 => ((mullionref05_four.f t213).bind fun t214 => (if t214.size + 1 ≤ 9223372036854775807 then (if (t214 ++ (⟨#[44]⟩ : ByteArray)).size + t212.size ≤ 9223372036854775807 then (some ((t214 ++ (⟨#[44]⟩ : ByteArray)) ++ t212, 0)) else (none)) else (none))))) else (some ((⟨#[]⟩ : ByteArray), 40)))
theorem mullionref05_Text.mono : ∀ a0 k, LeO (mullionref05_Text.f k a0) (mullionref05_Text.f (k + 1) a0) := by
  intro a0 k
  unfold mullionref05_Text.f
  repeat' first
      | (with_reducible exact mullionref04_Check.mono _ _)
      | (with_reducible exact mullionref05_Sum.mono _ _)
      | (with_reducible exact mullionref05_body.mono _ _ _)
      | (with_reducible exact LeO.refl _)
      | (with_reducible exact LeO.none _)
      | (with_reducible refine LeO.ite ?_ ?_)
      | (with_reducible refine LeO.bind ?_ (fun _ => ?_))
      | exact mullionref04_Check.mono _ _
      | exact mullionref05_Sum.mono _ _
      | exact mullionref05_body.mono _ _ _
      | exact LeO.none _
      | refine LeO.ite ?_ ?_
      | refine LeO.bind ?_ (fun _ => ?_)
set_option maxHeartbeats 8000000 in
set_option maxRecDepth 100000 in
theorem mullionref05_Text.calls (k : Nat) (A0 : Option Addr) (c0 : Nat) (l0 : List (S45)) (r1 : ByteArray) (r2 : Int) (w : World) (hr0 : Kd.C k45 w A0 l0.length l0) (hc0 : l0.length ≤ c0) (h : mullionref05_Text.f k l0 = some (r1, r2)) :
    Calls Tryd.prog 12 #[.slice A0 l0.length c0] w fun e w' => e = .returned (.tuple #[.string r1, .int .i64 r2]) ∧ Below w.heap.size w w' := by
  have HR0 := Aside0.mk hr0
  have HC0 := Aside0.mk hc0
  clear hr0 hc0
  have HB := Aside0.mk (Below.refl w.heap.size w)
  have H : ((mullionref04_Check.f k l0).bind fun t211 => (if t211 = 0 then ((mullionref05_body.f k l0 0).bind fun t212 => ((mullionref05_Sum.f k t212).bind fun t213 => ((mullionref05_four.f t213).bind fun t214 => (if t214.size + 1 ≤ 9223372036854775807 then (if (t214 ++ (⟨#[44]⟩ : ByteArray)).size + t212.size ≤ 9223372036854775807 then (some ((t214 ++ (⟨#[44]⟩ : ByteArray)) ++ t212, 0)) else (none)) else (none))))) else (some ((⟨#[]⟩ : ByteArray), 40)))) = some (r1, r2) := h
  clear h
  replace H := Option.bind_eq_some_iff.mp H
  obtain ⟨t211, A20, H⟩ := H
  replace H : (if t211 = 0 then ((mullionref05_body.f k l0 0).bind fun t212 => ((mullionref05_Sum.f k t212).bind fun t213 => ((mullionref05_four.f t213).bind fun t214 => (if t214.size + 1 ≤ 9223372036854775807 then (if (t214 ++ (⟨#[44]⟩ : ByteArray)).size + t212.size ≤ 9223372036854775807 then (some ((t214 ++ (⟨#[44]⟩ : ByteArray)) ++ t212, 0)) else (none)) else (none))))) else (some ((⟨#[]⟩ : ByteArray), 40))) = some (r1, r2) := H
  have A2 := Aside0.mk A20
  clear A20
  by_cases c3 : t211 = 0
  · rw [if_pos c3] at H
    have c3b0 : (t211 == 0) = true := beq_iff_eq.mpr c3
    have c3b1 : (t211 != 0) = false := bne_eq_false_iff_eq.mpr c3
    clear c3
    replace H := Option.bind_eq_some_iff.mp H
    obtain ⟨t212, A40, H⟩ := H
    replace H : ((mullionref05_Sum.f k t212).bind fun t213 => ((mullionref05_four.f t213).bind fun t214 => (if t214.size + 1 ≤ 9223372036854775807 then (if (t214 ++ (⟨#[44]⟩ : ByteArray)).size + t212.size ≤ 9223372036854775807 then (some ((t214 ++ (⟨#[44]⟩ : ByteArray)) ++ t212, 0)) else (none)) else (none)))) = some (r1, r2) := H
    have A4 := Aside0.mk A40
    clear A40
    replace H := Option.bind_eq_some_iff.mp H
    obtain ⟨t213, A50, H⟩ := H
    replace H : ((mullionref05_four.f t213).bind fun t214 => (if t214.size + 1 ≤ 9223372036854775807 then (if (t214 ++ (⟨#[44]⟩ : ByteArray)).size + t212.size ≤ 9223372036854775807 then (some ((t214 ++ (⟨#[44]⟩ : ByteArray)) ++ t212, 0)) else (none)) else (none))) = some (r1, r2) := H
    have A5 := Aside0.mk A50
    clear A50
    replace H := Option.bind_eq_some_iff.mp H
    obtain ⟨t214, A60, H⟩ := H
    replace H : (if t214.size + 1 ≤ 9223372036854775807 then (if (t214 ++ (⟨#[44]⟩ : ByteArray)).size + t212.size ≤ 9223372036854775807 then (some ((t214 ++ (⟨#[44]⟩ : ByteArray)) ++ t212, 0)) else (none)) else (none)) = some (r1, r2) := H
    have A6 := Aside0.mk A60
    clear A60
    by_cases c7 : t214.size + 1 ≤ 9223372036854775807
    · rw [if_pos c7] at H
      have c7b0 := eq_true c7
      have c7b1 : decide (t214.size + 1 ≤ 9223372036854775807) = true := decide_eq_true c7
      try have c7b2 : (9223372036854775807 < t214.size + 1) = False := eq_false (Nat.not_lt.2 c7)
      by_cases c8 : (t214 ++ (⟨#[44]⟩ : ByteArray)).size + t212.size ≤ 9223372036854775807
      · rw [if_pos c8] at H
        have c8b0 := eq_true c8
        have c8b1 : decide ((t214 ++ (⟨#[44]⟩ : ByteArray)).size + t212.size ≤ 9223372036854775807) = true := decide_eq_true c8
        try have c8b2 : (9223372036854775807 < (t214 ++ (⟨#[44]⟩ : ByteArray)).size + t212.size) = False := eq_false (Nat.not_lt.2 c8)
        simp only [Option.some.injEq, Prod.mk.injEq] at H
        obtain ⟨rfl, rfl⟩ := H
        go_enter Tryd.func12, Tryd.ntmps12
        go_wp2_with (first | ((with_reducible refine gate_callee (f := 21) rfl ?_); refine goesL_ (some 6) rfl rfl Tryd.func21 (by kernel_rfl) rfl #[.slice A0 l0.length c0] rfl (by (try simp only [List.map_toArray, List.map_cons, List.map_nil]); first | done | rfl | (simp only [List.length_drop, List.length_take]; rfl)) ?_; (with_reducible refine (mullionref04_Check.calls k _ _ l0 t211 _ ?side1 ?side2 A2.out).mono ?_); (case side1 => repeat (first | exact HR0.out | (with_reducible refine Kd.C_alloc ?_ _) | (with_reducible refine Kd.C_drewN ?_ _) | (with_reducible refine Kd.C_drew ?_))); (case side2 => exact HC0.out); rintro e w9 ⟨rfl, hb⟩; refine ⟨_, rfl, ?_⟩; have n0_ := Aside0.mk (below_step (by repeat (first | (with_reducible first | exact HB.out | apply below_alloc | apply pw_below_drewN | apply below_drew1) | exact HB.out)) hb); clear HB; have HB := n0_; clear n0_; (try clear hb); (try clear hb2); (try clear hk); (try clear hi)) | ((with_reducible refine gate_callee (f := 26) rfl ?_); refine goesL_ (some 9) rfl rfl Tryd.func26 (by kernel_rfl) rfl #[.slice A0 l0.length c0, .int .i64 0] rfl (by (try simp only [List.map_toArray, List.map_cons, List.map_nil]); first | done | rfl | (simp only [List.length_drop, List.length_take]; rfl)) ?_; (with_reducible refine (mullionref05_body.calls k _ _ l0 0 t212 _ ?side1 ?side2 A4.out).mono ?_); (case side1 => repeat (first | exact (Kd.C_below HR0.out HB.out) | (with_reducible refine Kd.C_alloc ?_ _) | (with_reducible refine Kd.C_drewN ?_ _) | (with_reducible refine Kd.C_drew ?_))); (case side2 => exact HC0.out); rintro e w10 ⟨rfl, hb⟩; refine ⟨_, rfl, ?_⟩; have n0_ := Aside0.mk (below_step (by repeat (first | (with_reducible first | exact HB.out | apply below_alloc | apply pw_below_drewN | apply below_drew1) | exact HB.out)) hb); clear HB; have HB := n0_; clear n0_; (try clear hb); (try clear hb2); (try clear hk); (try clear hi)) | ((with_reducible refine gate_callee (f := 28) rfl ?_); refine goesL_ (some 11) rfl rfl Tryd.func28 (by kernel_rfl) rfl #[.string t212] rfl (by (try simp only [List.map_toArray, List.map_cons, List.map_nil]); first | done | rfl | (simp only [List.length_drop, List.length_take]; rfl)) ?_; (with_reducible refine (mullionref05_Sum.calls k t212 t213 _ A5.out).mono ?_); rintro e w' ⟨rfl, ⟨nd, rfl⟩⟩; refine ⟨_, rfl, ?_⟩) | ((with_reducible refine gate_callee (f := 27) rfl ?_); refine goesL_ (some 12) rfl rfl Tryd.func27 (by kernel_rfl) rfl #[.int .i64 t213] rfl (by (try simp only [List.map_toArray, List.map_cons, List.map_nil]); first | done | rfl | (simp only [List.length_drop, List.length_take]; rfl)) ?_; (with_reducible refine (mullionref05_four.calls t213 t214 _ A6.out).mono ?_); rintro e w' ⟨rfl, ⟨nd, rfl⟩⟩; refine ⟨_, rfl, ?_⟩))
        go_ret2
        exact ⟨by first | rfl | (simp [errW_none, errW_some] <;> rfl) | (simp [*, errW_none, errW_some] <;> rfl), by repeat (first | (with_reducible first | exact HB.out | apply below_alloc | apply pw_below_drewN | apply below_drew1) | exact HB.out)⟩
      · rw [if_neg c8] at H
        exact absurd H (by simp)
    · rw [if_neg c7] at H
      exact absurd H (by simp)
  · rw [if_neg c3] at H
    have c3b0 : (t211 == 0) = false := beq_eq_false_iff_ne.mpr c3
    have c3b1 : (t211 != 0) = true := bne_iff_ne.mpr c3
    simp only [Option.some.injEq, Prod.mk.injEq] at H
    obtain ⟨rfl, rfl⟩ := H
    go_enter Tryd.func12, Tryd.ntmps12
    go_wp2_with (first | ((with_reducible refine gate_callee (f := 21) rfl ?_); refine goesL_ (some 6) rfl rfl Tryd.func21 (by kernel_rfl) rfl #[.slice A0 l0.length c0] rfl (by (try simp only [List.map_toArray, List.map_cons, List.map_nil]); first | done | rfl | (simp only [List.length_drop, List.length_take]; rfl)) ?_; (with_reducible refine (mullionref04_Check.calls k _ _ l0 t211 _ ?side1 ?side2 A2.out).mono ?_); (case side1 => repeat (first | exact HR0.out | (with_reducible refine Kd.C_alloc ?_ _) | (with_reducible refine Kd.C_drewN ?_ _) | (with_reducible refine Kd.C_drew ?_))); (case side2 => exact HC0.out); rintro e w11 ⟨rfl, hb⟩; refine ⟨_, rfl, ?_⟩; have n0_ := Aside0.mk (below_step (by repeat (first | (with_reducible first | exact HB.out | apply below_alloc | apply pw_below_drewN | apply below_drew1) | exact HB.out)) hb); clear HB; have HB := n0_; clear n0_; (try clear hb); (try clear hb2); (try clear hk); (try clear hi)))
    go_ret2
    exact ⟨by first | rfl | (simp [errW_none, errW_some] <;> rfl) | (simp [*, errW_none, errW_some] <;> rfl), by repeat (first | (with_reducible first | exact HB.out | apply below_alloc | apply pw_below_drewN | apply below_drew1) | exact HB.out)⟩
def mullionlaw05_same.l0 : Nat → List (S45) → List (S45) → Int → Option (Bool)
  | 0, _, _, _ => none
  | k + 1, x0, x1, x5 => if x5 < (x0.length : Int) then (if 0 ≤ x5 then (if x5 < (x1.length : Int) then (if (!(((rd_T45 x0 x5).f0) == ((rd_T45 x1 x5).f0)) || (!(((rd_T45 x0 x5).f1) == ((rd_T45 x1 x5).f1)) || (!(((rd_T45 x0 x5).f2) == ((rd_T45 x1 x5).f2)) || (!(((rd_T45 x0 x5).f3) == ((rd_T45 x1 x5).f3)) || (!(((rd_T45 x0 x5).f4) == ((rd_T45 x1 x5).f4)) || (!(((rd_T45 x0 x5).f5) == ((rd_T45 x1 x5).f5)) || (!(((rd_T45 x0 x5).f6) == ((rd_T45 x1 x5).f6))))))))) = true then (some false) else (mullionlaw05_same.l0 k x0 x1 (wrap64 (x5 + 1)))) else (none)) else (none)) else (some true)
def mullionlaw05_same.f (k : Nat) (l0 : List (S45)) (l1 : List (S45)) : Option (Bool) := if (l0.length : Int) = (l1.length : Int) then (mullionlaw05_same.l0 k l0 l1 0) else (some false)
theorem mullionlaw05_same.mono_l : ∀ k, (∀ y0 y1 y2, LeO (mullionlaw05_same.l0 k y0 y1 y2) (mullionlaw05_same.l0 (k + 1) y0 y1 y2))
  | 0 => fun _ _ _ r h => by simp [mullionlaw05_same.l0] at h
  | k + 1 => by
    have ih0 := mullionlaw05_same.mono_l k
    · intro y0 y1 y2
      unfold mullionlaw05_same.l0
      repeat' first
      | (with_reducible exact ih0 _ _ _)
      | (with_reducible exact LeO.refl _)
      | (with_reducible exact LeO.none _)
      | (with_reducible refine LeO.ite ?_ ?_)
      | (with_reducible refine LeO.bind ?_ (fun _ => ?_))
      | exact ih0 _ _ _
      | exact LeO.none _
      | refine LeO.ite ?_ ?_
      | refine LeO.bind ?_ (fun _ => ?_)
theorem mullionlaw05_same.mono : ∀ a0 a1 k, LeO (mullionlaw05_same.f k a0 a1) (mullionlaw05_same.f (k + 1) a0 a1) := by
  intro a0 a1 k
  have ih0 := mullionlaw05_same.mono_l k
  unfold mullionlaw05_same.f
  repeat' first
      | (with_reducible exact ih0 _ _ _)
      | (with_reducible exact LeO.refl _)
      | (with_reducible exact LeO.none _)
      | (with_reducible refine LeO.ite ?_ ?_)
      | (with_reducible refine LeO.bind ?_ (fun _ => ?_))
      | exact ih0 _ _ _
      | exact LeO.none _
      | refine LeO.ite ?_ ?_
      | refine LeO.bind ?_ (fun _ => ?_)
set_option maxHeartbeats 8000000 in
set_option maxRecDepth 100000 in
theorem mullionlaw05_same.calls (k : Nat) (A0 : Option Addr) (c0 : Nat) (l0 : List (S45)) (A1 : Option Addr) (c1 : Nat) (l1 : List (S45)) (r : Bool) (w : World) (hr0 : Kd.C k45 w A0 l0.length l0) (hc0 : l0.length ≤ c0) (hr1 : Kd.C k45 w A1 l1.length l1) (hc1 : l1.length ≤ c1) (h : mullionlaw05_same.f k l0 l1 = some r) :
    Calls Tryd.prog 13 #[.slice A0 l0.length c0, .slice A1 l1.length c1] w fun e w' => e = .returned (.bool r) ∧ Drawn0 w w' := by
  have hu45 := Tryd.underlying45
  have HR0 := Aside0.mk hr0
  have HC0 := Aside0.mk hc0
  clear hr0 hc0
  have HR1 := Aside0.mk hr1
  have HC1 := Aside0.mk hc1
  clear hr1 hc1
  have H : (if (l0.length : Int) = (l1.length : Int) then (mullionlaw05_same.l0 k l0 l1 0) else (some false)) = some r := h
  clear h
  by_cases c3 : (l0.length : Int) = (l1.length : Int)
  · rw [if_pos c3] at H
    have c3b0 : ((l0.length : Int) == (l1.length : Int)) = true := beq_iff_eq.mpr c3
    have c3b1 : ((l0.length : Int) != (l1.length : Int)) = false := bne_eq_false_iff_eq.mpr c3
    have c3b2 : (l0.length == l1.length) = true := by first | simpa using c3 | (simp at c3 ⊢; omega)
    clear c3
    have H' := Aside0.mk H
    clear H
    go_enter Tryd.func13, Tryd.ntmps13
    go_wp2
    repeat (go_quiet (fail); try go_wp2)
    go_loopg [5] k (fun kq v5 w' => ∃ (x5_1 : Int), v5 = .int .i64 x5_1 ∧ Aside0 (mullionlaw05_same.l0 kq l0 l1 x5_1 = some r) ∧ Aside0 (kq ≤ k) ∧ Drawn0 w w')
    case atStart => exact ⟨(0), (by first | rfl | (simp; done) | (simp [*]; done)), H', ⟨Nat.le_refl _⟩, by repeat (first | exact Drawn0.refl _ | apply Drawn0.step)⟩
    case round =>
      clear H'
      try clear c1
      try clear p2
      try clear c3
      try clear c3b0
      try clear c3b1
      try clear c3b2
      obtain ⟨x5_1, rfl, HA, HK1, ⟨m1, rfl⟩⟩ := hrel
      cases gk with
      | zero => exact absurd HA.out (by simp [mullionlaw05_same.l0])
      | succ k1 =>
        have H := HA.out
        clear HA
        simp only [mullionlaw05_same.l0] at H
        by_cases c4 : x5_1 < (l0.length : Int)
        · rw [if_pos c4] at H
          have c4b0 : decide (x5_1 < (l0.length : Int)) = true := decide_eq_true c4
          clear c4
          by_cases c5 : 0 ≤ x5_1
          · rw [if_pos c5] at H
            have c5b0 : decide (0 ≤ x5_1) = true := decide_eq_true c5
            clear c5
            by_cases c6 : x5_1 < (l1.length : Int)
            · rw [if_pos c6] at H
              have c6b0 : decide (x5_1 < (l1.length : Int)) = true := decide_eq_true c6
              clear c6
              by_cases c7 : (!(((rd_T45 l0 x5_1).f0) == ((rd_T45 l1 x5_1).f0)) || (!(((rd_T45 l0 x5_1).f1) == ((rd_T45 l1 x5_1).f1)) || (!(((rd_T45 l0 x5_1).f2) == ((rd_T45 l1 x5_1).f2)) || (!(((rd_T45 l0 x5_1).f3) == ((rd_T45 l1 x5_1).f3)) || (!(((rd_T45 l0 x5_1).f4) == ((rd_T45 l1 x5_1).f4)) || (!(((rd_T45 l0 x5_1).f5) == ((rd_T45 l1 x5_1).f5)) || (!(((rd_T45 l0 x5_1).f6) == ((rd_T45 l1 x5_1).f6))))))))) = true
              · rw [if_pos c7] at H
                have c7b0 : (!(((rd_T45 l0 x5_1).f0) == ((rd_T45 l1 x5_1).f0)) || (!(((rd_T45 l0 x5_1).f1) == ((rd_T45 l1 x5_1).f1)) || (!(((rd_T45 l0 x5_1).f2) == ((rd_T45 l1 x5_1).f2)) || (!(((rd_T45 l0 x5_1).f3) == ((rd_T45 l1 x5_1).f3)) || (!(((rd_T45 l0 x5_1).f4) == ((rd_T45 l1 x5_1).f4)) || (!(((rd_T45 l0 x5_1).f5) == ((rd_T45 l1 x5_1).f5)) || (!(((rd_T45 l0 x5_1).f6) == ((rd_T45 l1 x5_1).f6))))))))) = true := c7
                clear c7
                obtain rfl := Option.some.inj H
                have p215 : 0 ≤ (x5_1 : Int) := of_decide_eq_true (by first | (with_reducible assumption) | assumption)
                have q215 : x5_1 < (l0.length : Int) := of_decide_eq_true (by first | (with_reducible assumption) | assumption)
                obtain ⟨ad215, e215, hx215_0, hx215_1, hx215_2, hx215_3, hx215_4, hx215_5, hx215_6⟩ := at_T45 HR0.out x5_1 p215 q215
                cases e215
                replace p215 := eq_true p215
                replace q215 := eq_true q215
                have p216 : 0 ≤ (x5_1 : Int) := of_decide_eq_true (by first | (with_reducible assumption) | assumption)
                have q216 : x5_1 < (l1.length : Int) := of_decide_eq_true (by first | (with_reducible assumption) | assumption)
                obtain ⟨ad216, e216, hx216_0, hx216_1, hx216_2, hx216_3, hx216_4, hx216_5, hx216_6⟩ := at_T45 HR1.out x5_1 p216 q216
                cases e216
                replace p216 := eq_true p216
                replace q216 := eq_true q216
                go_wp2
                repeat (go_quiet (fail); try go_wp2)
                go_ret
                exact ⟨by first | rfl | (simp; done) | (simp [*]; done), by repeat (first | exact Drawn0.refl _ | apply Drawn0.step)⟩
              · rw [if_neg c7] at H
                have c7b0 : (!(((rd_T45 l0 x5_1).f0) == ((rd_T45 l1 x5_1).f0)) || (!(((rd_T45 l0 x5_1).f1) == ((rd_T45 l1 x5_1).f1)) || (!(((rd_T45 l0 x5_1).f2) == ((rd_T45 l1 x5_1).f2)) || (!(((rd_T45 l0 x5_1).f3) == ((rd_T45 l1 x5_1).f3)) || (!(((rd_T45 l0 x5_1).f4) == ((rd_T45 l1 x5_1).f4)) || (!(((rd_T45 l0 x5_1).f5) == ((rd_T45 l1 x5_1).f5)) || (!(((rd_T45 l0 x5_1).f6) == ((rd_T45 l1 x5_1).f6))))))))) = false := by simpa using c7
                clear c7
                have H' := Aside0.mk H
                clear H
                have p215 : 0 ≤ (x5_1 : Int) := of_decide_eq_true (by first | (with_reducible assumption) | assumption)
                have q215 : x5_1 < (l0.length : Int) := of_decide_eq_true (by first | (with_reducible assumption) | assumption)
                obtain ⟨ad215, e215, hx215_0, hx215_1, hx215_2, hx215_3, hx215_4, hx215_5, hx215_6⟩ := at_T45 HR0.out x5_1 p215 q215
                cases e215
                replace p215 := eq_true p215
                replace q215 := eq_true q215
                have p216 : 0 ≤ (x5_1 : Int) := of_decide_eq_true (by first | (with_reducible assumption) | assumption)
                have q216 : x5_1 < (l1.length : Int) := of_decide_eq_true (by first | (with_reducible assumption) | assumption)
                obtain ⟨ad216, e216, hx216_0, hx216_1, hx216_2, hx216_3, hx216_4, hx216_5, hx216_6⟩ := at_T45 HR1.out x5_1 p216 q216
                cases e216
                replace p216 := eq_true p216
                replace q216 := eq_true q216
                go_wp2
                repeat (go_quiet (fail); try go_wp2)
                go_roundg k1
                case measure => have := HK1.out; omega
                case rel => exact ⟨(wrap64 (x5_1 + 1)), (by first | rfl | (simp; done) | (simp [*]; done)), H', ⟨by have := HK1.out; omega⟩, by repeat (first | exact Drawn0.refl _ | apply Drawn0.step)⟩
            · rw [if_neg c6] at H
              exact absurd H (by simp)
          · rw [if_neg c5] at H
            exact absurd H (by simp)
        · rw [if_neg c4] at H
          have c4b0 : decide (x5_1 < (l0.length : Int)) = false := decide_eq_false c4
          clear c4
          obtain rfl := Option.some.inj H
          go_wp2
          repeat (go_quiet (fail); try go_wp2)
          go_ret
          exact ⟨by first | rfl | (simp; done) | (simp [*]; done), by repeat (first | exact Drawn0.refl _ | apply Drawn0.step)⟩
  · rw [if_neg c3] at H
    have c3b0 : ((l0.length : Int) == (l1.length : Int)) = false := beq_eq_false_iff_ne.mpr c3
    have c3b1 : ((l0.length : Int) != (l1.length : Int)) = true := bne_iff_ne.mpr c3
    have c3b2 : (l0.length == l1.length) = false := by first | simpa using c3 | (simp at c3 ⊢; omega)
    obtain rfl := Option.some.inj H
    go_enter Tryd.func13, Tryd.ntmps13
    go_wp2
    repeat (go_quiet (fail); try go_wp2)
    go_ret
    exact ⟨by first | rfl | (simp; done) | (simp [*]; done), by repeat (first | exact Drawn0.refl _ | apply Drawn0.step)⟩
def mullionlaw05_sure.f (k : Nat)  : Option (Bool) := (some (([(⟨0, 1, 0, 0, 80, 24, 1⟩ : S45)] : List (S45)) : List (S45))).bind fun y217 => ((plan_Text.f y217).bind fun bt220 => ((plan_Parse.f (⟨#[98, 50, 53, 101, 44, 56, 48, 120, 50, 52, 44, 48, 44, 48, 44, 49]⟩ : ByteArray)).bind fun bt222 => (if bt220.1.toList = ([98, 50, 53, 101, 44, 56, 48, 120, 50, 52, 44, 48, 44, 48, 44, 49] : List UInt8) then (if bt220.2 = 0 then ((mullionlaw05_same.f k bt222.1 y217).bind fun t226 => (if t226 = true then (some (bt222.2 == 0)) else (some false))) else (some false)) else (some false))))
theorem mullionlaw05_sure.mono : ∀ k, LeO (mullionlaw05_sure.f k ) (mullionlaw05_sure.f (k + 1) ) := by
  intro  k
  unfold mullionlaw05_sure.f
  repeat' first
      | (with_reducible exact mullionlaw05_same.mono _ _ _)
      | (with_reducible exact LeO.refl _)
      | (with_reducible exact LeO.none _)
      | (with_reducible refine LeO.ite ?_ ?_)
      | (with_reducible refine LeO.bind ?_ (fun _ => ?_))
      | exact mullionlaw05_same.mono _ _ _
      | exact LeO.none _
      | refine LeO.ite ?_ ?_
      | refine LeO.bind ?_ (fun _ => ?_)
set_option maxHeartbeats 8000000 in
set_option maxRecDepth 100000 in
theorem mullionlaw05_sure.calls (k : Nat)  (r : Bool) (w : World) (HG : Aside0 (Glb w)) (h : mullionlaw05_sure.f k  = some r) :
    Calls Tryd.prog 14 #[] w fun e w' => e = .returned (.bool r) ∧ Below w.heap.size w w' := by
  have hu45 := Tryd.underlying45
  have HB := Aside0.mk (Below.refl w.heap.size w)
  have H : ((some (([(⟨0, 1, 0, 0, 80, 24, 1⟩ : S45)] : List (S45)) : List (S45))).bind fun y217 => ((plan_Text.f y217).bind fun bt220 => ((plan_Parse.f (⟨#[98, 50, 53, 101, 44, 56, 48, 120, 50, 52, 44, 48, 44, 48, 44, 49]⟩ : ByteArray)).bind fun bt222 => (if bt220.1.toList = ([98, 50, 53, 101, 44, 56, 48, 120, 50, 52, 44, 48, 44, 48, 44, 49] : List UInt8) then (if bt220.2 = 0 then ((mullionlaw05_same.f k bt222.1 y217).bind fun t226 => (if t226 = true then (some (bt222.2 == 0)) else (some false))) else (some false)) else (some false))))) = some r := h
  clear h
  obtain ⟨y217, hy217⟩ : ∃ y_ : List (S45), y_ = (([(⟨0, 1, 0, 0, 80, 24, 1⟩ : S45)] : List (S45))) := ⟨_, rfl⟩
  replace H : ((plan_Text.f y217).bind fun bt220 => ((plan_Parse.f (⟨#[98, 50, 53, 101, 44, 56, 48, 120, 50, 52, 44, 48, 44, 48, 44, 49]⟩ : ByteArray)).bind fun bt222 => (if bt220.1.toList = ([98, 50, 53, 101, 44, 56, 48, 120, 50, 52, 44, 48, 44, 48, 44, 49] : List UInt8) then (if bt220.2 = 0 then ((mullionlaw05_same.f k bt222.1 y217).bind fun t226 => (if t226 = true then (some (bt222.2 == 0)) else (some false))) else (some false)) else (some false)))) = some r := by first | (rw [hy217]; with_reducible exact H) | (have H2_ := (Option.bind_some _ _).symm.trans H; rw [hy217]; with_reducible exact H2_) | (have H2_ := (Option.bind_some _ _).symm.trans H; with_reducible exact H2_) | with_reducible exact H | (rw [hy217]; exact H) | exact H
  have Ny217 := Aside0.mk hy217
  clear hy217
  replace H := Option.bind_eq_some_iff.mp H
  obtain ⟨⟨t220, t221⟩, A10, H⟩ := H
  replace H : ((plan_Parse.f (⟨#[98, 50, 53, 101, 44, 56, 48, 120, 50, 52, 44, 48, 44, 48, 44, 49]⟩ : ByteArray)).bind fun bt222 => (if t220.toList = ([98, 50, 53, 101, 44, 56, 48, 120, 50, 52, 44, 48, 44, 48, 44, 49] : List UInt8) then (if t221 = 0 then ((mullionlaw05_same.f k bt222.1 y217).bind fun t226 => (if t226 = true then (some (bt222.2 == 0)) else (some false))) else (some false)) else (some false))) = some r := H
  have A1 := Aside0.mk A10
  clear A10
  replace H := Option.bind_eq_some_iff.mp H
  obtain ⟨⟨t222, t223⟩, A20, H⟩ := H
  replace H : (if t220.toList = ([98, 50, 53, 101, 44, 56, 48, 120, 50, 52, 44, 48, 44, 48, 44, 49] : List UInt8) then (if t221 = 0 then ((mullionlaw05_same.f k t222 y217).bind fun t226 => (if t226 = true then (some (t223 == 0)) else (some false))) else (some false)) else (some false)) = some r := H
  have A2 := Aside0.mk A20
  clear A20
  by_cases c3 : t220.toList = ([98, 50, 53, 101, 44, 56, 48, 120, 50, 52, 44, 48, 44, 48, 44, 49] : List UInt8)
  · rw [if_pos c3] at H
    have c3b0 : (t220.toList == ([98, 50, 53, 101, 44, 56, 48, 120, 50, 52, 44, 48, 44, 48, 44, 49] : List UInt8)) = true := beq_iff_eq.mpr c3
    have c3b1 : (t220.toList != ([98, 50, 53, 101, 44, 56, 48, 120, 50, 52, 44, 48, 44, 48, 44, 49] : List UInt8)) = false := bne_eq_false_iff_eq.mpr c3
    clear c3
    by_cases c4 : t221 = 0
    · rw [if_pos c4] at H
      have c4b0 : (t221 == 0) = true := beq_iff_eq.mpr c4
      have c4b1 : (t221 != 0) = false := bne_eq_false_iff_eq.mpr c4
      clear c4
      replace H := Option.bind_eq_some_iff.mp H
      obtain ⟨t226, A50, H⟩ := H
      replace H : (if t226 = true then (some (t223 == 0)) else (some false)) = some r := H
      have A5 := Aside0.mk A50
      clear A50
      by_cases c6 : t226 = true
      · subst c6
        have H1 : (some (t223 == 0)) = some r := by rw [if_pos rfl] at H; exact H
        clear H
        have H := H1
        clear H1
        obtain rfl := Option.some.inj H
        go_enter Tryd.func14, Tryd.ntmps14
        go_wp2_with (first | ((with_reducible refine gate_dst (N := 7) rfl ?_); refine Kd.R_lit k45 _ 45 ?hg (N := 7) ?hd (xs := ([(⟨0, 1, 0, 0, 80, 24, 1⟩ : S45)] : List (S45))) (inner := [.int .i64 0, .int .i64 1, .int .i64 0, .int .i64 0, .int .i64 80, .int .i64 24, .int .i64 1]) (ok := fun _ => True) (okp := fun _ => True) ?hr ?hp (fun _ hk => hk) trivial (Below.refl _ _) (Nat.le_refl _) (by simp) ?_; (case hd => rfl); (case hg => rfl); (case hr => first | (go_simp; done) | (go_simp; rfl)); (case hp => exact (Reps.c7 (show Kd.M k45 _ _ _ (⟨0, 1, 0, 0, 80, 24, 1⟩ : S45) [.int .i64 0, .int .i64 1, .int .i64 0, .int .i64 0, .int .i64 80, .int .i64 24, .int .i64 1] from (k45_mkM _ _ _ (⟨0, 1, 0, 0, 80, 24, 1⟩ : S45) )) (Reps.none _ _))); intro v218 w7 ho8 hb hg_ hnew_; clear hg_ hnew_; (first | rw [← Ny217.out] at ho8 | (simp only [Int.reduceToNat] at ho8; rw [← Ny217.out] at ho8)); have n0_ := Aside0.mk (Kd.R_lower ho8 (below_size (by repeat (first | (with_reducible first | exact HB.out | apply below_alloc | apply pw_below_drewN | apply below_drew1) | exact HB.out)))); have n1_ := Aside0.mk (below_step (by repeat (first | (with_reducible first | exact HB.out | apply below_alloc | apply pw_below_drewN | apply below_drew1) | exact HB.out)) hb); clear HB; have HO219 := n0_; have HB := n1_; clear n0_ n1_; clear hb ho8; obtain ⟨Ao9, co9, eo9⟩ := Kd.R_slice HO219.out; subst eo9) | ((with_reducible refine gate_callee (f := 11) rfl ?_); refine goesL_ (some 10) rfl rfl Tryd.func11 (by kernel_rfl) rfl #[.slice Ao9 y217.length co9] rfl (by (try simp only [List.map_toArray, List.map_cons, List.map_nil]); first | done | rfl | (simp only [List.length_drop, List.length_take]; rfl)) ?_; (with_reducible refine (plan_Text.calls _ _ y217 t220 t221 _ (by exact Aside0.mk (Glb.below HG.out (by repeat (first | (with_reducible first | exact HB.out | apply below_alloc | apply pw_below_drewN | apply below_drew1) | exact HB.out)))) ?side1 ?side2 A1.out).mono ?_); (case side1 => repeat (first | exact (Kd.R_reads' HO219.out).2.2 | (with_reducible refine Kd.C_alloc ?_ _) | (with_reducible refine Kd.C_drewN ?_ _) | (with_reducible refine Kd.C_drew ?_))); (case side2 => exact (Kd.R_reads' HO219.out).2.1); rintro e w10 ⟨rfl, hb⟩; refine ⟨_, rfl, ?_⟩; have n0_ := Aside0.mk (Kd.R_below (by (with_reducible repeat (first | apply Kd.R_alloc | apply Kd.R_drewN | apply Kd.R_drew)); exact HO219.out) hb); have n1_ := Aside0.mk (below_step (by repeat (first | (with_reducible first | exact HB.out | apply below_alloc | apply pw_below_drewN | apply below_drew1) | exact HB.out)) hb); clear HO219; clear HB; have HO219 := n0_; have HB := n1_; clear n0_ n1_; (try clear hb); (try clear hb2); (try clear hk); (try clear hi)) | ((with_reducible refine gate_callee (f := 15) rfl ?_); refine goesL_ (some 14) rfl rfl Tryd.func15 (by kernel_rfl) rfl #[.string (⟨#[98, 50, 53, 101, 44, 56, 48, 120, 50, 52, 44, 48, 44, 48, 44, 49]⟩ : ByteArray)] rfl (by (try simp only [List.map_toArray, List.map_cons, List.map_nil]); first | done | rfl | (simp only [List.length_drop, List.length_take]; rfl)) ?_; (with_reducible refine (plan_Parse.calls (⟨#[98, 50, 53, 101, 44, 56, 48, 120, 50, 52, 44, 48, 44, 48, 44, 49]⟩ : ByteArray) t222 t223 _ (by exact Aside0.mk (Glb.below HG.out (by repeat (first | (with_reducible first | exact HB.out | apply below_alloc | apply pw_below_drewN | apply below_drew1) | exact HB.out)))) A2.out).mono ?_); rintro e w11 ⟨v224, rfl, ho0, hb⟩; refine ⟨_, rfl, ?_⟩; have n0_ := Aside0.mk (Kd.R_elder' (by (with_reducible repeat (first | apply Kd.R_alloc | apply Kd.R_drewN | apply Kd.R_drew)); exact HO219.out) (Kd.R_base ho0) hb); have n1_ := Aside0.mk (Kd.R_lower (Kd.R_new' ho0 (Kd.R_lt (by (with_reducible repeat (first | apply Kd.R_alloc | apply Kd.R_drewN | apply Kd.R_drew)); exact HO219.out))) (below_size (by repeat (first | (with_reducible first | exact HB.out | apply below_alloc | apply pw_below_drewN | apply below_drew1) | exact HB.out)))); have n2_ := Aside0.mk (below_step (by repeat (first | (with_reducible first | exact HB.out | apply below_alloc | apply pw_below_drewN | apply below_drew1) | exact HB.out)) hb); clear HO219; clear HB; have HO219 := n0_; have HO225 := n1_; have HB := n2_; clear n0_ n1_ n2_; (try clear hb); (try clear hb2); (try clear hk); (try clear hi); (try clear ho0); obtain ⟨Ao12, co12, eo12⟩ := Kd.R_slice HO225.out; subst eo12) | (go_at_call 13; (with_reducible refine (mullionlaw05_same.calls k _ _ t222 _ _ y217 true _ ?side1 ?side2 ?side3 ?side4 A5.out).mono ?_); (case side1 => repeat (first | exact (Kd.R_reads' HO225.out).2.2 | (with_reducible refine Kd.C_alloc ?_ _) | (with_reducible refine Kd.C_drewN ?_ _) | (with_reducible refine Kd.C_drew ?_))); (case side2 => exact (Kd.R_reads' HO225.out).2.1); (case side3 => repeat (first | exact (Kd.R_reads' HO219.out).2.2 | (with_reducible refine Kd.C_alloc ?_ _) | (with_reducible refine Kd.C_drewN ?_ _) | (with_reducible refine Kd.C_drew ?_))); (case side4 => exact (Kd.R_reads' HO219.out).2.1); rintro e w' ⟨rfl, ⟨nd, rfl⟩⟩))
        go_ret
        exact ⟨by first | rfl | (simp [errW_none, errW_some] <;> rfl) | (simp [*, errW_none, errW_some] <;> rfl), by repeat (first | (with_reducible first | exact HB.out | apply below_alloc | apply pw_below_drewN | apply below_drew1) | exact HB.out)⟩
      · replace c6 := Bool.eq_false_iff.mpr c6
        subst c6
        have H1 : (some false) = some r := by rw [if_neg (show ¬ (false = true) by decide)] at H; exact H
        clear H
        have H := H1
        clear H1
        obtain rfl := Option.some.inj H
        go_enter Tryd.func14, Tryd.ntmps14
        go_wp2_with (first | ((with_reducible refine gate_dst (N := 7) rfl ?_); refine Kd.R_lit k45 _ 45 ?hg (N := 7) ?hd (xs := ([(⟨0, 1, 0, 0, 80, 24, 1⟩ : S45)] : List (S45))) (inner := [.int .i64 0, .int .i64 1, .int .i64 0, .int .i64 0, .int .i64 80, .int .i64 24, .int .i64 1]) (ok := fun _ => True) (okp := fun _ => True) ?hr ?hp (fun _ hk => hk) trivial (Below.refl _ _) (Nat.le_refl _) (by simp) ?_; (case hd => rfl); (case hg => rfl); (case hr => first | (go_simp; done) | (go_simp; rfl)); (case hp => exact (Reps.c7 (show Kd.M k45 _ _ _ (⟨0, 1, 0, 0, 80, 24, 1⟩ : S45) [.int .i64 0, .int .i64 1, .int .i64 0, .int .i64 0, .int .i64 80, .int .i64 24, .int .i64 1] from (k45_mkM _ _ _ (⟨0, 1, 0, 0, 80, 24, 1⟩ : S45) )) (Reps.none _ _))); intro v218 w13 ho14 hb hg_ hnew_; clear hg_ hnew_; (first | rw [← Ny217.out] at ho14 | (simp only [Int.reduceToNat] at ho14; rw [← Ny217.out] at ho14)); have n0_ := Aside0.mk (Kd.R_lower ho14 (below_size (by repeat (first | (with_reducible first | exact HB.out | apply below_alloc | apply pw_below_drewN | apply below_drew1) | exact HB.out)))); have n1_ := Aside0.mk (below_step (by repeat (first | (with_reducible first | exact HB.out | apply below_alloc | apply pw_below_drewN | apply below_drew1) | exact HB.out)) hb); clear HB; have HO219 := n0_; have HB := n1_; clear n0_ n1_; clear hb ho14; obtain ⟨Ao15, co15, eo15⟩ := Kd.R_slice HO219.out; subst eo15) | ((with_reducible refine gate_callee (f := 11) rfl ?_); refine goesL_ (some 10) rfl rfl Tryd.func11 (by kernel_rfl) rfl #[.slice Ao15 y217.length co15] rfl (by (try simp only [List.map_toArray, List.map_cons, List.map_nil]); first | done | rfl | (simp only [List.length_drop, List.length_take]; rfl)) ?_; (with_reducible refine (plan_Text.calls _ _ y217 t220 t221 _ (by exact Aside0.mk (Glb.below HG.out (by repeat (first | (with_reducible first | exact HB.out | apply below_alloc | apply pw_below_drewN | apply below_drew1) | exact HB.out)))) ?side1 ?side2 A1.out).mono ?_); (case side1 => repeat (first | exact (Kd.R_reads' HO219.out).2.2 | (with_reducible refine Kd.C_alloc ?_ _) | (with_reducible refine Kd.C_drewN ?_ _) | (with_reducible refine Kd.C_drew ?_))); (case side2 => exact (Kd.R_reads' HO219.out).2.1); rintro e w16 ⟨rfl, hb⟩; refine ⟨_, rfl, ?_⟩; have n0_ := Aside0.mk (Kd.R_below (by (with_reducible repeat (first | apply Kd.R_alloc | apply Kd.R_drewN | apply Kd.R_drew)); exact HO219.out) hb); have n1_ := Aside0.mk (below_step (by repeat (first | (with_reducible first | exact HB.out | apply below_alloc | apply pw_below_drewN | apply below_drew1) | exact HB.out)) hb); clear HO219; clear HB; have HO219 := n0_; have HB := n1_; clear n0_ n1_; (try clear hb); (try clear hb2); (try clear hk); (try clear hi)) | ((with_reducible refine gate_callee (f := 15) rfl ?_); refine goesL_ (some 14) rfl rfl Tryd.func15 (by kernel_rfl) rfl #[.string (⟨#[98, 50, 53, 101, 44, 56, 48, 120, 50, 52, 44, 48, 44, 48, 44, 49]⟩ : ByteArray)] rfl (by (try simp only [List.map_toArray, List.map_cons, List.map_nil]); first | done | rfl | (simp only [List.length_drop, List.length_take]; rfl)) ?_; (with_reducible refine (plan_Parse.calls (⟨#[98, 50, 53, 101, 44, 56, 48, 120, 50, 52, 44, 48, 44, 48, 44, 49]⟩ : ByteArray) t222 t223 _ (by exact Aside0.mk (Glb.below HG.out (by repeat (first | (with_reducible first | exact HB.out | apply below_alloc | apply pw_below_drewN | apply below_drew1) | exact HB.out)))) A2.out).mono ?_); rintro e w17 ⟨v224, rfl, ho0, hb⟩; refine ⟨_, rfl, ?_⟩; have n0_ := Aside0.mk (Kd.R_elder' (by (with_reducible repeat (first | apply Kd.R_alloc | apply Kd.R_drewN | apply Kd.R_drew)); exact HO219.out) (Kd.R_base ho0) hb); have n1_ := Aside0.mk (Kd.R_lower (Kd.R_new' ho0 (Kd.R_lt (by (with_reducible repeat (first | apply Kd.R_alloc | apply Kd.R_drewN | apply Kd.R_drew)); exact HO219.out))) (below_size (by repeat (first | (with_reducible first | exact HB.out | apply below_alloc | apply pw_below_drewN | apply below_drew1) | exact HB.out)))); have n2_ := Aside0.mk (below_step (by repeat (first | (with_reducible first | exact HB.out | apply below_alloc | apply pw_below_drewN | apply below_drew1) | exact HB.out)) hb); clear HO219; clear HB; have HO219 := n0_; have HO225 := n1_; have HB := n2_; clear n0_ n1_ n2_; (try clear hb); (try clear hb2); (try clear hk); (try clear hi); (try clear ho0); obtain ⟨Ao18, co18, eo18⟩ := Kd.R_slice HO225.out; subst eo18) | (go_at_call 13; (with_reducible refine (mullionlaw05_same.calls k _ _ t222 _ _ y217 false _ ?side1 ?side2 ?side3 ?side4 A5.out).mono ?_); (case side1 => repeat (first | exact (Kd.R_reads' HO225.out).2.2 | (with_reducible refine Kd.C_alloc ?_ _) | (with_reducible refine Kd.C_drewN ?_ _) | (with_reducible refine Kd.C_drew ?_))); (case side2 => exact (Kd.R_reads' HO225.out).2.1); (case side3 => repeat (first | exact (Kd.R_reads' HO219.out).2.2 | (with_reducible refine Kd.C_alloc ?_ _) | (with_reducible refine Kd.C_drewN ?_ _) | (with_reducible refine Kd.C_drew ?_))); (case side4 => exact (Kd.R_reads' HO219.out).2.1); rintro e w' ⟨rfl, ⟨nd, rfl⟩⟩))
        go_ret
        exact ⟨by first | rfl | (simp [errW_none, errW_some] <;> rfl) | (simp [*, errW_none, errW_some] <;> rfl), by repeat (first | (with_reducible first | exact HB.out | apply below_alloc | apply pw_below_drewN | apply below_drew1) | exact HB.out)⟩
    · rw [if_neg c4] at H
      have c4b0 : (t221 == 0) = false := beq_eq_false_iff_ne.mpr c4
      have c4b1 : (t221 != 0) = true := bne_iff_ne.mpr c4
      obtain rfl := Option.some.inj H
      go_enter Tryd.func14, Tryd.ntmps14
      go_wp2_with (first | ((with_reducible refine gate_dst (N := 7) rfl ?_); refine Kd.R_lit k45 _ 45 ?hg (N := 7) ?hd (xs := ([(⟨0, 1, 0, 0, 80, 24, 1⟩ : S45)] : List (S45))) (inner := [.int .i64 0, .int .i64 1, .int .i64 0, .int .i64 0, .int .i64 80, .int .i64 24, .int .i64 1]) (ok := fun _ => True) (okp := fun _ => True) ?hr ?hp (fun _ hk => hk) trivial (Below.refl _ _) (Nat.le_refl _) (by simp) ?_; (case hd => rfl); (case hg => rfl); (case hr => first | (go_simp; done) | (go_simp; rfl)); (case hp => exact (Reps.c7 (show Kd.M k45 _ _ _ (⟨0, 1, 0, 0, 80, 24, 1⟩ : S45) [.int .i64 0, .int .i64 1, .int .i64 0, .int .i64 0, .int .i64 80, .int .i64 24, .int .i64 1] from (k45_mkM _ _ _ (⟨0, 1, 0, 0, 80, 24, 1⟩ : S45) )) (Reps.none _ _))); intro v218 w19 ho20 hb hg_ hnew_; clear hg_ hnew_; (first | rw [← Ny217.out] at ho20 | (simp only [Int.reduceToNat] at ho20; rw [← Ny217.out] at ho20)); have n0_ := Aside0.mk (Kd.R_lower ho20 (below_size (by repeat (first | (with_reducible first | exact HB.out | apply below_alloc | apply pw_below_drewN | apply below_drew1) | exact HB.out)))); have n1_ := Aside0.mk (below_step (by repeat (first | (with_reducible first | exact HB.out | apply below_alloc | apply pw_below_drewN | apply below_drew1) | exact HB.out)) hb); clear HB; have HO219 := n0_; have HB := n1_; clear n0_ n1_; clear hb ho20; obtain ⟨Ao21, co21, eo21⟩ := Kd.R_slice HO219.out; subst eo21) | ((with_reducible refine gate_callee (f := 11) rfl ?_); refine goesL_ (some 10) rfl rfl Tryd.func11 (by kernel_rfl) rfl #[.slice Ao21 y217.length co21] rfl (by (try simp only [List.map_toArray, List.map_cons, List.map_nil]); first | done | rfl | (simp only [List.length_drop, List.length_take]; rfl)) ?_; (with_reducible refine (plan_Text.calls _ _ y217 t220 t221 _ (by exact Aside0.mk (Glb.below HG.out (by repeat (first | (with_reducible first | exact HB.out | apply below_alloc | apply pw_below_drewN | apply below_drew1) | exact HB.out)))) ?side1 ?side2 A1.out).mono ?_); (case side1 => repeat (first | exact (Kd.R_reads' HO219.out).2.2 | (with_reducible refine Kd.C_alloc ?_ _) | (with_reducible refine Kd.C_drewN ?_ _) | (with_reducible refine Kd.C_drew ?_))); (case side2 => exact (Kd.R_reads' HO219.out).2.1); rintro e w22 ⟨rfl, hb⟩; refine ⟨_, rfl, ?_⟩; have n0_ := Aside0.mk (Kd.R_below (by (with_reducible repeat (first | apply Kd.R_alloc | apply Kd.R_drewN | apply Kd.R_drew)); exact HO219.out) hb); have n1_ := Aside0.mk (below_step (by repeat (first | (with_reducible first | exact HB.out | apply below_alloc | apply pw_below_drewN | apply below_drew1) | exact HB.out)) hb); clear HO219; clear HB; have HO219 := n0_; have HB := n1_; clear n0_ n1_; (try clear hb); (try clear hb2); (try clear hk); (try clear hi)) | ((with_reducible refine gate_callee (f := 15) rfl ?_); refine goesL_ (some 14) rfl rfl Tryd.func15 (by kernel_rfl) rfl #[.string (⟨#[98, 50, 53, 101, 44, 56, 48, 120, 50, 52, 44, 48, 44, 48, 44, 49]⟩ : ByteArray)] rfl (by (try simp only [List.map_toArray, List.map_cons, List.map_nil]); first | done | rfl | (simp only [List.length_drop, List.length_take]; rfl)) ?_; (with_reducible refine (plan_Parse.calls (⟨#[98, 50, 53, 101, 44, 56, 48, 120, 50, 52, 44, 48, 44, 48, 44, 49]⟩ : ByteArray) t222 t223 _ (by exact Aside0.mk (Glb.below HG.out (by repeat (first | (with_reducible first | exact HB.out | apply below_alloc | apply pw_below_drewN | apply below_drew1) | exact HB.out)))) A2.out).mono ?_); rintro e w23 ⟨v224, rfl, ho0, hb⟩; refine ⟨_, rfl, ?_⟩; have n0_ := Aside0.mk (Kd.R_elder' (by (with_reducible repeat (first | apply Kd.R_alloc | apply Kd.R_drewN | apply Kd.R_drew)); exact HO219.out) (Kd.R_base ho0) hb); have n1_ := Aside0.mk (Kd.R_lower (Kd.R_new' ho0 (Kd.R_lt (by (with_reducible repeat (first | apply Kd.R_alloc | apply Kd.R_drewN | apply Kd.R_drew)); exact HO219.out))) (below_size (by repeat (first | (with_reducible first | exact HB.out | apply below_alloc | apply pw_below_drewN | apply below_drew1) | exact HB.out)))); have n2_ := Aside0.mk (below_step (by repeat (first | (with_reducible first | exact HB.out | apply below_alloc | apply pw_below_drewN | apply below_drew1) | exact HB.out)) hb); clear HO219; clear HB; have HO219 := n0_; have HO225 := n1_; have HB := n2_; clear n0_ n1_ n2_; (try clear hb); (try clear hb2); (try clear hk); (try clear hi); (try clear ho0)))
      go_ret
      exact ⟨by first | rfl | (simp [errW_none, errW_some] <;> rfl) | (simp [*, errW_none, errW_some] <;> rfl), by repeat (first | (with_reducible first | exact HB.out | apply below_alloc | apply pw_below_drewN | apply below_drew1) | exact HB.out)⟩
  · rw [if_neg c3] at H
    have c3b0 : (t220.toList == ([98, 50, 53, 101, 44, 56, 48, 120, 50, 52, 44, 48, 44, 48, 44, 49] : List UInt8)) = false := beq_eq_false_iff_ne.mpr c3
    have c3b1 : (t220.toList != ([98, 50, 53, 101, 44, 56, 48, 120, 50, 52, 44, 48, 44, 48, 44, 49] : List UInt8)) = true := bne_iff_ne.mpr c3
    obtain rfl := Option.some.inj H
    go_enter Tryd.func14, Tryd.ntmps14
    go_wp2_with (first | ((with_reducible refine gate_dst (N := 7) rfl ?_); refine Kd.R_lit k45 _ 45 ?hg (N := 7) ?hd (xs := ([(⟨0, 1, 0, 0, 80, 24, 1⟩ : S45)] : List (S45))) (inner := [.int .i64 0, .int .i64 1, .int .i64 0, .int .i64 0, .int .i64 80, .int .i64 24, .int .i64 1]) (ok := fun _ => True) (okp := fun _ => True) ?hr ?hp (fun _ hk => hk) trivial (Below.refl _ _) (Nat.le_refl _) (by simp) ?_; (case hd => rfl); (case hg => rfl); (case hr => first | (go_simp; done) | (go_simp; rfl)); (case hp => exact (Reps.c7 (show Kd.M k45 _ _ _ (⟨0, 1, 0, 0, 80, 24, 1⟩ : S45) [.int .i64 0, .int .i64 1, .int .i64 0, .int .i64 0, .int .i64 80, .int .i64 24, .int .i64 1] from (k45_mkM _ _ _ (⟨0, 1, 0, 0, 80, 24, 1⟩ : S45) )) (Reps.none _ _))); intro v218 w24 ho25 hb hg_ hnew_; clear hg_ hnew_; (first | rw [← Ny217.out] at ho25 | (simp only [Int.reduceToNat] at ho25; rw [← Ny217.out] at ho25)); have n0_ := Aside0.mk (Kd.R_lower ho25 (below_size (by repeat (first | (with_reducible first | exact HB.out | apply below_alloc | apply pw_below_drewN | apply below_drew1) | exact HB.out)))); have n1_ := Aside0.mk (below_step (by repeat (first | (with_reducible first | exact HB.out | apply below_alloc | apply pw_below_drewN | apply below_drew1) | exact HB.out)) hb); clear HB; have HO219 := n0_; have HB := n1_; clear n0_ n1_; clear hb ho25; obtain ⟨Ao26, co26, eo26⟩ := Kd.R_slice HO219.out; subst eo26) | ((with_reducible refine gate_callee (f := 11) rfl ?_); refine goesL_ (some 10) rfl rfl Tryd.func11 (by kernel_rfl) rfl #[.slice Ao26 y217.length co26] rfl (by (try simp only [List.map_toArray, List.map_cons, List.map_nil]); first | done | rfl | (simp only [List.length_drop, List.length_take]; rfl)) ?_; (with_reducible refine (plan_Text.calls _ _ y217 t220 t221 _ (by exact Aside0.mk (Glb.below HG.out (by repeat (first | (with_reducible first | exact HB.out | apply below_alloc | apply pw_below_drewN | apply below_drew1) | exact HB.out)))) ?side1 ?side2 A1.out).mono ?_); (case side1 => repeat (first | exact (Kd.R_reads' HO219.out).2.2 | (with_reducible refine Kd.C_alloc ?_ _) | (with_reducible refine Kd.C_drewN ?_ _) | (with_reducible refine Kd.C_drew ?_))); (case side2 => exact (Kd.R_reads' HO219.out).2.1); rintro e w27 ⟨rfl, hb⟩; refine ⟨_, rfl, ?_⟩; have n0_ := Aside0.mk (Kd.R_below (by (with_reducible repeat (first | apply Kd.R_alloc | apply Kd.R_drewN | apply Kd.R_drew)); exact HO219.out) hb); have n1_ := Aside0.mk (below_step (by repeat (first | (with_reducible first | exact HB.out | apply below_alloc | apply pw_below_drewN | apply below_drew1) | exact HB.out)) hb); clear HO219; clear HB; have HO219 := n0_; have HB := n1_; clear n0_ n1_; (try clear hb); (try clear hb2); (try clear hk); (try clear hi)) | ((with_reducible refine gate_callee (f := 15) rfl ?_); refine goesL_ (some 14) rfl rfl Tryd.func15 (by kernel_rfl) rfl #[.string (⟨#[98, 50, 53, 101, 44, 56, 48, 120, 50, 52, 44, 48, 44, 48, 44, 49]⟩ : ByteArray)] rfl (by (try simp only [List.map_toArray, List.map_cons, List.map_nil]); first | done | rfl | (simp only [List.length_drop, List.length_take]; rfl)) ?_; (with_reducible refine (plan_Parse.calls (⟨#[98, 50, 53, 101, 44, 56, 48, 120, 50, 52, 44, 48, 44, 48, 44, 49]⟩ : ByteArray) t222 t223 _ (by exact Aside0.mk (Glb.below HG.out (by repeat (first | (with_reducible first | exact HB.out | apply below_alloc | apply pw_below_drewN | apply below_drew1) | exact HB.out)))) A2.out).mono ?_); rintro e w28 ⟨v224, rfl, ho0, hb⟩; refine ⟨_, rfl, ?_⟩; have n0_ := Aside0.mk (Kd.R_elder' (by (with_reducible repeat (first | apply Kd.R_alloc | apply Kd.R_drewN | apply Kd.R_drew)); exact HO219.out) (Kd.R_base ho0) hb); have n1_ := Aside0.mk (Kd.R_lower (Kd.R_new' ho0 (Kd.R_lt (by (with_reducible repeat (first | apply Kd.R_alloc | apply Kd.R_drewN | apply Kd.R_drew)); exact HO219.out))) (below_size (by repeat (first | (with_reducible first | exact HB.out | apply below_alloc | apply pw_below_drewN | apply below_drew1) | exact HB.out)))); have n2_ := Aside0.mk (below_step (by repeat (first | (with_reducible first | exact HB.out | apply below_alloc | apply pw_below_drewN | apply below_drew1) | exact HB.out)) hb); clear HO219; clear HB; have HO219 := n0_; have HO225 := n1_; have HB := n2_; clear n0_ n1_ n2_; (try clear hb); (try clear hb2); (try clear hk); (try clear hi); (try clear ho0)))
    go_ret
    exact ⟨by first | rfl | (simp [errW_none, errW_some] <;> rfl) | (simp [*, errW_none, errW_some] <;> rfl), by repeat (first | (with_reducible first | exact HB.out | apply below_alloc | apply pw_below_drewN | apply below_drew1) | exact HB.out)⟩
def mullionlaw05_PlanTexts.f (k : Nat) (l0 : List (S45)) : Option (Bool) := (some (([] : List (S45)) : List (S45))).bind fun y227 => (if y227.length + l0.length < 2513169434916 then ((some (y227 ++ l0 : List (S45))).bind fun y230 => ((plan_Text.f l0).bind fun bt233 => ((mullionref05_Text.f k y230).bind fun bt235 => (if bt233.1.toList = bt235.1.toList then (if bt233.2 = bt235.2 then ((mullionlaw05_same.f k l0 y230).bind fun t237 => (if t237 = true then ((mullionlaw05_sure.f k).bind fun t238 => (some t238)) else (some false))) else (some false)) else (some false))))) else (none))
theorem mullionlaw05_PlanTexts.mono : ∀ a0 k, LeO (mullionlaw05_PlanTexts.f k a0) (mullionlaw05_PlanTexts.f (k + 1) a0) := by
  intro a0 k
  unfold mullionlaw05_PlanTexts.f
  repeat' first
      | (with_reducible exact mullionlaw05_same.mono _ _ _)
      | (with_reducible exact mullionlaw05_sure.mono _)
      | (with_reducible exact mullionref05_Text.mono _ _)
      | (with_reducible exact LeO.refl _)
      | (with_reducible exact LeO.none _)
      | (with_reducible refine LeO.ite ?_ ?_)
      | (with_reducible refine LeO.bind ?_ (fun _ => ?_))
      | exact mullionlaw05_same.mono _ _ _
      | exact mullionlaw05_sure.mono _
      | exact mullionref05_Text.mono _ _
      | exact LeO.none _
      | refine LeO.ite ?_ ?_
      | refine LeO.bind ?_ (fun _ => ?_)
set_option maxHeartbeats 8000000 in
set_option maxRecDepth 100000 in
theorem mullionlaw05_PlanTexts.calls (k : Nat) (A0 : Option Addr) (c0 : Nat) (l0 : List (S45)) (r : Bool) (w : World) (HG : Aside0 (Glb w)) (hr0 : Kd.C k45 w A0 l0.length l0) (hc0 : l0.length ≤ c0) (h : mullionlaw05_PlanTexts.f k l0 = some r) :
    Calls Tryd.prog 3 #[.slice A0 l0.length c0] w fun e w' => e = .returned (.bool r) ∧ Below w.heap.size w w' := by
  have HR0 := Aside0.mk hr0
  have HC0 := Aside0.mk hc0
  clear hr0 hc0
  have HB := Aside0.mk (Below.refl w.heap.size w)
  have H : ((some (([] : List (S45)) : List (S45))).bind fun y227 => (if y227.length + l0.length < 2513169434916 then ((some (y227 ++ l0 : List (S45))).bind fun y230 => ((plan_Text.f l0).bind fun bt233 => ((mullionref05_Text.f k y230).bind fun bt235 => (if bt233.1.toList = bt235.1.toList then (if bt233.2 = bt235.2 then ((mullionlaw05_same.f k l0 y230).bind fun t237 => (if t237 = true then ((mullionlaw05_sure.f k).bind fun t238 => (some t238)) else (some false))) else (some false)) else (some false))))) else (none))) = some r := h
  clear h
  obtain ⟨y227, hy227⟩ : ∃ y_ : List (S45), y_ = (([] : List (S45))) := ⟨_, rfl⟩
  replace H : (if y227.length + l0.length < 2513169434916 then ((some (y227 ++ l0 : List (S45))).bind fun y230 => ((plan_Text.f l0).bind fun bt233 => ((mullionref05_Text.f k y230).bind fun bt235 => (if bt233.1.toList = bt235.1.toList then (if bt233.2 = bt235.2 then ((mullionlaw05_same.f k l0 y230).bind fun t237 => (if t237 = true then ((mullionlaw05_sure.f k).bind fun t238 => (some t238)) else (some false))) else (some false)) else (some false))))) else (none)) = some r := by first | (rw [hy227]; with_reducible exact H) | (have H2_ := (Option.bind_some _ _).symm.trans H; rw [hy227]; with_reducible exact H2_) | (have H2_ := (Option.bind_some _ _).symm.trans H; with_reducible exact H2_) | with_reducible exact H | (rw [hy227]; exact H) | exact H
  have Ny227 := Aside0.mk hy227
  clear hy227
  by_cases c2 : y227.length + l0.length < 2513169434916
  · rw [if_pos c2] at H
    have LMc2 := Aside0.mk c2
    clear c2
    obtain ⟨y230, hy230⟩ : ∃ y_ : List (S45), y_ = (y227 ++ l0) := ⟨_, rfl⟩
    replace H : ((plan_Text.f l0).bind fun bt233 => ((mullionref05_Text.f k y230).bind fun bt235 => (if bt233.1.toList = bt235.1.toList then (if bt233.2 = bt235.2 then ((mullionlaw05_same.f k l0 y230).bind fun t237 => (if t237 = true then ((mullionlaw05_sure.f k).bind fun t238 => (some t238)) else (some false))) else (some false)) else (some false)))) = some r := by first | (rw [hy230]; with_reducible exact H) | (have H2_ := (Option.bind_some _ _).symm.trans H; rw [hy230]; with_reducible exact H2_) | (have H2_ := (Option.bind_some _ _).symm.trans H; with_reducible exact H2_) | with_reducible exact H | (rw [hy230]; exact H) | exact H
    have Ny230 := Aside0.mk hy230
    clear hy230
    replace H := Option.bind_eq_some_iff.mp H
    obtain ⟨⟨t233, t234⟩, A30, H⟩ := H
    replace H : ((mullionref05_Text.f k y230).bind fun bt235 => (if t233.toList = bt235.1.toList then (if t234 = bt235.2 then ((mullionlaw05_same.f k l0 y230).bind fun t237 => (if t237 = true then ((mullionlaw05_sure.f k).bind fun t238 => (some t238)) else (some false))) else (some false)) else (some false))) = some r := H
    have A3 := Aside0.mk A30
    clear A30
    replace H := Option.bind_eq_some_iff.mp H
    obtain ⟨⟨t235, t236⟩, A40, H⟩ := H
    replace H : (if t233.toList = t235.toList then (if t234 = t236 then ((mullionlaw05_same.f k l0 y230).bind fun t237 => (if t237 = true then ((mullionlaw05_sure.f k).bind fun t238 => (some t238)) else (some false))) else (some false)) else (some false)) = some r := H
    have A4 := Aside0.mk A40
    clear A40
    by_cases c5 : t233.toList = t235.toList
    · rw [if_pos c5] at H
      have c5b0 : (t233.toList == t235.toList) = true := beq_iff_eq.mpr c5
      have c5b1 : (t233.toList != t235.toList) = false := bne_eq_false_iff_eq.mpr c5
      clear c5
      by_cases c6 : t234 = t236
      · rw [if_pos c6] at H
        have c6b0 : (t234 == t236) = true := beq_iff_eq.mpr c6
        have c6b1 : (t234 != t236) = false := bne_eq_false_iff_eq.mpr c6
        clear c6
        replace H := Option.bind_eq_some_iff.mp H
        obtain ⟨t237, A70, H⟩ := H
        replace H : (if t237 = true then ((mullionlaw05_sure.f k).bind fun t238 => (some t238)) else (some false)) = some r := H
        have A7 := Aside0.mk A70
        clear A70
        by_cases c8 : t237 = true
        · subst c8
          have H1 : ((mullionlaw05_sure.f k).bind fun t238 => (some t238)) = some r := by rw [if_pos rfl] at H; exact H
          clear H
          have H := H1
          clear H1
          replace H := Option.bind_eq_some_iff.mp H
          obtain ⟨t238, A90, H⟩ := H
          replace H : (some t238) = some r := H
          have A9 := Aside0.mk A90
          clear A90
          obtain rfl := Option.some.inj H
          go_enter Tryd.func3, Tryd.ntmps3
          go_wp2_with (first | ((with_reducible refine gate_dst (N := 8) rfl ?_); refine Kd.R_lit k45 _ 45 ?hg (N := 8) ?hd (xs := ([] : List (S45))) (inner := []) (ok := fun _ => True) (okp := fun _ => True) ?hr ?hp (fun _ hk => hk) trivial (Below.refl _ _) (Nat.le_refl _) (by simp) ?_; (case hd => rfl); (case hg => rfl); (case hr => first | (go_simp; done) | (go_simp; rfl)); (case hp => exact (Reps.none _ _)); intro v228 w10 ho11 hb hg_ hnew_; clear hg_ hnew_; (first | rw [← Ny227.out] at ho11 | (simp only [Int.reduceToNat] at ho11; rw [← Ny227.out] at ho11)); have n0_ := Aside0.mk (Kd.R_lower ho11 (below_size (by repeat (first | (with_reducible first | exact HB.out | apply below_alloc | apply pw_below_drewN | apply below_drew1) | exact HB.out)))); have n1_ := Aside0.mk (below_step (by repeat (first | (with_reducible first | exact HB.out | apply below_alloc | apply pw_below_drewN | apply below_drew1) | exact HB.out)) hb); clear HB; have HO229 := n0_; have HB := n1_; clear n0_ n1_; clear hb ho11) | ((with_reducible refine gate_builtin (b := .append) (xs := #[.tmp 8, .tmp 9]) rfl ?_); at_builtin; refine Kd.R_append_rows k45 (w0 := w) w.heap.size rfl (.tmp 8) (.tmp 9) 22 45 (.agg #[(.int .i64 0), (.int .i64 0), (.int .i64 0), (.int .i64 0), (.int .i64 0), (.int .i64 0), (.int .i64 0)]) 56 rfl Tryd.underlying22 info45 rfl (by decide) (by omega) v228 y227 l0 _ _ _ (fun _ => True) (fun _ => False) rfl rfl ?aO ?aR (fun _ _ h => h) (fun _ h => h.elim) ?aF ?aB ?aS ?aL ?_; (case aR => repeat (first | exact (Kd.C_below HR0.out HB.out) | (with_reducible refine Kd.C_alloc ?_ _) | (with_reducible refine Kd.C_drewN ?_ _) | (with_reducible refine Kd.C_drew ?_))); (case aB => exact (by repeat (first | (with_reducible first | exact HB.out | apply below_alloc | apply pw_below_drewN | apply below_drew1) | exact HB.out))); (case aF => exact (fun _ _ => trivial)); (case aO => exact (by (with_reducible repeat (first | apply Kd.R_alloc | apply Kd.R_drewN | apply Kd.R_drew)); exact HO229.out)); (case aS => exact (below_size (by repeat (first | (with_reducible first | exact HB.out | apply below_alloc | apply pw_below_drewN | apply below_drew1) | exact HB.out)))); (case aL => have := LMc2.out; omega); intro v231 w12 ho hb hg hat; rw [← Ny230.out] at ho; have n0_ := Aside0.mk (hb); have n1_ := Aside0.mk (ho); clear HB; clear HO229; have HB := n0_; have HO232 := n1_; clear n0_ n1_; clear ho hb hg hat) | ((with_reducible refine gate_callee (f := 11) rfl ?_); refine goesL_ (some 13) rfl rfl Tryd.func11 (by kernel_rfl) rfl #[.slice A0 l0.length c0] rfl (by (try simp only [List.map_toArray, List.map_cons, List.map_nil]); first | done | rfl | (simp only [List.length_drop, List.length_take]; rfl)) ?_; (with_reducible refine (plan_Text.calls _ _ l0 t233 t234 _ (by exact Aside0.mk (Glb.below HG.out (by repeat (first | (with_reducible first | exact HB.out | apply below_alloc | apply pw_below_drewN | apply below_drew1) | exact HB.out)))) ?side1 ?side2 A3.out).mono ?_); (case side1 => repeat (first | exact (Kd.C_below HR0.out HB.out) | (with_reducible refine Kd.C_alloc ?_ _) | (with_reducible refine Kd.C_drewN ?_ _) | (with_reducible refine Kd.C_drew ?_))); (case side2 => exact HC0.out); rintro e w13 ⟨rfl, hb⟩; refine ⟨_, rfl, ?_⟩; have n0_ := Aside0.mk (Kd.R_below (by (with_reducible repeat (first | apply Kd.R_alloc | apply Kd.R_drewN | apply Kd.R_drew)); exact HO232.out) hb); have n1_ := Aside0.mk (below_step (by repeat (first | (with_reducible first | exact HB.out | apply below_alloc | apply pw_below_drewN | apply below_drew1) | exact HB.out)) hb); clear HO232; clear HB; have HO232 := n0_; have HB := n1_; clear n0_ n1_; (try clear hb); (try clear hb2); (try clear hk); (try clear hi); obtain ⟨Ao14, co14, eo14⟩ := Kd.R_slice HO232.out; subst eo14) | ((with_reducible refine gate_callee (f := 12) rfl ?_); refine goesL_ (some 18) rfl rfl Tryd.func12 (by kernel_rfl) rfl #[.slice Ao14 y230.length co14] rfl (by (try simp only [List.map_toArray, List.map_cons, List.map_nil]); first | done | rfl | (simp only [List.length_drop, List.length_take]; rfl)) ?_; (with_reducible refine (mullionref05_Text.calls k _ _ y230 t235 t236 _ ?side1 ?side2 A4.out).mono ?_); (case side1 => repeat (first | exact (Kd.R_reads' HO232.out).2.2 | (with_reducible refine Kd.C_alloc ?_ _) | (with_reducible refine Kd.C_drewN ?_ _) | (with_reducible refine Kd.C_drew ?_))); (case side2 => exact (Kd.R_reads' HO232.out).2.1); rintro e w15 ⟨rfl, hb⟩; refine ⟨_, rfl, ?_⟩; have n0_ := Aside0.mk (Kd.R_below (by (with_reducible repeat (first | apply Kd.R_alloc | apply Kd.R_drewN | apply Kd.R_drew)); exact HO232.out) hb); have n1_ := Aside0.mk (below_step (by repeat (first | (with_reducible first | exact HB.out | apply below_alloc | apply pw_below_drewN | apply below_drew1) | exact HB.out)) hb); clear HO232; clear HB; have HO232 := n0_; have HB := n1_; clear n0_ n1_; (try clear hb); (try clear hb2); (try clear hk); (try clear hi)) | (go_at_call 13; (with_reducible refine (mullionlaw05_same.calls k _ _ l0 _ _ y230 true _ ?side1 ?side2 ?side3 ?side4 A7.out).mono ?_); (case side1 => repeat (first | exact (Kd.C_below HR0.out HB.out) | (with_reducible refine Kd.C_alloc ?_ _) | (with_reducible refine Kd.C_drewN ?_ _) | (with_reducible refine Kd.C_drew ?_))); (case side2 => exact HC0.out); (case side3 => repeat (first | exact (Kd.R_reads' HO232.out).2.2 | (with_reducible refine Kd.C_alloc ?_ _) | (with_reducible refine Kd.C_drewN ?_ _) | (with_reducible refine Kd.C_drew ?_))); (case side4 => exact (Kd.R_reads' HO232.out).2.1); rintro e w' ⟨rfl, ⟨nd, rfl⟩⟩) | (go_at_call 14; (with_reducible refine (mullionlaw05_sure.calls k  t238 _ (by exact Aside0.mk (Glb.below HG.out (by repeat (first | (with_reducible first | exact HB.out | apply below_alloc | apply pw_below_drewN | apply below_drew1) | exact HB.out)))) A9.out).mono ?_); rintro e w16 ⟨rfl, hb⟩; have n0_ := Aside0.mk (Kd.R_below (by (with_reducible repeat (first | apply Kd.R_alloc | apply Kd.R_drewN | apply Kd.R_drew)); exact HO232.out) hb); have n1_ := Aside0.mk (below_step (by repeat (first | (with_reducible first | exact HB.out | apply below_alloc | apply pw_below_drewN | apply below_drew1) | exact HB.out)) hb); clear HO232; clear HB; have HO232 := n0_; have HB := n1_; clear n0_ n1_; (try clear hb); (try clear hb2); (try clear hk); (try clear hi)))
          go_ret
          exact ⟨by first | rfl | (simp [errW_none, errW_some] <;> rfl) | (simp [*, errW_none, errW_some] <;> rfl), by repeat (first | (with_reducible first | exact HB.out | apply below_alloc | apply pw_below_drewN | apply below_drew1) | exact HB.out)⟩
        · replace c8 := Bool.eq_false_iff.mpr c8
          subst c8
          have H1 : (some false) = some r := by rw [if_neg (show ¬ (false = true) by decide)] at H; exact H
          clear H
          have H := H1
          clear H1
          obtain rfl := Option.some.inj H
          go_enter Tryd.func3, Tryd.ntmps3
          go_wp2_with (first | ((with_reducible refine gate_dst (N := 8) rfl ?_); refine Kd.R_lit k45 _ 45 ?hg (N := 8) ?hd (xs := ([] : List (S45))) (inner := []) (ok := fun _ => True) (okp := fun _ => True) ?hr ?hp (fun _ hk => hk) trivial (Below.refl _ _) (Nat.le_refl _) (by simp) ?_; (case hd => rfl); (case hg => rfl); (case hr => first | (go_simp; done) | (go_simp; rfl)); (case hp => exact (Reps.none _ _)); intro v228 w17 ho18 hb hg_ hnew_; clear hg_ hnew_; (first | rw [← Ny227.out] at ho18 | (simp only [Int.reduceToNat] at ho18; rw [← Ny227.out] at ho18)); have n0_ := Aside0.mk (Kd.R_lower ho18 (below_size (by repeat (first | (with_reducible first | exact HB.out | apply below_alloc | apply pw_below_drewN | apply below_drew1) | exact HB.out)))); have n1_ := Aside0.mk (below_step (by repeat (first | (with_reducible first | exact HB.out | apply below_alloc | apply pw_below_drewN | apply below_drew1) | exact HB.out)) hb); clear HB; have HO229 := n0_; have HB := n1_; clear n0_ n1_; clear hb ho18) | ((with_reducible refine gate_builtin (b := .append) (xs := #[.tmp 8, .tmp 9]) rfl ?_); at_builtin; refine Kd.R_append_rows k45 (w0 := w) w.heap.size rfl (.tmp 8) (.tmp 9) 22 45 (.agg #[(.int .i64 0), (.int .i64 0), (.int .i64 0), (.int .i64 0), (.int .i64 0), (.int .i64 0), (.int .i64 0)]) 56 rfl Tryd.underlying22 info45 rfl (by decide) (by omega) v228 y227 l0 _ _ _ (fun _ => True) (fun _ => False) rfl rfl ?aO ?aR (fun _ _ h => h) (fun _ h => h.elim) ?aF ?aB ?aS ?aL ?_; (case aR => repeat (first | exact (Kd.C_below HR0.out HB.out) | (with_reducible refine Kd.C_alloc ?_ _) | (with_reducible refine Kd.C_drewN ?_ _) | (with_reducible refine Kd.C_drew ?_))); (case aB => exact (by repeat (first | (with_reducible first | exact HB.out | apply below_alloc | apply pw_below_drewN | apply below_drew1) | exact HB.out))); (case aF => exact (fun _ _ => trivial)); (case aO => exact (by (with_reducible repeat (first | apply Kd.R_alloc | apply Kd.R_drewN | apply Kd.R_drew)); exact HO229.out)); (case aS => exact (below_size (by repeat (first | (with_reducible first | exact HB.out | apply below_alloc | apply pw_below_drewN | apply below_drew1) | exact HB.out)))); (case aL => have := LMc2.out; omega); intro v231 w19 ho hb hg hat; rw [← Ny230.out] at ho; have n0_ := Aside0.mk (hb); have n1_ := Aside0.mk (ho); clear HB; clear HO229; have HB := n0_; have HO232 := n1_; clear n0_ n1_; clear ho hb hg hat) | ((with_reducible refine gate_callee (f := 11) rfl ?_); refine goesL_ (some 13) rfl rfl Tryd.func11 (by kernel_rfl) rfl #[.slice A0 l0.length c0] rfl (by (try simp only [List.map_toArray, List.map_cons, List.map_nil]); first | done | rfl | (simp only [List.length_drop, List.length_take]; rfl)) ?_; (with_reducible refine (plan_Text.calls _ _ l0 t233 t234 _ (by exact Aside0.mk (Glb.below HG.out (by repeat (first | (with_reducible first | exact HB.out | apply below_alloc | apply pw_below_drewN | apply below_drew1) | exact HB.out)))) ?side1 ?side2 A3.out).mono ?_); (case side1 => repeat (first | exact (Kd.C_below HR0.out HB.out) | (with_reducible refine Kd.C_alloc ?_ _) | (with_reducible refine Kd.C_drewN ?_ _) | (with_reducible refine Kd.C_drew ?_))); (case side2 => exact HC0.out); rintro e w20 ⟨rfl, hb⟩; refine ⟨_, rfl, ?_⟩; have n0_ := Aside0.mk (Kd.R_below (by (with_reducible repeat (first | apply Kd.R_alloc | apply Kd.R_drewN | apply Kd.R_drew)); exact HO232.out) hb); have n1_ := Aside0.mk (below_step (by repeat (first | (with_reducible first | exact HB.out | apply below_alloc | apply pw_below_drewN | apply below_drew1) | exact HB.out)) hb); clear HO232; clear HB; have HO232 := n0_; have HB := n1_; clear n0_ n1_; (try clear hb); (try clear hb2); (try clear hk); (try clear hi); obtain ⟨Ao21, co21, eo21⟩ := Kd.R_slice HO232.out; subst eo21) | ((with_reducible refine gate_callee (f := 12) rfl ?_); refine goesL_ (some 18) rfl rfl Tryd.func12 (by kernel_rfl) rfl #[.slice Ao21 y230.length co21] rfl (by (try simp only [List.map_toArray, List.map_cons, List.map_nil]); first | done | rfl | (simp only [List.length_drop, List.length_take]; rfl)) ?_; (with_reducible refine (mullionref05_Text.calls k _ _ y230 t235 t236 _ ?side1 ?side2 A4.out).mono ?_); (case side1 => repeat (first | exact (Kd.R_reads' HO232.out).2.2 | (with_reducible refine Kd.C_alloc ?_ _) | (with_reducible refine Kd.C_drewN ?_ _) | (with_reducible refine Kd.C_drew ?_))); (case side2 => exact (Kd.R_reads' HO232.out).2.1); rintro e w22 ⟨rfl, hb⟩; refine ⟨_, rfl, ?_⟩; have n0_ := Aside0.mk (Kd.R_below (by (with_reducible repeat (first | apply Kd.R_alloc | apply Kd.R_drewN | apply Kd.R_drew)); exact HO232.out) hb); have n1_ := Aside0.mk (below_step (by repeat (first | (with_reducible first | exact HB.out | apply below_alloc | apply pw_below_drewN | apply below_drew1) | exact HB.out)) hb); clear HO232; clear HB; have HO232 := n0_; have HB := n1_; clear n0_ n1_; (try clear hb); (try clear hb2); (try clear hk); (try clear hi)) | (go_at_call 13; (with_reducible refine (mullionlaw05_same.calls k _ _ l0 _ _ y230 false _ ?side1 ?side2 ?side3 ?side4 A7.out).mono ?_); (case side1 => repeat (first | exact (Kd.C_below HR0.out HB.out) | (with_reducible refine Kd.C_alloc ?_ _) | (with_reducible refine Kd.C_drewN ?_ _) | (with_reducible refine Kd.C_drew ?_))); (case side2 => exact HC0.out); (case side3 => repeat (first | exact (Kd.R_reads' HO232.out).2.2 | (with_reducible refine Kd.C_alloc ?_ _) | (with_reducible refine Kd.C_drewN ?_ _) | (with_reducible refine Kd.C_drew ?_))); (case side4 => exact (Kd.R_reads' HO232.out).2.1); rintro e w' ⟨rfl, ⟨nd, rfl⟩⟩))
          go_ret
          exact ⟨by first | rfl | (simp [errW_none, errW_some] <;> rfl) | (simp [*, errW_none, errW_some] <;> rfl), by repeat (first | (with_reducible first | exact HB.out | apply below_alloc | apply pw_below_drewN | apply below_drew1) | exact HB.out)⟩
      · rw [if_neg c6] at H
        have c6b0 : (t234 == t236) = false := beq_eq_false_iff_ne.mpr c6
        have c6b1 : (t234 != t236) = true := bne_iff_ne.mpr c6
        obtain rfl := Option.some.inj H
        go_enter Tryd.func3, Tryd.ntmps3
        go_wp2_with (first | ((with_reducible refine gate_dst (N := 8) rfl ?_); refine Kd.R_lit k45 _ 45 ?hg (N := 8) ?hd (xs := ([] : List (S45))) (inner := []) (ok := fun _ => True) (okp := fun _ => True) ?hr ?hp (fun _ hk => hk) trivial (Below.refl _ _) (Nat.le_refl _) (by simp) ?_; (case hd => rfl); (case hg => rfl); (case hr => first | (go_simp; done) | (go_simp; rfl)); (case hp => exact (Reps.none _ _)); intro v228 w23 ho24 hb hg_ hnew_; clear hg_ hnew_; (first | rw [← Ny227.out] at ho24 | (simp only [Int.reduceToNat] at ho24; rw [← Ny227.out] at ho24)); have n0_ := Aside0.mk (Kd.R_lower ho24 (below_size (by repeat (first | (with_reducible first | exact HB.out | apply below_alloc | apply pw_below_drewN | apply below_drew1) | exact HB.out)))); have n1_ := Aside0.mk (below_step (by repeat (first | (with_reducible first | exact HB.out | apply below_alloc | apply pw_below_drewN | apply below_drew1) | exact HB.out)) hb); clear HB; have HO229 := n0_; have HB := n1_; clear n0_ n1_; clear hb ho24) | ((with_reducible refine gate_builtin (b := .append) (xs := #[.tmp 8, .tmp 9]) rfl ?_); at_builtin; refine Kd.R_append_rows k45 (w0 := w) w.heap.size rfl (.tmp 8) (.tmp 9) 22 45 (.agg #[(.int .i64 0), (.int .i64 0), (.int .i64 0), (.int .i64 0), (.int .i64 0), (.int .i64 0), (.int .i64 0)]) 56 rfl Tryd.underlying22 info45 rfl (by decide) (by omega) v228 y227 l0 _ _ _ (fun _ => True) (fun _ => False) rfl rfl ?aO ?aR (fun _ _ h => h) (fun _ h => h.elim) ?aF ?aB ?aS ?aL ?_; (case aR => repeat (first | exact (Kd.C_below HR0.out HB.out) | (with_reducible refine Kd.C_alloc ?_ _) | (with_reducible refine Kd.C_drewN ?_ _) | (with_reducible refine Kd.C_drew ?_))); (case aB => exact (by repeat (first | (with_reducible first | exact HB.out | apply below_alloc | apply pw_below_drewN | apply below_drew1) | exact HB.out))); (case aF => exact (fun _ _ => trivial)); (case aO => exact (by (with_reducible repeat (first | apply Kd.R_alloc | apply Kd.R_drewN | apply Kd.R_drew)); exact HO229.out)); (case aS => exact (below_size (by repeat (first | (with_reducible first | exact HB.out | apply below_alloc | apply pw_below_drewN | apply below_drew1) | exact HB.out)))); (case aL => have := LMc2.out; omega); intro v231 w25 ho hb hg hat; rw [← Ny230.out] at ho; have n0_ := Aside0.mk (hb); have n1_ := Aside0.mk (ho); clear HB; clear HO229; have HB := n0_; have HO232 := n1_; clear n0_ n1_; clear ho hb hg hat) | ((with_reducible refine gate_callee (f := 11) rfl ?_); refine goesL_ (some 13) rfl rfl Tryd.func11 (by kernel_rfl) rfl #[.slice A0 l0.length c0] rfl (by (try simp only [List.map_toArray, List.map_cons, List.map_nil]); first | done | rfl | (simp only [List.length_drop, List.length_take]; rfl)) ?_; (with_reducible refine (plan_Text.calls _ _ l0 t233 t234 _ (by exact Aside0.mk (Glb.below HG.out (by repeat (first | (with_reducible first | exact HB.out | apply below_alloc | apply pw_below_drewN | apply below_drew1) | exact HB.out)))) ?side1 ?side2 A3.out).mono ?_); (case side1 => repeat (first | exact (Kd.C_below HR0.out HB.out) | (with_reducible refine Kd.C_alloc ?_ _) | (with_reducible refine Kd.C_drewN ?_ _) | (with_reducible refine Kd.C_drew ?_))); (case side2 => exact HC0.out); rintro e w26 ⟨rfl, hb⟩; refine ⟨_, rfl, ?_⟩; have n0_ := Aside0.mk (Kd.R_below (by (with_reducible repeat (first | apply Kd.R_alloc | apply Kd.R_drewN | apply Kd.R_drew)); exact HO232.out) hb); have n1_ := Aside0.mk (below_step (by repeat (first | (with_reducible first | exact HB.out | apply below_alloc | apply pw_below_drewN | apply below_drew1) | exact HB.out)) hb); clear HO232; clear HB; have HO232 := n0_; have HB := n1_; clear n0_ n1_; (try clear hb); (try clear hb2); (try clear hk); (try clear hi); obtain ⟨Ao27, co27, eo27⟩ := Kd.R_slice HO232.out; subst eo27) | ((with_reducible refine gate_callee (f := 12) rfl ?_); refine goesL_ (some 18) rfl rfl Tryd.func12 (by kernel_rfl) rfl #[.slice Ao27 y230.length co27] rfl (by (try simp only [List.map_toArray, List.map_cons, List.map_nil]); first | done | rfl | (simp only [List.length_drop, List.length_take]; rfl)) ?_; (with_reducible refine (mullionref05_Text.calls k _ _ y230 t235 t236 _ ?side1 ?side2 A4.out).mono ?_); (case side1 => repeat (first | exact (Kd.R_reads' HO232.out).2.2 | (with_reducible refine Kd.C_alloc ?_ _) | (with_reducible refine Kd.C_drewN ?_ _) | (with_reducible refine Kd.C_drew ?_))); (case side2 => exact (Kd.R_reads' HO232.out).2.1); rintro e w28 ⟨rfl, hb⟩; refine ⟨_, rfl, ?_⟩; have n0_ := Aside0.mk (Kd.R_below (by (with_reducible repeat (first | apply Kd.R_alloc | apply Kd.R_drewN | apply Kd.R_drew)); exact HO232.out) hb); have n1_ := Aside0.mk (below_step (by repeat (first | (with_reducible first | exact HB.out | apply below_alloc | apply pw_below_drewN | apply below_drew1) | exact HB.out)) hb); clear HO232; clear HB; have HO232 := n0_; have HB := n1_; clear n0_ n1_; (try clear hb); (try clear hb2); (try clear hk); (try clear hi)))
        go_ret
        exact ⟨by first | rfl | (simp [errW_none, errW_some] <;> rfl) | (simp [*, errW_none, errW_some] <;> rfl), by repeat (first | (with_reducible first | exact HB.out | apply below_alloc | apply pw_below_drewN | apply below_drew1) | exact HB.out)⟩
    · rw [if_neg c5] at H
      have c5b0 : (t233.toList == t235.toList) = false := beq_eq_false_iff_ne.mpr c5
      have c5b1 : (t233.toList != t235.toList) = true := bne_iff_ne.mpr c5
      obtain rfl := Option.some.inj H
      go_enter Tryd.func3, Tryd.ntmps3
      go_wp2_with (first | ((with_reducible refine gate_dst (N := 8) rfl ?_); refine Kd.R_lit k45 _ 45 ?hg (N := 8) ?hd (xs := ([] : List (S45))) (inner := []) (ok := fun _ => True) (okp := fun _ => True) ?hr ?hp (fun _ hk => hk) trivial (Below.refl _ _) (Nat.le_refl _) (by simp) ?_; (case hd => rfl); (case hg => rfl); (case hr => first | (go_simp; done) | (go_simp; rfl)); (case hp => exact (Reps.none _ _)); intro v228 w29 ho30 hb hg_ hnew_; clear hg_ hnew_; (first | rw [← Ny227.out] at ho30 | (simp only [Int.reduceToNat] at ho30; rw [← Ny227.out] at ho30)); have n0_ := Aside0.mk (Kd.R_lower ho30 (below_size (by repeat (first | (with_reducible first | exact HB.out | apply below_alloc | apply pw_below_drewN | apply below_drew1) | exact HB.out)))); have n1_ := Aside0.mk (below_step (by repeat (first | (with_reducible first | exact HB.out | apply below_alloc | apply pw_below_drewN | apply below_drew1) | exact HB.out)) hb); clear HB; have HO229 := n0_; have HB := n1_; clear n0_ n1_; clear hb ho30) | ((with_reducible refine gate_builtin (b := .append) (xs := #[.tmp 8, .tmp 9]) rfl ?_); at_builtin; refine Kd.R_append_rows k45 (w0 := w) w.heap.size rfl (.tmp 8) (.tmp 9) 22 45 (.agg #[(.int .i64 0), (.int .i64 0), (.int .i64 0), (.int .i64 0), (.int .i64 0), (.int .i64 0), (.int .i64 0)]) 56 rfl Tryd.underlying22 info45 rfl (by decide) (by omega) v228 y227 l0 _ _ _ (fun _ => True) (fun _ => False) rfl rfl ?aO ?aR (fun _ _ h => h) (fun _ h => h.elim) ?aF ?aB ?aS ?aL ?_; (case aR => repeat (first | exact (Kd.C_below HR0.out HB.out) | (with_reducible refine Kd.C_alloc ?_ _) | (with_reducible refine Kd.C_drewN ?_ _) | (with_reducible refine Kd.C_drew ?_))); (case aB => exact (by repeat (first | (with_reducible first | exact HB.out | apply below_alloc | apply pw_below_drewN | apply below_drew1) | exact HB.out))); (case aF => exact (fun _ _ => trivial)); (case aO => exact (by (with_reducible repeat (first | apply Kd.R_alloc | apply Kd.R_drewN | apply Kd.R_drew)); exact HO229.out)); (case aS => exact (below_size (by repeat (first | (with_reducible first | exact HB.out | apply below_alloc | apply pw_below_drewN | apply below_drew1) | exact HB.out)))); (case aL => have := LMc2.out; omega); intro v231 w31 ho hb hg hat; rw [← Ny230.out] at ho; have n0_ := Aside0.mk (hb); have n1_ := Aside0.mk (ho); clear HB; clear HO229; have HB := n0_; have HO232 := n1_; clear n0_ n1_; clear ho hb hg hat) | ((with_reducible refine gate_callee (f := 11) rfl ?_); refine goesL_ (some 13) rfl rfl Tryd.func11 (by kernel_rfl) rfl #[.slice A0 l0.length c0] rfl (by (try simp only [List.map_toArray, List.map_cons, List.map_nil]); first | done | rfl | (simp only [List.length_drop, List.length_take]; rfl)) ?_; (with_reducible refine (plan_Text.calls _ _ l0 t233 t234 _ (by exact Aside0.mk (Glb.below HG.out (by repeat (first | (with_reducible first | exact HB.out | apply below_alloc | apply pw_below_drewN | apply below_drew1) | exact HB.out)))) ?side1 ?side2 A3.out).mono ?_); (case side1 => repeat (first | exact (Kd.C_below HR0.out HB.out) | (with_reducible refine Kd.C_alloc ?_ _) | (with_reducible refine Kd.C_drewN ?_ _) | (with_reducible refine Kd.C_drew ?_))); (case side2 => exact HC0.out); rintro e w32 ⟨rfl, hb⟩; refine ⟨_, rfl, ?_⟩; have n0_ := Aside0.mk (Kd.R_below (by (with_reducible repeat (first | apply Kd.R_alloc | apply Kd.R_drewN | apply Kd.R_drew)); exact HO232.out) hb); have n1_ := Aside0.mk (below_step (by repeat (first | (with_reducible first | exact HB.out | apply below_alloc | apply pw_below_drewN | apply below_drew1) | exact HB.out)) hb); clear HO232; clear HB; have HO232 := n0_; have HB := n1_; clear n0_ n1_; (try clear hb); (try clear hb2); (try clear hk); (try clear hi); obtain ⟨Ao33, co33, eo33⟩ := Kd.R_slice HO232.out; subst eo33) | ((with_reducible refine gate_callee (f := 12) rfl ?_); refine goesL_ (some 18) rfl rfl Tryd.func12 (by kernel_rfl) rfl #[.slice Ao33 y230.length co33] rfl (by (try simp only [List.map_toArray, List.map_cons, List.map_nil]); first | done | rfl | (simp only [List.length_drop, List.length_take]; rfl)) ?_; (with_reducible refine (mullionref05_Text.calls k _ _ y230 t235 t236 _ ?side1 ?side2 A4.out).mono ?_); (case side1 => repeat (first | exact (Kd.R_reads' HO232.out).2.2 | (with_reducible refine Kd.C_alloc ?_ _) | (with_reducible refine Kd.C_drewN ?_ _) | (with_reducible refine Kd.C_drew ?_))); (case side2 => exact (Kd.R_reads' HO232.out).2.1); rintro e w34 ⟨rfl, hb⟩; refine ⟨_, rfl, ?_⟩; have n0_ := Aside0.mk (Kd.R_below (by (with_reducible repeat (first | apply Kd.R_alloc | apply Kd.R_drewN | apply Kd.R_drew)); exact HO232.out) hb); have n1_ := Aside0.mk (below_step (by repeat (first | (with_reducible first | exact HB.out | apply below_alloc | apply pw_below_drewN | apply below_drew1) | exact HB.out)) hb); clear HO232; clear HB; have HO232 := n0_; have HB := n1_; clear n0_ n1_; (try clear hb); (try clear hb2); (try clear hk); (try clear hi)))
      go_ret
      exact ⟨by first | rfl | (simp [errW_none, errW_some] <;> rfl) | (simp [*, errW_none, errW_some] <;> rfl), by repeat (first | (with_reducible first | exact HB.out | apply below_alloc | apply pw_below_drewN | apply below_drew1) | exact HB.out)⟩
  · rw [if_neg c2] at H
    exact absurd H (by simp)
def mullionref05_hex.f (a0 : Int) : Option (Bool) := if a0 ≥ 48 then (if a0 ≤ 57 then (some true) else (if a0 ≥ 97 then (some (decide (a0 ≤ 102))) else (some false))) else (if a0 ≥ 97 then (some (decide (a0 ≤ 102))) else (some false))
end Go.Proofs.YtmpnkckaohfflaaDoor.L
end
section
namespace Go.Proofs.YtmpnkckaohfflaaDoor.Num
open Go.Lib
set_option linter.unusedVariables false
theorem dec_big (u : Nat) (h : ¬ u < 10) : decDigits u = decDigits (u / 10) ++ [UInt8.ofNat (48 + u % 10)] := by
  rw [decDigits, dif_neg h]
theorem byte_nat (d : Nat) (h : d < 10) : (UInt8.ofNat (48 + d)).toNat = 48 + d := by
  rw [UInt8.toNat_ofNat']
  omega
theorem dec_digit (u : Nat) : ∀ c ∈ decDigits u, 48 ≤ c.toNat ∧ c.toNat ≤ 57 := by
  induction u using Nat.strongRecOn with
  | _ u ih =>
    intro c hc
    by_cases h : u < 10
    · rw [decDigits_one h, List.mem_singleton] at hc
      subst hc
      rw [byte_nat u h]
      omega
    · rw [dec_big u h, List.mem_append, List.mem_singleton] at hc
      rcases hc with hc | rfl
      · exact ih (u / 10) (by omega) c hc
      · rw [byte_nat _ (by omega)]
        omega
theorem dec_ne (u : Nat) : decDigits u ≠ [] := by
  by_cases h : u < 10
  · rw [decDigits_one h]
    simp
  · rw [dec_big u h]
    simp
theorem dec_len (d : Nat) : ∀ u, u < 10 ^ (d + 1) → (decDigits u).length ≤ d + 1 := by
  induction d with
  | zero =>
    intro u h
    rw [decDigits_one (by omega)]
    simp
  | succ d ih =>
    intro u h
    by_cases h1 : u < 10
    · rw [decDigits_one h1]
      simp
    · rw [dec_big u h1, List.length_append, List.length_singleton]
      have h2 : u / 10 < 10 ^ (d + 1) := by
        rw [Nat.pow_succ] at h
        omega
      have := ih _ h2
      omega
def val : Nat → List UInt8 → Nat
  | a, [] => a
  | a, c :: r => val (10 * a + (c.toNat - 48)) r
theorem val_append (l m : List UInt8) : ∀ a, val a (l ++ m) = val (val a l) m := by
  induction l with
  | nil => intro a; rfl
  | cons c r ih => intro a; exact ih _
theorem val_ge (l : List UInt8) : ∀ a, a ≤ val a l := by
  induction l with
  | nil => intro a; exact Nat.le_refl a
  | cons c r ih =>
    intro a
    have := ih (10 * a + (c.toNat - 48))
    show a ≤ val (10 * a + (c.toNat - 48)) r
    omega
theorem val_dec (u : Nat) : val 0 (decDigits u) = u := by
  induction u using Nat.strongRecOn with
  | _ u ih =>
    by_cases h : u < 10
    · rw [decDigits_one h]
      show 10 * 0 + ((UInt8.ofNat (48 + u)).toNat - 48) = u
      rw [byte_nat u h]
      omega
    · rw [dec_big u h, val_append, ih (u / 10) (by omega)]
      show 10 * (u / 10) + ((UInt8.ofNat (48 + u % 10)).toNat - 48) = u
      rw [byte_nat _ (by omega)]
      omega
theorem parse_val (l : List UInt8) : ∀ a, (∀ c ∈ l, 48 ≤ c.toNat ∧ c.toNat ≤ 57) → val a l < 18446744073709551616 → parseUint10 a l = .ok (val a l) := by
  induction l with
  | nil => intro a _ _; rfl
  | cons c r ih =>
    intro a hd hv
    have hc := hd c (List.mem_cons_self)
    have hv' : val (10 * a + (c.toNat - 48)) r < 18446744073709551616 := hv
    have hg := val_ge r (10 * a + (c.toNat - 48))
    unfold parseUint10
    rw [if_pos hc, if_neg (by omega), if_neg (by omega)]
    have e : a * 10 + (c.toNat - 48) = 10 * a + (c.toNat - 48) := by omega
    rw [e]
    exact ih _ (fun d hm => hd d (List.mem_cons_of_mem _ hm)) hv'
theorem atoiAll_dec (u : Nat) (h : u ≤ 4611686018427387904) : atoiAll (decDigits u) = .ok (u : Int) := by
  have hd := dec_digit u
  have hp := parse_val (decDigits u) 0 hd (by rw [val_dec]; omega)
  rw [val_dec] at hp
  cases e : decDigits u with
  | nil => exact absurd e (dec_ne u)
  | cons c r =>
    rw [e] at hd hp
    have hc := hd c (List.mem_cons_self)
    rw [atoiAll_plain c r (by omega) (by omega)]
    unfold parseMag
    rw [if_neg (by simp), hp]
    unfold signless
    simp only
    first
    | rw [if_neg (by omega)]
    | (simp; omega)
theorem putNum_nat (u : Nat) (h : u ≤ 4611686018427387904) : putNum (u : Int) = decDigits u := by
  rw [putNum_in _ (by omega) (by omega), itoa_nonneg]
theorem putNum_cases (n : Int) : ((n < 0 ∨ 4611686018427387904 < n) ∧ putNum n = []) ∨ ∃ u : Nat, n = u ∧ u ≤ 4611686018427387904 ∧ putNum n = decDigits u := by
  by_cases h : n < 0 ∨ 4611686018427387904 < n
  · exact .inl ⟨h, putNum_out n h⟩
  · obtain ⟨u, rfl⟩ := Int.eq_ofNat_of_zero_le (show 0 ≤ n by omega)
    exact .inr ⟨u, rfl, by omega, putNum_nat u (by omega)⟩
theorem numOf_dec (u : Nat) (h : u ≤ 4611686018427387904) : numOf (decDigits u) = ((u : Int), true) := by
  rw [numOf_ok (atoiAll_dec u h), if_neg (by omega), putNum_nat u h, if_pos rfl]
theorem numOf_nil : numOf [] = (0, false) := numOf_bad (fun v h => by cases h)
theorem numOf_not (l : List UInt8) (h : ∀ u : Nat, u ≤ 4611686018427387904 → l ≠ decDigits u) : numOf l = (0, false) := by
  cases e : atoiAll l with
  | ok v =>
    rw [numOf_ok e]
    by_cases hv : v < 0
    · rw [if_pos hv]
    · rw [if_neg hv]
      by_cases hp : l = putNum v
      · rcases putNum_cases v with ⟨_, p⟩ | ⟨u, _, hu, p⟩
        · rw [hp, p] at e
          cases e
        · exact absurd (hp.trans p) (h u hu)
      · rw [if_neg hp]
  | _ => exact numOf_bad (fun v h => by rw [e] at h; cases h)
theorem numOf_cases (l : List UInt8) : (∃ u : Nat, u ≤ 4611686018427387904 ∧ l = decDigits u ∧ numOf l = ((u : Int), true)) ∨ numOf l = (0, false) := by
  by_cases h : ∃ u : Nat, u ≤ 4611686018427387904 ∧ l = decDigits u
  · obtain ⟨u, hu, rfl⟩ := h
    exact .inl ⟨u, hu, rfl, numOf_dec u hu⟩
  · refine .inr (numOf_not l fun u hu e => h ⟨u, hu, e⟩)
theorem numOf_put (n : Int) : numOf (putNum n) = if n < 0 ∨ 4611686018427387904 < n then (0, false) else (n, true) := by
  rcases putNum_cases n with ⟨h, p⟩ | ⟨u, rfl, hu, p⟩
  · rw [p, if_pos h, numOf_nil]
  · rw [p, if_neg (by omega), numOf_dec u hu]
end Go.Proofs.YtmpnkckaohfflaaDoor.Num
end
