/-
  No cell of these rows narrows 'for every input' (looked for: loops, veiled, ifaces, maps, wideKeys, modest, calm, conditions, laid).
  DERIVED. THE GIVEN ROWS OF THIS SEAT. 6 by the template 'for every input the law returns true; each argument reads behind the call as it read before'; 0 by the template 'total and deterministic' (their statements: YtgbdeloefdhmlaaTotals.lean).
  GIVEN WITH THE SEED: the statements are not yours to turn. If you find one false, say at which input.
  Laid BY PROGRAM, IN A SANDBOX (cutbox-rows.mjs): the forced cells as the released guide's own fill.sh prints them over the translation 2dcdec82bb204301… (all of the seat's roots in one cut). By AI agents, Wed Nov 11 2026. No macro, syntax, notation, axiom, sorry.
-/
import Derived.Test.YtgbdeloefdhmlaaChecked
import GoSem.Claim
import GoSem.ClaimJoined
import GoSem.ClaimMapViews
import Derived.JoinedTies
import Derived.KernelRfl
namespace Go.Proofs.Ytgbdeloefdhmlaa
/- THE CELL 'sum', in the pinned program and in every row, IS THE sha256 OF THE DUMP (.gsa) THAT YtgbdeloefdhmlaaProg.lean LOADS. Nothing in Lean hashes anything: it is a label: what it is worth is what the hold of that sum in a sandbox is worth. -/
noncomputable def Try.pinned : Pinned := { name := "ytgbdeloefdhmlaa", sum := "2dcdec82bb204301b01eef4386d339d9b39b72f085841fd91cd9af22a2b39c22", checked := Try.checked }
namespace Rows
def none {H : Type} : Left H := { results := [], args := [] }

/-- 'mullionlaw01.OctalConsts': WHATEVER THE INPUT: true; the input reads as it did. -/
def octalConstsSpec : ChangeSpec := { name := "octalConsts", fn := fun _ => fun
  | [] => { results := [.lit (.bool true)], args := [] }
  | _ => none }
def octalConstsRow : OpenClaim := { program := "ytgbdeloefdhmlaa", sum := "2dcdec82bb204301b01eef4386d339d9b39b72f085841fd91cd9af22a2b39c22", func := "mullion/mullionlaw01.OctalConsts", spec := "octalConsts", apart := false }
def OctalConstsSaid : Prop := octalConstsRow.holds Try.pinned (OpenSpec.ofChange octalConstsSpec)

/-- ITS FALSE NEIGHBOUR: 'it returns false'. Refute it at one input. -/
def octalConstsWrong : ChangeSpec := { name := "octalConsts", fn := fun _ => fun
  | [] => { results := [.lit (.bool false)], args := [] }
  | _ => none }
def OctalConstsWrongFalsely : Prop := octalConstsRow.holds Try.pinned (OpenSpec.ofChange octalConstsWrong)

/-- 'mullionlaw05.PlanConsts': WHATEVER THE INPUT: true; the input reads as it did. -/
def planConstsSpec : ChangeSpec := { name := "planConsts", fn := fun _ => fun
  | [] => { results := [.lit (.bool true)], args := [] }
  | _ => none }
def planConstsRow : OpenClaim := { program := "ytgbdeloefdhmlaa", sum := "2dcdec82bb204301b01eef4386d339d9b39b72f085841fd91cd9af22a2b39c22", func := "mullion/mullionlaw05.PlanConsts", spec := "planConsts", apart := false }
def PlanConstsSaid : Prop := planConstsRow.holds Try.pinned (OpenSpec.ofChange planConstsSpec)

/-- ITS FALSE NEIGHBOUR: 'it returns false'. Refute it at one input. -/
def planConstsWrong : ChangeSpec := { name := "planConsts", fn := fun _ => fun
  | [] => { results := [.lit (.bool false)], args := [] }
  | _ => none }
def PlanConstsWrongFalsely : Prop := planConstsRow.holds Try.pinned (OpenSpec.ofChange planConstsWrong)

/-- 'mullionlaw11.TargetConsts': WHATEVER THE INPUT: true; the input reads as it did. -/
def targetConstsSpec : ChangeSpec := { name := "targetConsts", fn := fun _ => fun
  | [] => { results := [.lit (.bool true)], args := [] }
  | _ => none }
def targetConstsRow : OpenClaim := { program := "ytgbdeloefdhmlaa", sum := "2dcdec82bb204301b01eef4386d339d9b39b72f085841fd91cd9af22a2b39c22", func := "mullion/mullionlaw11.TargetConsts", spec := "targetConsts", apart := false }
def TargetConstsSaid : Prop := targetConstsRow.holds Try.pinned (OpenSpec.ofChange targetConstsSpec)

/-- ITS FALSE NEIGHBOUR: 'it returns false'. Refute it at one input. -/
def targetConstsWrong : ChangeSpec := { name := "targetConsts", fn := fun _ => fun
  | [] => { results := [.lit (.bool false)], args := [] }
  | _ => none }
def TargetConstsWrongFalsely : Prop := targetConstsRow.holds Try.pinned (OpenSpec.ofChange targetConstsWrong)

/-- 'mullionlaw05.PlanSums': WHATEVER THE INPUT: true; the input reads as it did. -/
def planSumsSpec : ChangeSpec := { name := "planSums", fn := fun _ => fun
  | [d] => { results := [.lit (.bool true)], args := [d] }
  | _ => none }
def planSumsRow : OpenClaim := { program := "ytgbdeloefdhmlaa", sum := "2dcdec82bb204301b01eef4386d339d9b39b72f085841fd91cd9af22a2b39c22", func := "mullion/mullionlaw05.PlanSums", spec := "planSums", apart := false }
def PlanSumsSaid : Prop := planSumsRow.holds Try.pinned (OpenSpec.ofChange planSumsSpec)

/-- ITS FALSE NEIGHBOUR: 'it returns false'. Refute it at one input. -/
def planSumsWrong : ChangeSpec := { name := "planSums", fn := fun _ => fun
  | [d] => { results := [.lit (.bool false)], args := [d] }
  | _ => none }
def PlanSumsWrongFalsely : Prop := planSumsRow.holds Try.pinned (OpenSpec.ofChange planSumsWrong)

/-- 'mullionlaw05.PlanSum': WHATEVER THE INPUT: true; the input reads as it did. -/
def planSumSpec : ChangeSpec := { name := "planSum", fn := fun _ => fun
  | [d1, d2, d3] => { results := [.lit (.bool true)], args := [d1, d2, d3] }
  | _ => none }
def planSumRow : OpenClaim := { program := "ytgbdeloefdhmlaa", sum := "2dcdec82bb204301b01eef4386d339d9b39b72f085841fd91cd9af22a2b39c22", func := "mullion/mullionlaw05.PlanSum", spec := "planSum", apart := false }
def PlanSumSaid : Prop := planSumRow.holds Try.pinned (OpenSpec.ofChange planSumSpec)

/-- ITS FALSE NEIGHBOUR: 'it returns false'. Refute it at one input. -/
def planSumWrong : ChangeSpec := { name := "planSum", fn := fun _ => fun
  | [d1, d2, d3] => { results := [.lit (.bool false)], args := [d1, d2, d3] }
  | _ => none }
def PlanSumWrongFalsely : Prop := planSumRow.holds Try.pinned (OpenSpec.ofChange planSumWrong)

/-- 'mullionlaw01.OctalNames': WHATEVER THE INPUT: true; the input reads as it did. -/
def octalNamesSpec : ChangeSpec := { name := "octalNames", fn := fun _ => fun
  | [d] => { results := [.lit (.bool true)], args := [d] }
  | _ => none }
def octalNamesRow : OpenClaim := { program := "ytgbdeloefdhmlaa", sum := "2dcdec82bb204301b01eef4386d339d9b39b72f085841fd91cd9af22a2b39c22", func := "mullion/mullionlaw01.OctalNames", spec := "octalNames", inPlace := ["internal/bytealg.IndexByteString"], apart := false }
def OctalNamesSaid : Prop := octalNamesRow.holds Try.pinned (OpenSpec.ofChange octalNamesSpec)

/-- ITS FALSE NEIGHBOUR: 'it returns false'. Refute it at one input. -/
def octalNamesWrong : ChangeSpec := { name := "octalNames", fn := fun _ => fun
  | [d] => { results := [.lit (.bool false)], args := [d] }
  | _ => none }
def OctalNamesWrongFalsely : Prop := octalNamesRow.holds Try.pinned (OpenSpec.ofChange octalNamesWrong)

/- THE SECOND FORM. 'bulk': how many values and letters a reading holds, each counted each time it is reached (what is shared counts as often as it is met; a slice's spare places count too). A statement '..UptoSaid' is the law's where the arguments, and the package variables that the reading takes, are together of bulk at most 1048576: NARROWER than '..Said'. Prove '..Said' where nothing that the law and all that it calls make is longer than what came in: it says more and counts as full. Else prove '..UptoSaid'. A law counts once. -/
mutual
def uptoBulk {H : Type} : DataW H → Nat
  | .lit (.string bytes) => bytes.length + 1
  | .lit _ => 1
  | .nil => 1
  | .ptr d => uptoBulk d + 1
  | .slice elems spare => uptoBulkAll elems + uptoBulkAll spare + 1
  | .agg parts => uptoBulkAll parts + 1
  | .iface _ d => uptoBulk d + 1
  | .map entries => uptoBulkEntries entries + 1
  | .held _ => 1
def uptoBulkAll {H : Type} : List (DataW H) → Nat
  | [] => 0
  | d :: r => uptoBulk d + uptoBulkAll r
def uptoBulkEntries {H : Type} : List (Lit × DataW H) → Nat
  | [] => 0
  | x :: r => uptoBulkEntry x + uptoBulkEntries r
def uptoBulkEntry {H : Type} : Lit × DataW H → Nat
  | (.string bytes, d) => bytes.length + uptoBulk d + 1
  | (_, d) => uptoBulk d + 1
 end
def uptoSmall : (H : Type) → List (DataW H) → Bool := fun _ ds => decide (uptoBulkAll ds ≤ 1048576)
def OpenSpec.upto (s : _root_.Go.ChangeSpec) : _root_.Go.OpenSpec := { _root_.Go.OpenSpec.ofChange s with cond := some uptoSmall }

/-- 'mullionlaw01.OctalConsts', WHERE WHAT IT READS IS OF BULK AT MOST 1048576: true; the input reads as it did. -/
def octalConstsUptoRow : OpenClaim := { program := "ytgbdeloefdhmlaa", sum := "2dcdec82bb204301b01eef4386d339d9b39b72f085841fd91cd9af22a2b39c22", func := "mullion/mullionlaw01.OctalConsts", spec := "octalConsts", apart := false, narrowed := true }
def OctalConstsUptoSaid : Prop := octalConstsUptoRow.holds Try.pinned (OpenSpec.upto octalConstsSpec)

/-- 'mullionlaw05.PlanConsts', WHERE WHAT IT READS IS OF BULK AT MOST 1048576: true; the input reads as it did. -/
def planConstsUptoRow : OpenClaim := { program := "ytgbdeloefdhmlaa", sum := "2dcdec82bb204301b01eef4386d339d9b39b72f085841fd91cd9af22a2b39c22", func := "mullion/mullionlaw05.PlanConsts", spec := "planConsts", apart := false, narrowed := true }
def PlanConstsUptoSaid : Prop := planConstsUptoRow.holds Try.pinned (OpenSpec.upto planConstsSpec)

/-- 'mullionlaw11.TargetConsts', WHERE WHAT IT READS IS OF BULK AT MOST 1048576: true; the input reads as it did. -/
def targetConstsUptoRow : OpenClaim := { program := "ytgbdeloefdhmlaa", sum := "2dcdec82bb204301b01eef4386d339d9b39b72f085841fd91cd9af22a2b39c22", func := "mullion/mullionlaw11.TargetConsts", spec := "targetConsts", apart := false, narrowed := true }
def TargetConstsUptoSaid : Prop := targetConstsUptoRow.holds Try.pinned (OpenSpec.upto targetConstsSpec)

/-- 'mullionlaw05.PlanSums', WHERE WHAT IT READS IS OF BULK AT MOST 1048576: true; the input reads as it did. -/
def planSumsUptoRow : OpenClaim := { program := "ytgbdeloefdhmlaa", sum := "2dcdec82bb204301b01eef4386d339d9b39b72f085841fd91cd9af22a2b39c22", func := "mullion/mullionlaw05.PlanSums", spec := "planSums", apart := false, narrowed := true }
def PlanSumsUptoSaid : Prop := planSumsUptoRow.holds Try.pinned (OpenSpec.upto planSumsSpec)

/-- 'mullionlaw05.PlanSum', WHERE WHAT IT READS IS OF BULK AT MOST 1048576: true; the input reads as it did. -/
def planSumUptoRow : OpenClaim := { program := "ytgbdeloefdhmlaa", sum := "2dcdec82bb204301b01eef4386d339d9b39b72f085841fd91cd9af22a2b39c22", func := "mullion/mullionlaw05.PlanSum", spec := "planSum", apart := false, narrowed := true }
def PlanSumUptoSaid : Prop := planSumUptoRow.holds Try.pinned (OpenSpec.upto planSumSpec)

/-- 'mullionlaw01.OctalNames', WHERE WHAT IT READS IS OF BULK AT MOST 1048576: true; the input reads as it did. -/
def octalNamesUptoRow : OpenClaim := { program := "ytgbdeloefdhmlaa", sum := "2dcdec82bb204301b01eef4386d339d9b39b72f085841fd91cd9af22a2b39c22", func := "mullion/mullionlaw01.OctalNames", spec := "octalNames", inPlace := ["internal/bytealg.IndexByteString"], apart := false, narrowed := true }
def OctalNamesUptoSaid : Prop := octalNamesUptoRow.holds Try.pinned (OpenSpec.upto octalNamesSpec)

end Rows
end Go.Proofs.Ytgbdeloefdhmlaa
