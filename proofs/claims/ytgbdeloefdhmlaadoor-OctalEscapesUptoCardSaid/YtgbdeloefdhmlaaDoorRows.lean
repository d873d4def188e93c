/-
  NARROWER THAN 'FOR EVERY INPUT', by the rows' own cells (each row's printed sentence says how): OctalEscapes: laid · OctalJoins: laid · OctalOne: laid · OctalSafe: laid.
  DERIVED. THE GIVEN ROWS OF THIS SEAT. 4 by the template 'for every input the law returns true; each argument reads behind the call as it read before'; 0 by the template 'total and deterministic' (their statements: YtgbdeloefdhmlaaDoorTotals.lean).
  GIVEN WITH THE SEED: the statements are not yours to turn. If you find one false, say at which input.
  Laid BY PROGRAM, IN A SANDBOX (cutbox-rows.mjs): the forced cells as the released guide's own fill.sh prints them over the translation 069fa9f73d05f560… (all of the seat's roots in one cut). By AI agents, Wed Nov 11 2026. No macro, syntax, notation, axiom, sorry.
-/
import Derived.Test.YtgbdeloefdhmlaaDoorChecked
import GoSem.Claim
import GoSem.ClaimJoined
import GoSem.ClaimMapViews
import Derived.JoinedTies
import Derived.KernelRfl
namespace Go.Proofs.YtgbdeloefdhmlaaDoor
/- THE CELL 'sum', in the pinned program and in every row, IS THE sha256 OF THE DUMP (.gsa) THAT YtgbdeloefdhmlaaDoorProg.lean LOADS. Nothing in Lean hashes anything: it is a label: what it is worth is what the hold of that sum in a sandbox is worth. -/
noncomputable def Tryd.pinned : Pinned := { name := "ytgbdeloefdhmlaadoor", sum := "069fa9f73d05f560a0f7b9033cba38a9d59b6c28e5004312e47f535a2d78696e", checked := Tryd.checked }
namespace Rows
def none {H : Type} : Left H := { results := [], args := [] }

/- WHAT THE LISTED PACKAGE-LEVEL VARIABLES READ AS WHEN THE CALL BEGINS. Each datum BY PROGRAM (the guide's laid-datum.mjs) off the statement by which the dump's own 'gosem.cut.vars' lays the variable. In a bare row this is a premise. The card (YtgbdeloefdhmlaaDoorCards.lean) ties it to the program's text. -/
def laid_mullion_octal_digits {H : Type} : DataW H := .agg [.lit (.int .u8 48), .lit (.int .u8 49), .lit (.int .u8 50), .lit (.int .u8 51), .lit (.int .u8 52), .lit (.int .u8 53), .lit (.int .u8 54), .lit (.int .u8 55)]

/-- 'mullionlaw01.OctalEscapes': WHATEVER THE INPUT: true; the input reads as it did. -/
def octalEscapesSpec : ChangeSpec := { name := "octalEscapes", fn := fun _ => fun
  | [d] => { results := [.lit (.bool true)], args := [d] }
  | _ => none }
def octalEscapesRow : OpenClaim := { program := "ytgbdeloefdhmlaadoor", sum := "069fa9f73d05f560a0f7b9033cba38a9d59b6c28e5004312e47f535a2d78696e", func := "mullion/mullionlaw01.OctalEscapes", spec := "octalEscapes", inPlace := ["internal/abi.NoEscape"], named := ["mullion/octal.digits"], apart := false, laid := [("mullion/octal.digits", laid_mullion_octal_digits)] }
def OctalEscapesSaid : Prop := octalEscapesRow.holds Tryd.pinned (OpenSpec.ofChange octalEscapesSpec)

/-- ITS FALSE NEIGHBOUR: 'it returns false'. Refute it at one input. -/
def octalEscapesWrong : ChangeSpec := { name := "octalEscapes", fn := fun _ => fun
  | [d] => { results := [.lit (.bool false)], args := [d] }
  | _ => none }
def OctalEscapesWrongFalsely : Prop := octalEscapesRow.holds Tryd.pinned (OpenSpec.ofChange octalEscapesWrong)

/-- 'mullionlaw01.OctalJoins': WHATEVER THE INPUT: true; the input reads as it did. -/
def octalJoinsSpec : ChangeSpec := { name := "octalJoins", fn := fun _ => fun
  | [d1, d2] => { results := [.lit (.bool true)], args := [d1, d2] }
  | _ => none }
def octalJoinsRow : OpenClaim := { program := "ytgbdeloefdhmlaadoor", sum := "069fa9f73d05f560a0f7b9033cba38a9d59b6c28e5004312e47f535a2d78696e", func := "mullion/mullionlaw01.OctalJoins", spec := "octalJoins", inPlace := ["internal/abi.NoEscape"], named := ["mullion/octal.digits"], apart := false, laid := [("mullion/octal.digits", laid_mullion_octal_digits)] }
def OctalJoinsSaid : Prop := octalJoinsRow.holds Tryd.pinned (OpenSpec.ofChange octalJoinsSpec)

/-- ITS FALSE NEIGHBOUR: 'it returns false'. Refute it at one input. -/
def octalJoinsWrong : ChangeSpec := { name := "octalJoins", fn := fun _ => fun
  | [d1, d2] => { results := [.lit (.bool false)], args := [d1, d2] }
  | _ => none }
def OctalJoinsWrongFalsely : Prop := octalJoinsRow.holds Tryd.pinned (OpenSpec.ofChange octalJoinsWrong)

/-- 'mullionlaw01.OctalOne': WHATEVER THE INPUT: true; the input reads as it did. -/
def octalOneSpec : ChangeSpec := { name := "octalOne", fn := fun _ => fun
  | [d1, d2] => { results := [.lit (.bool true)], args := [d1, d2] }
  | _ => none }
def octalOneRow : OpenClaim := { program := "ytgbdeloefdhmlaadoor", sum := "069fa9f73d05f560a0f7b9033cba38a9d59b6c28e5004312e47f535a2d78696e", func := "mullion/mullionlaw01.OctalOne", spec := "octalOne", inPlace := ["internal/abi.NoEscape"], named := ["mullion/octal.digits"], apart := false, laid := [("mullion/octal.digits", laid_mullion_octal_digits)] }
def OctalOneSaid : Prop := octalOneRow.holds Tryd.pinned (OpenSpec.ofChange octalOneSpec)

/-- ITS FALSE NEIGHBOUR: 'it returns false'. Refute it at one input. -/
def octalOneWrong : ChangeSpec := { name := "octalOne", fn := fun _ => fun
  | [d1, d2] => { results := [.lit (.bool false)], args := [d1, d2] }
  | _ => none }
def OctalOneWrongFalsely : Prop := octalOneRow.holds Tryd.pinned (OpenSpec.ofChange octalOneWrong)

/-- 'mullionlaw01.OctalSafe': WHATEVER THE INPUT: true; the input reads as it did. -/
def octalSafeSpec : ChangeSpec := { name := "octalSafe", fn := fun _ => fun
  | [d] => { results := [.lit (.bool true)], args := [d] }
  | _ => none }
def octalSafeRow : OpenClaim := { program := "ytgbdeloefdhmlaadoor", sum := "069fa9f73d05f560a0f7b9033cba38a9d59b6c28e5004312e47f535a2d78696e", func := "mullion/mullionlaw01.OctalSafe", spec := "octalSafe", inPlace := ["internal/abi.NoEscape"], named := ["mullion/octal.digits"], apart := false, laid := [("mullion/octal.digits", laid_mullion_octal_digits)] }
def OctalSafeSaid : Prop := octalSafeRow.holds Tryd.pinned (OpenSpec.ofChange octalSafeSpec)

/-- ITS FALSE NEIGHBOUR: 'it returns false'. Refute it at one input. -/
def octalSafeWrong : ChangeSpec := { name := "octalSafe", fn := fun _ => fun
  | [d] => { results := [.lit (.bool false)], args := [d] }
  | _ => none }
def OctalSafeWrongFalsely : Prop := octalSafeRow.holds Tryd.pinned (OpenSpec.ofChange octalSafeWrong)

/- THE SECOND FORM. 'bulk': how many values and letters a reading holds, each counted each time it is reached (what is shared counts as often as it is met; a slice's spare places count too). A statement '..UptoSaid' is the law's where the arguments, and the package variables that the reading takes, are together of bulk at most 1048576: NARROWER than '..Said'. Prove '..Said' where nothing that the law and all that it calls make is longer than what came in: it says more and counts as full. Else prove '..UptoSaid'. A law counts once. -/
mutual
def uptoBulk {H : Type} : DataW H → Nat
  | .lit (.string bytes) => bytes.length + 1
  | .lit _ => 1
  | .nil => 1
  | .ptr d => uptoBulk d + 1
  | .slice elems spare => uptoBulkAll elems + uptoBulkAll spare + 1
  | .agg parts => uptoBulkAll parts + 1
  | .iface _ d => uptoBulk d + 1
  | .map entries => uptoBulkEntries entries + 1
  | .held _ => 1
def uptoBulkAll {H : Type} : List (DataW H) → Nat
  | [] => 0
  | d :: r => uptoBulk d + uptoBulkAll r
def uptoBulkEntries {H : Type} : List (Lit × DataW H) → Nat
  | [] => 0
  | x :: r => uptoBulkEntry x + uptoBulkEntries r
def uptoBulkEntry {H : Type} : Lit × DataW H → Nat
  | (.string bytes, d) => bytes.length + uptoBulk d + 1
  | (_, d) => uptoBulk d + 1
 end
def uptoSmall : (H : Type) → List (DataW H) → Bool := fun _ ds => decide (uptoBulkAll ds ≤ 1048576)
def OpenSpec.upto (s : _root_.Go.ChangeSpec) : _root_.Go.OpenSpec := { _root_.Go.OpenSpec.ofChange s with cond := some uptoSmall }

/-- 'mullionlaw01.OctalEscapes', WHERE WHAT IT READS IS OF BULK AT MOST 1048576: true; the input reads as it did. -/
def octalEscapesUptoRow : OpenClaim := { program := "ytgbdeloefdhmlaadoor", sum := "069fa9f73d05f560a0f7b9033cba38a9d59b6c28e5004312e47f535a2d78696e", func := "mullion/mullionlaw01.OctalEscapes", spec := "octalEscapes", inPlace := ["internal/abi.NoEscape"], named := ["mullion/octal.digits"], apart := false, laid := [("mullion/octal.digits", laid_mullion_octal_digits)], narrowed := true }
def OctalEscapesUptoSaid : Prop := octalEscapesUptoRow.holds Tryd.pinned (OpenSpec.upto octalEscapesSpec)

/-- 'mullionlaw01.OctalJoins', WHERE WHAT IT READS IS OF BULK AT MOST 1048576: true; the input reads as it did. -/
def octalJoinsUptoRow : OpenClaim := { program := "ytgbdeloefdhmlaadoor", sum := "069fa9f73d05f560a0f7b9033cba38a9d59b6c28e5004312e47f535a2d78696e", func := "mullion/mullionlaw01.OctalJoins", spec := "octalJoins", inPlace := ["internal/abi.NoEscape"], named := ["mullion/octal.digits"], apart := false, laid := [("mullion/octal.digits", laid_mullion_octal_digits)], narrowed := true }
def OctalJoinsUptoSaid : Prop := octalJoinsUptoRow.holds Tryd.pinned (OpenSpec.upto octalJoinsSpec)

/-- 'mullionlaw01.OctalOne', WHERE WHAT IT READS IS OF BULK AT MOST 1048576: true; the input reads as it did. -/
def octalOneUptoRow : OpenClaim := { program := "ytgbdeloefdhmlaadoor", sum := "069fa9f73d05f560a0f7b9033cba38a9d59b6c28e5004312e47f535a2d78696e", func := "mullion/mullionlaw01.OctalOne", spec := "octalOne", inPlace := ["internal/abi.NoEscape"], named := ["mullion/octal.digits"], apart := false, laid := [("mullion/octal.digits", laid_mullion_octal_digits)], narrowed := true }
def OctalOneUptoSaid : Prop := octalOneUptoRow.holds Tryd.pinned (OpenSpec.upto octalOneSpec)

/-- 'mullionlaw01.OctalSafe', WHERE WHAT IT READS IS OF BULK AT MOST 1048576: true; the input reads as it did. -/
def octalSafeUptoRow : OpenClaim := { program := "ytgbdeloefdhmlaadoor", sum := "069fa9f73d05f560a0f7b9033cba38a9d59b6c28e5004312e47f535a2d78696e", func := "mullion/mullionlaw01.OctalSafe", spec := "octalSafe", inPlace := ["internal/abi.NoEscape"], named := ["mullion/octal.digits"], apart := false, laid := [("mullion/octal.digits", laid_mullion_octal_digits)], narrowed := true }
def OctalSafeUptoSaid : Prop := octalSafeUptoRow.holds Tryd.pinned (OpenSpec.upto octalSafeSpec)

end Rows
end Go.Proofs.YtgbdeloefdhmlaaDoor
