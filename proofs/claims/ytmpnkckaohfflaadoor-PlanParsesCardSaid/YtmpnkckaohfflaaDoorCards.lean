/-
  DERIVED. GIVEN WITH THE SEED: THE CARDS: each row of YtmpnkckaohfflaaDoorRows.lean that lists a variable, with what it lists TIED to the program's text (the seventh form; the later family's looks); each row that meets fmt, with fmt's text TOLD by the authors' own Lean function (tested against real Go, not proved from fmt's source: count such statements apart). THE CARD IS WHAT COUNTS. Prove the row's statement (the work); the ties are given (YtmpnkckaohfflaaDoorTie.lean); close each card by the builder's one call (the guide's Derived/Test/ToyasCard.lean, 'card_holds'). Laid BY PROGRAM, IN A SANDBOX (cutbox-door.mjs). By AI agents, Wed Nov 11 2026. No macro, syntax, notation, axiom, sorry.
-/
import Derived.Test.YtmpnkckaohfflaaDoorRows
import GoSem.ClaimSeven
namespace Go.Proofs.YtmpnkckaohfflaaDoor
namespace Rows

/-- THE TIED CARD OF 'mullionlaw05.PlanTexts'. -/
def planTextsCard : Claim7 := { stood := { row := planTextsRow, standIns := [], harness := (true, "140d83fdb57aee3796075c419189facd1a38e71de9736d1b49709ea567cccbf1"), looks := true }, kinds := [], alts := [], laidByText := true, laidKinds := [.data, .data, .data, .sentinel, .sentinel], laidTests := true, laidLooks := .later }
def PlanTextsCardSaid : Prop := Claim7.holds Tryd.pinned (.plain (OpenSpec.ofChange planTextsSpec)) planTextsCard

/-- THE TIED CARD OF 'mullionlaw05.PlanParses'. -/
def planParsesCard : Claim7 := { stood := { row := planParsesRow, standIns := [], harness := (true, "140d83fdb57aee3796075c419189facd1a38e71de9736d1b49709ea567cccbf1"), looks := true }, kinds := [], alts := [], laidByText := true, laidKinds := [.data, .data, .data, .sentinel, .sentinel], laidTests := true, laidLooks := .later }
def PlanParsesCardSaid : Prop := Claim7.holds Tryd.pinned (.plain (OpenSpec.ofChange planParsesSpec)) planParsesCard

/-- THE TIED CARD OF 'mullionlaw05.PlanBack'. -/
def planBackCard : Claim7 := { stood := { row := planBackRow, standIns := [], harness := (true, "140d83fdb57aee3796075c419189facd1a38e71de9736d1b49709ea567cccbf1"), looks := true }, kinds := [], alts := [], laidByText := true, laidKinds := [.data, .data, .data, .sentinel, .sentinel], laidTests := true, laidLooks := .later }
def PlanBackCardSaid : Prop := Claim7.holds Tryd.pinned (.plain (OpenSpec.ofChange planBackSpec)) planBackCard

/-- THE TIED CARD OF 'mullionlaw05.PlanForth'. -/
def planForthCard : Claim7 := { stood := { row := planForthRow, standIns := [], harness := (true, "140d83fdb57aee3796075c419189facd1a38e71de9736d1b49709ea567cccbf1"), looks := true }, kinds := [], alts := [], laidByText := true, laidKinds := [.data, .data, .data, .sentinel, .sentinel], laidTests := true, laidLooks := .later }
def PlanForthCardSaid : Prop := Claim7.holds Tryd.pinned (.plain (OpenSpec.ofChange planForthSpec)) planForthCard

/-- THE TIED CARD OF 'mullionlaw05.PlanByte'. -/
def planByteCard : Claim7 := { stood := { row := planByteRow, standIns := [], harness := (true, "140d83fdb57aee3796075c419189facd1a38e71de9736d1b49709ea567cccbf1"), looks := true }, kinds := [], alts := [], laidByText := true, laidKinds := [.data, .data, .data, .sentinel, .sentinel], laidTests := true, laidLooks := .later }
def PlanByteCardSaid : Prop := Claim7.holds Tryd.pinned (.plain (OpenSpec.ofChange planByteSpec)) planByteCard

/-- THE TIED CARD OF 'mullionlaw05.PlanRepanes'. -/
def planRepanesCard : Claim7 := { stood := { row := planRepanesRow, standIns := [], harness := (true, "140d83fdb57aee3796075c419189facd1a38e71de9736d1b49709ea567cccbf1"), looks := true }, kinds := [], alts := [], laidByText := true, laidKinds := [.data, .data, .data, .sentinel, .sentinel], laidTests := true, laidLooks := .later }
def PlanRepanesCardSaid : Prop := Claim7.holds Tryd.pinned (.plain (OpenSpec.ofChange planRepanesSpec)) planRepanesCard

/-- THE TIED CARD OF 'mullionlaw05.PlanOwn'. -/
def planOwnCard : Claim7 := { stood := { row := planOwnRow, standIns := [], harness := (true, "140d83fdb57aee3796075c419189facd1a38e71de9736d1b49709ea567cccbf1"), looks := true }, kinds := [], alts := [], laidByText := true, laidKinds := [.data, .data, .data, .sentinel, .sentinel], laidTests := true, laidLooks := .later }
def PlanOwnCardSaid : Prop := Claim7.holds Tryd.pinned (.plain (OpenSpec.ofChange planOwnSpec)) planOwnCard

/-- THE TIED CARD OF 'mullionlaw05.PlanOrder'. -/
def planOrderCard : Claim7 := { stood := { row := planOrderRow, standIns := [], harness := (true, "140d83fdb57aee3796075c419189facd1a38e71de9736d1b49709ea567cccbf1"), looks := true }, kinds := [], alts := [], laidByText := true, laidKinds := [.data, .data, .data, .sentinel, .sentinel], laidTests := true, laidLooks := .later }
def PlanOrderCardSaid : Prop := Claim7.holds Tryd.pinned (.plain (OpenSpec.ofChange planOrderSpec)) planOrderCard

/-- THE SECOND FORM's CARD OF 'mullionlaw05.PlanTexts'. -/
def planTextsUptoCard : Claim7 := { stood := { row := planTextsUptoRow, standIns := [], harness := (true, "140d83fdb57aee3796075c419189facd1a38e71de9736d1b49709ea567cccbf1"), looks := true }, kinds := [], alts := [], laidByText := true, laidKinds := [.data, .data, .data, .sentinel, .sentinel], laidTests := true, laidLooks := .later }
def PlanTextsUptoCardSaid : Prop := Claim7.holds Tryd.pinned (.plain (OpenSpec.upto planTextsSpec)) planTextsUptoCard

/-- THE SECOND FORM's CARD OF 'mullionlaw05.PlanParses'. -/
def planParsesUptoCard : Claim7 := { stood := { row := planParsesUptoRow, standIns := [], harness := (true, "140d83fdb57aee3796075c419189facd1a38e71de9736d1b49709ea567cccbf1"), looks := true }, kinds := [], alts := [], laidByText := true, laidKinds := [.data, .data, .data, .sentinel, .sentinel], laidTests := true, laidLooks := .later }
def PlanParsesUptoCardSaid : Prop := Claim7.holds Tryd.pinned (.plain (OpenSpec.upto planParsesSpec)) planParsesUptoCard

/-- THE SECOND FORM's CARD OF 'mullionlaw05.PlanBack'. -/
def planBackUptoCard : Claim7 := { stood := { row := planBackUptoRow, standIns := [], harness := (true, "140d83fdb57aee3796075c419189facd1a38e71de9736d1b49709ea567cccbf1"), looks := true }, kinds := [], alts := [], laidByText := true, laidKinds := [.data, .data, .data, .sentinel, .sentinel], laidTests := true, laidLooks := .later }
def PlanBackUptoCardSaid : Prop := Claim7.holds Tryd.pinned (.plain (OpenSpec.upto planBackSpec)) planBackUptoCard

/-- THE SECOND FORM's CARD OF 'mullionlaw05.PlanForth'. -/
def planForthUptoCard : Claim7 := { stood := { row := planForthUptoRow, standIns := [], harness := (true, "140d83fdb57aee3796075c419189facd1a38e71de9736d1b49709ea567cccbf1"), looks := true }, kinds := [], alts := [], laidByText := true, laidKinds := [.data, .data, .data, .sentinel, .sentinel], laidTests := true, laidLooks := .later }
def PlanForthUptoCardSaid : Prop := Claim7.holds Tryd.pinned (.plain (OpenSpec.upto planForthSpec)) planForthUptoCard

/-- THE SECOND FORM's CARD OF 'mullionlaw05.PlanByte'. -/
def planByteUptoCard : Claim7 := { stood := { row := planByteUptoRow, standIns := [], harness := (true, "140d83fdb57aee3796075c419189facd1a38e71de9736d1b49709ea567cccbf1"), looks := true }, kinds := [], alts := [], laidByText := true, laidKinds := [.data, .data, .data, .sentinel, .sentinel], laidTests := true, laidLooks := .later }
def PlanByteUptoCardSaid : Prop := Claim7.holds Tryd.pinned (.plain (OpenSpec.upto planByteSpec)) planByteUptoCard

/-- THE SECOND FORM's CARD OF 'mullionlaw05.PlanRepanes'. -/
def planRepanesUptoCard : Claim7 := { stood := { row := planRepanesUptoRow, standIns := [], harness := (true, "140d83fdb57aee3796075c419189facd1a38e71de9736d1b49709ea567cccbf1"), looks := true }, kinds := [], alts := [], laidByText := true, laidKinds := [.data, .data, .data, .sentinel, .sentinel], laidTests := true, laidLooks := .later }
def PlanRepanesUptoCardSaid : Prop := Claim7.holds Tryd.pinned (.plain (OpenSpec.upto planRepanesSpec)) planRepanesUptoCard

/-- THE SECOND FORM's CARD OF 'mullionlaw05.PlanOwn'. -/
def planOwnUptoCard : Claim7 := { stood := { row := planOwnUptoRow, standIns := [], harness := (true, "140d83fdb57aee3796075c419189facd1a38e71de9736d1b49709ea567cccbf1"), looks := true }, kinds := [], alts := [], laidByText := true, laidKinds := [.data, .data, .data, .sentinel, .sentinel], laidTests := true, laidLooks := .later }
def PlanOwnUptoCardSaid : Prop := Claim7.holds Tryd.pinned (.plain (OpenSpec.upto planOwnSpec)) planOwnUptoCard

/-- THE SECOND FORM's CARD OF 'mullionlaw05.PlanOrder'. -/
def planOrderUptoCard : Claim7 := { stood := { row := planOrderUptoRow, standIns := [], harness := (true, "140d83fdb57aee3796075c419189facd1a38e71de9736d1b49709ea567cccbf1"), looks := true }, kinds := [], alts := [], laidByText := true, laidKinds := [.data, .data, .data, .sentinel, .sentinel], laidTests := true, laidLooks := .later }
def PlanOrderUptoCardSaid : Prop := Claim7.holds Tryd.pinned (.plain (OpenSpec.upto planOrderSpec)) planOrderUptoCard
end Rows
end Go.Proofs.YtmpnkckaohfflaaDoor
