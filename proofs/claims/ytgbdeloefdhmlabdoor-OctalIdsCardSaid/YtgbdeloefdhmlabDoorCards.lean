/-
  DERIVED. GIVEN WITH THE SEED: THE CARDS: each row of YtgbdeloefdhmlabDoorRows.lean that lists a variable, with what it lists TIED to the program's text (the seventh form; the later family's looks); each row that meets fmt, with fmt's text TOLD by the authors' own Lean function (tested against real Go, not proved from fmt's source: count such statements apart). THE CARD IS WHAT COUNTS. Prove the row's statement (the work); the ties are given (YtgbdeloefdhmlabDoorTie.lean); close each card by the builder's one call (the guide's Derived/Test/ToyasCard.lean, 'card_holds'). Laid BY PROGRAM, IN A SANDBOX (cutbox-door.mjs). By AI agents, Wed Nov 11 2026. No macro, syntax, notation, axiom, sorry.
-/
import Derived.Test.YtgbdeloefdhmlabDoorRows
import GoSem.ClaimSeven
namespace Go.Proofs.YtgbdeloefdhmlabDoor
namespace Rows

/-- THE TIED CARD OF 'mullionlaw01.OctalBack'. -/
def octalBackCard : Claim7 := { stood := { row := octalBackRow, standIns := [], harness := (true, "df658ced74f9d275b3e980fbf782ada223fb8e5785c209dcea11e9bee75fda3c"), looks := true }, kinds := [], alts := [], laidByText := true, laidKinds := [.data], laidTests := true, laidLooks := .later }
def OctalBackCardSaid : Prop := Claim7.holds Tryd.pinned (.plain (OpenSpec.ofChange octalBackSpec)) octalBackCard

/-- THE TIED CARD OF 'mullionlaw01.OctalForth'. -/
def octalForthCard : Claim7 := { stood := { row := octalForthRow, standIns := [], harness := (true, "df658ced74f9d275b3e980fbf782ada223fb8e5785c209dcea11e9bee75fda3c"), looks := true }, kinds := [], alts := [], laidByText := true, laidKinds := [.data], laidTests := true, laidLooks := .later }
def OctalForthCardSaid : Prop := Claim7.holds Tryd.pinned (.plain (OpenSpec.ofChange octalForthSpec)) octalForthCard

/-- THE TIED CARD OF 'mullionlaw01.OctalNumbers'. -/
def octalNumbersCard : Claim7 := { stood := { row := octalNumbersRow, standIns := [], harness := (true, "df658ced74f9d275b3e980fbf782ada223fb8e5785c209dcea11e9bee75fda3c"), looks := true }, kinds := [], alts := [], laidByText := true, laidKinds := [.data, .data, .data, .sentinel, .sentinel], laidTests := true, laidLooks := .later }
def OctalNumbersCardSaid : Prop := Claim7.holds Tryd.pinned (.plain (OpenSpec.ofChange octalNumbersSpec)) octalNumbersCard

/-- THE TIED CARD OF 'mullionlaw01.OctalIds'. -/
def octalIdsCard : Claim7 := { stood := { row := octalIdsRow, standIns := [], harness := (true, "df658ced74f9d275b3e980fbf782ada223fb8e5785c209dcea11e9bee75fda3c"), looks := true }, kinds := [], alts := [], laidByText := true, laidKinds := [.data, .data, .data, .sentinel, .sentinel], laidTests := true, laidLooks := .later }
def OctalIdsCardSaid : Prop := Claim7.holds Tryd.pinned (.plain (OpenSpec.ofChange octalIdsSpec)) octalIdsCard

/-- THE TIED CARD OF 'mullionlaw01.OctalCounts'. -/
def octalCountsCard : Claim7 := { stood := { row := octalCountsRow, standIns := [], harness := (true, "df658ced74f9d275b3e980fbf782ada223fb8e5785c209dcea11e9bee75fda3c"), looks := true }, kinds := [], alts := [], laidByText := true, laidKinds := [.data, .data, .data, .sentinel, .sentinel], laidTests := true, laidLooks := .later }
def OctalCountsCardSaid : Prop := Claim7.holds Tryd.pinned (.plain (OpenSpec.ofChange octalCountsSpec)) octalCountsCard

/-- THE TIED CARD OF 'mullionlaw05.PlanTexts'. -/
def planTextsCard : Claim7 := { stood := { row := planTextsRow, standIns := [], harness := (true, "df658ced74f9d275b3e980fbf782ada223fb8e5785c209dcea11e9bee75fda3c"), looks := true }, kinds := [], alts := [], laidByText := true, laidKinds := [.data, .data, .data, .sentinel, .sentinel], laidTests := true, laidLooks := .later }
def PlanTextsCardSaid : Prop := Claim7.holds Tryd.pinned (.plain (OpenSpec.ofChange planTextsSpec)) planTextsCard

/-- THE TIED CARD OF 'mullionlaw05.PlanParses'. -/
def planParsesCard : Claim7 := { stood := { row := planParsesRow, standIns := [], harness := (true, "df658ced74f9d275b3e980fbf782ada223fb8e5785c209dcea11e9bee75fda3c"), looks := true }, kinds := [], alts := [], laidByText := true, laidKinds := [.data, .data, .data, .sentinel, .sentinel], laidTests := true, laidLooks := .later }
def PlanParsesCardSaid : Prop := Claim7.holds Tryd.pinned (.plain (OpenSpec.ofChange planParsesSpec)) planParsesCard

/-- THE TIED CARD OF 'mullionlaw05.PlanBack'. -/
def planBackCard : Claim7 := { stood := { row := planBackRow, standIns := [], harness := (true, "df658ced74f9d275b3e980fbf782ada223fb8e5785c209dcea11e9bee75fda3c"), looks := true }, kinds := [], alts := [], laidByText := true, laidKinds := [.data, .data, .data, .sentinel, .sentinel], laidTests := true, laidLooks := .later }
def PlanBackCardSaid : Prop := Claim7.holds Tryd.pinned (.plain (OpenSpec.ofChange planBackSpec)) planBackCard

/-- THE TIED CARD OF 'mullionlaw05.PlanForth'. -/
def planForthCard : Claim7 := { stood := { row := planForthRow, standIns := [], harness := (true, "df658ced74f9d275b3e980fbf782ada223fb8e5785c209dcea11e9bee75fda3c"), looks := true }, kinds := [], alts := [], laidByText := true, laidKinds := [.data, .data, .data, .sentinel, .sentinel], laidTests := true, laidLooks := .later }
def PlanForthCardSaid : Prop := Claim7.holds Tryd.pinned (.plain (OpenSpec.ofChange planForthSpec)) planForthCard

/-- THE TIED CARD OF 'mullionlaw05.PlanByte'. -/
def planByteCard : Claim7 := { stood := { row := planByteRow, standIns := [], harness := (true, "df658ced74f9d275b3e980fbf782ada223fb8e5785c209dcea11e9bee75fda3c"), looks := true }, kinds := [], alts := [], laidByText := true, laidKinds := [.data, .data, .data, .sentinel, .sentinel], laidTests := true, laidLooks := .later }
def PlanByteCardSaid : Prop := Claim7.holds Tryd.pinned (.plain (OpenSpec.ofChange planByteSpec)) planByteCard

/-- THE TIED CARD OF 'mullionlaw05.PlanRepanes'. -/
def planRepanesCard : Claim7 := { stood := { row := planRepanesRow, standIns := [], harness := (true, "df658ced74f9d275b3e980fbf782ada223fb8e5785c209dcea11e9bee75fda3c"), looks := true }, kinds := [], alts := [], laidByText := true, laidKinds := [.data, .data, .data, .sentinel, .sentinel], laidTests := true, laidLooks := .later }
def PlanRepanesCardSaid : Prop := Claim7.holds Tryd.pinned (.plain (OpenSpec.ofChange planRepanesSpec)) planRepanesCard

/-- THE SECOND FORM's CARD OF 'mullionlaw01.OctalBack'. -/
def octalBackUptoCard : Claim7 := { stood := { row := octalBackUptoRow, standIns := [], harness := (true, "df658ced74f9d275b3e980fbf782ada223fb8e5785c209dcea11e9bee75fda3c"), looks := true }, kinds := [], alts := [], laidByText := true, laidKinds := [.data], laidTests := true, laidLooks := .later }
def OctalBackUptoCardSaid : Prop := Claim7.holds Tryd.pinned (.plain (OpenSpec.upto octalBackSpec)) octalBackUptoCard

/-- THE SECOND FORM's CARD OF 'mullionlaw01.OctalForth'. -/
def octalForthUptoCard : Claim7 := { stood := { row := octalForthUptoRow, standIns := [], harness := (true, "df658ced74f9d275b3e980fbf782ada223fb8e5785c209dcea11e9bee75fda3c"), looks := true }, kinds := [], alts := [], laidByText := true, laidKinds := [.data], laidTests := true, laidLooks := .later }
def OctalForthUptoCardSaid : Prop := Claim7.holds Tryd.pinned (.plain (OpenSpec.upto octalForthSpec)) octalForthUptoCard

/-- THE SECOND FORM's CARD OF 'mullionlaw01.OctalNumbers'. -/
def octalNumbersUptoCard : Claim7 := { stood := { row := octalNumbersUptoRow, standIns := [], harness := (true, "df658ced74f9d275b3e980fbf782ada223fb8e5785c209dcea11e9bee75fda3c"), looks := true }, kinds := [], alts := [], laidByText := true, laidKinds := [.data, .data, .data, .sentinel, .sentinel], laidTests := true, laidLooks := .later }
def OctalNumbersUptoCardSaid : Prop := Claim7.holds Tryd.pinned (.plain (OpenSpec.upto octalNumbersSpec)) octalNumbersUptoCard

/-- THE SECOND FORM's CARD OF 'mullionlaw01.OctalIds'. -/
def octalIdsUptoCard : Claim7 := { stood := { row := octalIdsUptoRow, standIns := [], harness := (true, "df658ced74f9d275b3e980fbf782ada223fb8e5785c209dcea11e9bee75fda3c"), looks := true }, kinds := [], alts := [], laidByText := true, laidKinds := [.data, .data, .data, .sentinel, .sentinel], laidTests := true, laidLooks := .later }
def OctalIdsUptoCardSaid : Prop := Claim7.holds Tryd.pinned (.plain (OpenSpec.upto octalIdsSpec)) octalIdsUptoCard

/-- THE SECOND FORM's CARD OF 'mullionlaw01.OctalCounts'. -/
def octalCountsUptoCard : Claim7 := { stood := { row := octalCountsUptoRow, standIns := [], harness := (true, "df658ced74f9d275b3e980fbf782ada223fb8e5785c209dcea11e9bee75fda3c"), looks := true }, kinds := [], alts := [], laidByText := true, laidKinds := [.data, .data, .data, .sentinel, .sentinel], laidTests := true, laidLooks := .later }
def OctalCountsUptoCardSaid : Prop := Claim7.holds Tryd.pinned (.plain (OpenSpec.upto octalCountsSpec)) octalCountsUptoCard

/-- THE SECOND FORM's CARD OF 'mullionlaw05.PlanTexts'. -/
def planTextsUptoCard : Claim7 := { stood := { row := planTextsUptoRow, standIns := [], harness := (true, "df658ced74f9d275b3e980fbf782ada223fb8e5785c209dcea11e9bee75fda3c"), looks := true }, kinds := [], alts := [], laidByText := true, laidKinds := [.data, .data, .data, .sentinel, .sentinel], laidTests := true, laidLooks := .later }
def PlanTextsUptoCardSaid : Prop := Claim7.holds Tryd.pinned (.plain (OpenSpec.upto planTextsSpec)) planTextsUptoCard

/-- THE SECOND FORM's CARD OF 'mullionlaw05.PlanParses'. -/
def planParsesUptoCard : Claim7 := { stood := { row := planParsesUptoRow, standIns := [], harness := (true, "df658ced74f9d275b3e980fbf782ada223fb8e5785c209dcea11e9bee75fda3c"), looks := true }, kinds := [], alts := [], laidByText := true, laidKinds := [.data, .data, .data, .sentinel, .sentinel], laidTests := true, laidLooks := .later }
def PlanParsesUptoCardSaid : Prop := Claim7.holds Tryd.pinned (.plain (OpenSpec.upto planParsesSpec)) planParsesUptoCard

/-- THE SECOND FORM's CARD OF 'mullionlaw05.PlanBack'. -/
def planBackUptoCard : Claim7 := { stood := { row := planBackUptoRow, standIns := [], harness := (true, "df658ced74f9d275b3e980fbf782ada223fb8e5785c209dcea11e9bee75fda3c"), looks := true }, kinds := [], alts := [], laidByText := true, laidKinds := [.data, .data, .data, .sentinel, .sentinel], laidTests := true, laidLooks := .later }
def PlanBackUptoCardSaid : Prop := Claim7.holds Tryd.pinned (.plain (OpenSpec.upto planBackSpec)) planBackUptoCard

/-- THE SECOND FORM's CARD OF 'mullionlaw05.PlanForth'. -/
def planForthUptoCard : Claim7 := { stood := { row := planForthUptoRow, standIns := [], harness := (true, "df658ced74f9d275b3e980fbf782ada223fb8e5785c209dcea11e9bee75fda3c"), looks := true }, kinds := [], alts := [], laidByText := true, laidKinds := [.data, .data, .data, .sentinel, .sentinel], laidTests := true, laidLooks := .later }
def PlanForthUptoCardSaid : Prop := Claim7.holds Tryd.pinned (.plain (OpenSpec.upto planForthSpec)) planForthUptoCard

/-- THE SECOND FORM's CARD OF 'mullionlaw05.PlanByte'. -/
def planByteUptoCard : Claim7 := { stood := { row := planByteUptoRow, standIns := [], harness := (true, "df658ced74f9d275b3e980fbf782ada223fb8e5785c209dcea11e9bee75fda3c"), looks := true }, kinds := [], alts := [], laidByText := true, laidKinds := [.data, .data, .data, .sentinel, .sentinel], laidTests := true, laidLooks := .later }
def PlanByteUptoCardSaid : Prop := Claim7.holds Tryd.pinned (.plain (OpenSpec.upto planByteSpec)) planByteUptoCard

/-- THE SECOND FORM's CARD OF 'mullionlaw05.PlanRepanes'. -/
def planRepanesUptoCard : Claim7 := { stood := { row := planRepanesUptoRow, standIns := [], harness := (true, "df658ced74f9d275b3e980fbf782ada223fb8e5785c209dcea11e9bee75fda3c"), looks := true }, kinds := [], alts := [], laidByText := true, laidKinds := [.data, .data, .data, .sentinel, .sentinel], laidTests := true, laidLooks := .later }
def PlanRepanesUptoCardSaid : Prop := Claim7.holds Tryd.pinned (.plain (OpenSpec.upto planRepanesSpec)) planRepanesUptoCard
end Rows
end Go.Proofs.YtgbdeloefdhmlabDoor
