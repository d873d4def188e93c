/-
  DERIVED. GIVEN WITH THE SEED: THE CARDS: each row of YtgbdeloefdhmlaaDoorRows.lean that lists a variable, with what it lists TIED to the program's text (the seventh form; the later family's looks); each row that meets fmt, with fmt's text TOLD by the authors' own Lean function (tested against real Go, not proved from fmt's source: count such statements apart). THE CARD IS WHAT COUNTS. Prove the row's statement (the work); the ties are given (YtgbdeloefdhmlaaDoorTie.lean); close each card by the builder's one call (the guide's Derived/Test/ToyasCard.lean, 'card_holds'). Laid BY PROGRAM, IN A SANDBOX (cutbox-door.mjs). By AI agents, Wed Nov 11 2026. No macro, syntax, notation, axiom, sorry.
-/
import Derived.Test.YtgbdeloefdhmlaaDoorRows
import GoSem.ClaimSeven
namespace Go.Proofs.YtgbdeloefdhmlaaDoor
namespace Rows

/-- THE TIED CARD OF 'mullionlaw01.OctalEscapes'. -/
def octalEscapesCard : Claim7 := { stood := { row := octalEscapesRow, standIns := [], harness := (true, "70df6cfcdf10643b55233647c8fb93ed442a4a525dc909b91cc3bde00b794f71"), looks := false }, kinds := [], alts := [], laidByText := true, laidKinds := [.data], laidTests := true, laidLooks := .later }
def OctalEscapesCardSaid : Prop := Claim7.holds Tryd.pinned (.plain (OpenSpec.ofChange octalEscapesSpec)) octalEscapesCard

/-- THE TIED CARD OF 'mullionlaw01.OctalJoins'. -/
def octalJoinsCard : Claim7 := { stood := { row := octalJoinsRow, standIns := [], harness := (true, "70df6cfcdf10643b55233647c8fb93ed442a4a525dc909b91cc3bde00b794f71"), looks := false }, kinds := [], alts := [], laidByText := true, laidKinds := [.data], laidTests := true, laidLooks := .later }
def OctalJoinsCardSaid : Prop := Claim7.holds Tryd.pinned (.plain (OpenSpec.ofChange octalJoinsSpec)) octalJoinsCard

/-- THE TIED CARD OF 'mullionlaw01.OctalOne'. -/
def octalOneCard : Claim7 := { stood := { row := octalOneRow, standIns := [], harness := (true, "70df6cfcdf10643b55233647c8fb93ed442a4a525dc909b91cc3bde00b794f71"), looks := false }, kinds := [], alts := [], laidByText := true, laidKinds := [.data], laidTests := true, laidLooks := .later }
def OctalOneCardSaid : Prop := Claim7.holds Tryd.pinned (.plain (OpenSpec.ofChange octalOneSpec)) octalOneCard

/-- THE TIED CARD OF 'mullionlaw01.OctalSafe'. -/
def octalSafeCard : Claim7 := { stood := { row := octalSafeRow, standIns := [], harness := (true, "70df6cfcdf10643b55233647c8fb93ed442a4a525dc909b91cc3bde00b794f71"), looks := false }, kinds := [], alts := [], laidByText := true, laidKinds := [.data], laidTests := true, laidLooks := .later }
def OctalSafeCardSaid : Prop := Claim7.holds Tryd.pinned (.plain (OpenSpec.ofChange octalSafeSpec)) octalSafeCard

/-- THE SECOND FORM's CARD OF 'mullionlaw01.OctalEscapes'. -/
def octalEscapesUptoCard : Claim7 := { stood := { row := octalEscapesUptoRow, standIns := [], harness := (true, "70df6cfcdf10643b55233647c8fb93ed442a4a525dc909b91cc3bde00b794f71"), looks := false }, kinds := [], alts := [], laidByText := true, laidKinds := [.data], laidTests := true, laidLooks := .later }
def OctalEscapesUptoCardSaid : Prop := Claim7.holds Tryd.pinned (.plain (OpenSpec.upto octalEscapesSpec)) octalEscapesUptoCard

/-- THE SECOND FORM's CARD OF 'mullionlaw01.OctalJoins'. -/
def octalJoinsUptoCard : Claim7 := { stood := { row := octalJoinsUptoRow, standIns := [], harness := (true, "70df6cfcdf10643b55233647c8fb93ed442a4a525dc909b91cc3bde00b794f71"), looks := false }, kinds := [], alts := [], laidByText := true, laidKinds := [.data], laidTests := true, laidLooks := .later }
def OctalJoinsUptoCardSaid : Prop := Claim7.holds Tryd.pinned (.plain (OpenSpec.upto octalJoinsSpec)) octalJoinsUptoCard

/-- THE SECOND FORM's CARD OF 'mullionlaw01.OctalOne'. -/
def octalOneUptoCard : Claim7 := { stood := { row := octalOneUptoRow, standIns := [], harness := (true, "70df6cfcdf10643b55233647c8fb93ed442a4a525dc909b91cc3bde00b794f71"), looks := false }, kinds := [], alts := [], laidByText := true, laidKinds := [.data], laidTests := true, laidLooks := .later }
def OctalOneUptoCardSaid : Prop := Claim7.holds Tryd.pinned (.plain (OpenSpec.upto octalOneSpec)) octalOneUptoCard

/-- THE SECOND FORM's CARD OF 'mullionlaw01.OctalSafe'. -/
def octalSafeUptoCard : Claim7 := { stood := { row := octalSafeUptoRow, standIns := [], harness := (true, "70df6cfcdf10643b55233647c8fb93ed442a4a525dc909b91cc3bde00b794f71"), looks := false }, kinds := [], alts := [], laidByText := true, laidKinds := [.data], laidTests := true, laidLooks := .later }
def OctalSafeUptoCardSaid : Prop := Claim7.holds Tryd.pinned (.plain (OpenSpec.upto octalSafeSpec)) octalSafeUptoCard
end Rows
end Go.Proofs.YtgbdeloefdhmlaaDoor
