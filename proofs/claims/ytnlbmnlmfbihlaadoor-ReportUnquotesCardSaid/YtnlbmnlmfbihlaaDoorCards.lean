/-
  DERIVED. GIVEN WITH THE SEED: THE CARDS: each row of YtnlbmnlmfbihlaaDoorRows.lean that lists a variable, with what it lists TIED to the program's text (the seventh form; the later family's looks); each row that meets fmt, with fmt's text TOLD by the authors' own Lean function (tested against real Go, not proved from fmt's source: count such statements apart). THE CARD IS WHAT COUNTS. Prove the row's statement (the work); the ties are given (YtnlbmnlmfbihlaaDoorTie.lean); close each card by the builder's one call (the guide's Derived/Test/ToyasCard.lean, 'card_holds'). Laid BY PROGRAM, IN A SANDBOX (cutbox-door.mjs). By AI agents, Wed Nov 11 2026. No macro, syntax, notation, axiom, sorry.
-/
import Derived.Test.YtnlbmnlmfbihlaaDoorRows
import GoSem.ClaimSeven
namespace Go.Proofs.YtnlbmnlmfbihlaaDoor
namespace Rows

/-- THE TIED CARD OF 'oriellaw25.ReportQuotes'. -/
def reportQuotesCard : Claim7 := { stood := { row := reportQuotesRow, standIns := [], harness := (true, "ed265afafee0d32afd8e9bd4d5d3c5ae331fc4fc54798b517c1cb33c49b5d18f"), looks := false }, kinds := [], alts := [], laidByText := true, laidKinds := [.data, .data, .data], laidTests := true, laidLooks := .later }
def ReportQuotesCardSaid : Prop := Claim7.holds Tryd.pinned (.plain (OpenSpec.ofChange reportQuotesSpec)) reportQuotesCard

/-- THE TIED CARD OF 'oriellaw25.ReportUnquotes'. -/
def reportUnquotesCard : Claim7 := { stood := { row := reportUnquotesRow, standIns := [], harness := (true, "ed265afafee0d32afd8e9bd4d5d3c5ae331fc4fc54798b517c1cb33c49b5d18f"), looks := false }, kinds := [], alts := [], laidByText := true, laidKinds := [.data, .data, .data], laidTests := true, laidLooks := .later }
def ReportUnquotesCardSaid : Prop := Claim7.holds Tryd.pinned (.plain (OpenSpec.ofChange reportUnquotesSpec)) reportUnquotesCard

/-- THE TIED CARD OF 'oriellaw25.ReportOne'. -/
def reportOneCard : Claim7 := { stood := { row := reportOneRow, standIns := [], harness := (true, "ed265afafee0d32afd8e9bd4d5d3c5ae331fc4fc54798b517c1cb33c49b5d18f"), looks := false }, kinds := [], alts := [], laidByText := true, laidKinds := [.data, .data, .data], laidTests := true, laidLooks := .later }
def ReportOneCardSaid : Prop := Claim7.holds Tryd.pinned (.plain (OpenSpec.ofChange reportOneSpec)) reportOneCard

/-- THE SECOND FORM's CARD OF 'oriellaw25.ReportQuotes'. -/
def reportQuotesUptoCard : Claim7 := { stood := { row := reportQuotesUptoRow, standIns := [], harness := (true, "ed265afafee0d32afd8e9bd4d5d3c5ae331fc4fc54798b517c1cb33c49b5d18f"), looks := false }, kinds := [], alts := [], laidByText := true, laidKinds := [.data, .data, .data], laidTests := true, laidLooks := .later }
def ReportQuotesUptoCardSaid : Prop := Claim7.holds Tryd.pinned (.plain (OpenSpec.upto reportQuotesSpec)) reportQuotesUptoCard

/-- THE SECOND FORM's CARD OF 'oriellaw25.ReportUnquotes'. -/
def reportUnquotesUptoCard : Claim7 := { stood := { row := reportUnquotesUptoRow, standIns := [], harness := (true, "ed265afafee0d32afd8e9bd4d5d3c5ae331fc4fc54798b517c1cb33c49b5d18f"), looks := false }, kinds := [], alts := [], laidByText := true, laidKinds := [.data, .data, .data], laidTests := true, laidLooks := .later }
def ReportUnquotesUptoCardSaid : Prop := Claim7.holds Tryd.pinned (.plain (OpenSpec.upto reportUnquotesSpec)) reportUnquotesUptoCard

/-- THE SECOND FORM's CARD OF 'oriellaw25.ReportOne'. -/
def reportOneUptoCard : Claim7 := { stood := { row := reportOneUptoRow, standIns := [], harness := (true, "ed265afafee0d32afd8e9bd4d5d3c5ae331fc4fc54798b517c1cb33c49b5d18f"), looks := false }, kinds := [], alts := [], laidByText := true, laidKinds := [.data, .data, .data], laidTests := true, laidLooks := .later }
def ReportOneUptoCardSaid : Prop := Claim7.holds Tryd.pinned (.plain (OpenSpec.upto reportOneSpec)) reportOneUptoCard
end Rows
end Go.Proofs.YtnlbmnlmfbihlaaDoor
