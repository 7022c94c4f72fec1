/-
  DERIVED. GIVEN WITH THE SEED: THE CARDS: each row of YtfccifekaokibaaDoorRows.lean that lists a variable, with what it lists TIED to the program's text (the seventh form; the later family's looks); each row that meets fmt, with fmt's text TOLD by the authors' own Lean function (tested against real Go, not proved from fmt's source: count such statements apart). THE CARD IS WHAT COUNTS. Prove the row's statement (the work); the ties are given (YtfccifekaokibaaDoorTie.lean); close each card by the builder's one call (the guide's Derived/Test/ToyasCard.lean, 'card_holds'). Laid BY PROGRAM, IN A SANDBOX (cutbox-door.mjs). By AI agents, Wed Nov 11 2026. No macro, syntax, notation, axiom, sorry.
-/
import Derived.Test.YtfccifekaokibaaDoorRows
import GoSem.ClaimSeven
namespace Go.Proofs.YtfccifekaokibaaDoor
namespace Rows

/-- THE TIED CARD OF 'oriellaw16.SpellFresh'. -/
def spellFreshCard : Claim7 := { stood := { row := spellFreshRow, standIns := [], harness := (true, "6079f7abd4e4de92375e5e821219d3b471c99452da2e2172f9730801211305f0"), looks := false }, kinds := [], alts := [], laidByText := true, laidKinds := [.data, .data, .data], laidTests := true, laidLooks := .later }
def SpellFreshCardSaid : Prop := Claim7.holds Tryd.pinned (.plain (OpenSpec.ofChange spellFreshSpec)) spellFreshCard

/-- THE TIED CARD OF 'oriellaw16.SpellOrder'. -/
def spellOrderCard : Claim7 := { stood := { row := spellOrderRow, standIns := [], harness := (true, "6079f7abd4e4de92375e5e821219d3b471c99452da2e2172f9730801211305f0"), looks := false }, kinds := [], alts := [], laidByText := true, laidKinds := [.data, .data, .data], laidTests := true, laidLooks := .later }
def SpellOrderCardSaid : Prop := Claim7.holds Tryd.pinned (.plain (OpenSpec.ofChange spellOrderSpec)) spellOrderCard

/-- THE SECOND FORM's CARD OF 'oriellaw16.SpellFresh'. -/
def spellFreshUptoCard : Claim7 := { stood := { row := spellFreshUptoRow, standIns := [], harness := (true, "6079f7abd4e4de92375e5e821219d3b471c99452da2e2172f9730801211305f0"), looks := false }, kinds := [], alts := [], laidByText := true, laidKinds := [.data, .data, .data], laidTests := true, laidLooks := .later }
def SpellFreshUptoCardSaid : Prop := Claim7.holds Tryd.pinned (.plain (OpenSpec.upto spellFreshSpec)) spellFreshUptoCard

/-- THE SECOND FORM's CARD OF 'oriellaw16.SpellOrder'. -/
def spellOrderUptoCard : Claim7 := { stood := { row := spellOrderUptoRow, standIns := [], harness := (true, "6079f7abd4e4de92375e5e821219d3b471c99452da2e2172f9730801211305f0"), looks := false }, kinds := [], alts := [], laidByText := true, laidKinds := [.data, .data, .data], laidTests := true, laidLooks := .later }
def SpellOrderUptoCardSaid : Prop := Claim7.holds Tryd.pinned (.plain (OpenSpec.upto spellOrderSpec)) spellOrderUptoCard
end Rows
end Go.Proofs.YtfccifekaokibaaDoor
