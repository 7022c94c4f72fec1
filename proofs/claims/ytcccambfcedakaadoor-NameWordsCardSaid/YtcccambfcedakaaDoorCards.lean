/-
  DERIVED. GIVEN WITH THE SEED: THE CARDS: each row of YtcccambfcedakaaDoorRows.lean that lists a variable, with what it lists TIED to the program's text (the seventh form; the later family's looks); each row that meets fmt, with fmt's text TOLD by the authors' own Lean function (tested against real Go, not proved from fmt's source: count such statements apart). THE CARD IS WHAT COUNTS. Prove the row's statement (the work); the ties are given (YtcccambfcedakaaDoorTie.lean); close each card by the builder's one call (the guide's Derived/Test/ToyasCard.lean, 'card_holds'). Laid BY PROGRAM, IN A SANDBOX (cutbox-door.mjs). By AI agents, Wed Nov 11 2026. No macro, syntax, notation, axiom, sorry.
-/
import Derived.Test.YtcccambfcedakaaDoorRows
import GoSem.ClaimSeven
namespace Go.Proofs.YtcccambfcedakaaDoor
namespace Rows

/-- THE TIED CARD OF 'oriellaw04.NameFresh'. -/
def nameFreshCard : Claim7 := { stood := { row := nameFreshRow, standIns := [], harness := (true, "bc7a066b9df73cd56e2b2740336e4187733fe3dda7bec0285e9f36dd791af7e0"), looks := false }, kinds := [], alts := [], laidByText := true, laidKinds := [.data, .data, .data], laidTests := true, laidLooks := .later }
def NameFreshCardSaid : Prop := Claim7.holds Tryd.pinned (.plain (OpenSpec.ofChange nameFreshSpec)) nameFreshCard

/-- THE TIED CARD OF 'oriellaw04.NameOne'. -/
def nameOneCard : Claim7 := { stood := { row := nameOneRow, standIns := [], harness := (true, "bc7a066b9df73cd56e2b2740336e4187733fe3dda7bec0285e9f36dd791af7e0"), looks := false }, kinds := [], alts := [], laidByText := true, laidKinds := [.data, .data, .data], laidTests := true, laidLooks := .later }
def NameOneCardSaid : Prop := Claim7.holds Tryd.pinned (.plain (OpenSpec.ofChange nameOneSpec)) nameOneCard

/-- THE TIED CARD OF 'oriellaw04.NameWords'. -/
def nameWordsCard : Claim7 := { stood := { row := nameWordsRow, standIns := [], harness := (true, "bc7a066b9df73cd56e2b2740336e4187733fe3dda7bec0285e9f36dd791af7e0"), looks := false }, kinds := [], alts := [], laidByText := true, laidKinds := [.data, .data, .data], laidTests := true, laidLooks := .later }
def NameWordsCardSaid : Prop := Claim7.holds Tryd.pinned (.plain (OpenSpec.ofChange nameWordsSpec)) nameWordsCard

/-- THE TIED CARD OF 'oriellaw04.NameKinds'. -/
def nameKindsCard : Claim7 := { stood := { row := nameKindsRow, standIns := [], harness := (true, "bc7a066b9df73cd56e2b2740336e4187733fe3dda7bec0285e9f36dd791af7e0"), looks := false }, kinds := [], alts := [], laidByText := true, laidKinds := [.data, .data, .data], laidTests := true, laidLooks := .later }
def NameKindsCardSaid : Prop := Claim7.holds Tryd.pinned (.plain (OpenSpec.ofChange nameKindsSpec)) nameKindsCard

/-- THE TIED CARD OF 'oriellaw04.NameAlike'. -/
def nameAlikeCard : Claim7 := { stood := { row := nameAlikeRow, standIns := [], harness := (true, "bc7a066b9df73cd56e2b2740336e4187733fe3dda7bec0285e9f36dd791af7e0"), looks := false }, kinds := [], alts := [], laidByText := true, laidKinds := [.data, .data, .data], laidTests := true, laidLooks := .later }
def NameAlikeCardSaid : Prop := Claim7.holds Tryd.pinned (.plain (OpenSpec.ofChange nameAlikeSpec)) nameAlikeCard

/-- THE SECOND FORM's CARD OF 'oriellaw04.NameFresh'. -/
def nameFreshUptoCard : Claim7 := { stood := { row := nameFreshUptoRow, standIns := [], harness := (true, "bc7a066b9df73cd56e2b2740336e4187733fe3dda7bec0285e9f36dd791af7e0"), looks := false }, kinds := [], alts := [], laidByText := true, laidKinds := [.data, .data, .data], laidTests := true, laidLooks := .later }
def NameFreshUptoCardSaid : Prop := Claim7.holds Tryd.pinned (.plain (OpenSpec.upto nameFreshSpec)) nameFreshUptoCard

/-- THE SECOND FORM's CARD OF 'oriellaw04.NameOne'. -/
def nameOneUptoCard : Claim7 := { stood := { row := nameOneUptoRow, standIns := [], harness := (true, "bc7a066b9df73cd56e2b2740336e4187733fe3dda7bec0285e9f36dd791af7e0"), looks := false }, kinds := [], alts := [], laidByText := true, laidKinds := [.data, .data, .data], laidTests := true, laidLooks := .later }
def NameOneUptoCardSaid : Prop := Claim7.holds Tryd.pinned (.plain (OpenSpec.upto nameOneSpec)) nameOneUptoCard

/-- THE SECOND FORM's CARD OF 'oriellaw04.NameWords'. -/
def nameWordsUptoCard : Claim7 := { stood := { row := nameWordsUptoRow, standIns := [], harness := (true, "bc7a066b9df73cd56e2b2740336e4187733fe3dda7bec0285e9f36dd791af7e0"), looks := false }, kinds := [], alts := [], laidByText := true, laidKinds := [.data, .data, .data], laidTests := true, laidLooks := .later }
def NameWordsUptoCardSaid : Prop := Claim7.holds Tryd.pinned (.plain (OpenSpec.upto nameWordsSpec)) nameWordsUptoCard

/-- THE SECOND FORM's CARD OF 'oriellaw04.NameKinds'. -/
def nameKindsUptoCard : Claim7 := { stood := { row := nameKindsUptoRow, standIns := [], harness := (true, "bc7a066b9df73cd56e2b2740336e4187733fe3dda7bec0285e9f36dd791af7e0"), looks := false }, kinds := [], alts := [], laidByText := true, laidKinds := [.data, .data, .data], laidTests := true, laidLooks := .later }
def NameKindsUptoCardSaid : Prop := Claim7.holds Tryd.pinned (.plain (OpenSpec.upto nameKindsSpec)) nameKindsUptoCard

/-- THE SECOND FORM's CARD OF 'oriellaw04.NameAlike'. -/
def nameAlikeUptoCard : Claim7 := { stood := { row := nameAlikeUptoRow, standIns := [], harness := (true, "bc7a066b9df73cd56e2b2740336e4187733fe3dda7bec0285e9f36dd791af7e0"), looks := false }, kinds := [], alts := [], laidByText := true, laidKinds := [.data, .data, .data], laidTests := true, laidLooks := .later }
def NameAlikeUptoCardSaid : Prop := Claim7.holds Tryd.pinned (.plain (OpenSpec.upto nameAlikeSpec)) nameAlikeUptoCard
end Rows
end Go.Proofs.YtcccambfcedakaaDoor
