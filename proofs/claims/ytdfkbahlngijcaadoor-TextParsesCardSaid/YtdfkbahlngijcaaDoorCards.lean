/-
  DERIVED. GIVEN WITH THE SEED: THE CARDS: each row of YtdfkbahlngijcaaDoorRows.lean that lists a variable, with what it lists TIED to the program's text (the seventh form; the later family's looks); each row that meets fmt, with fmt's text TOLD by the authors' own Lean function (tested against real Go, not proved from fmt's source: count such statements apart). THE CARD IS WHAT COUNTS. Prove the row's statement (the work); the ties are given (YtdfkbahlngijcaaDoorTie.lean); close each card by the builder's one call (the guide's Derived/Test/ToyasCard.lean, 'card_holds'). Laid BY PROGRAM, IN A SANDBOX (cutbox-door.mjs). By AI agents, Wed Nov 11 2026. No macro, syntax, notation, axiom, sorry.
-/
import Derived.Test.YtdfkbahlngijcaaDoorRows
import GoSem.ClaimSeven
namespace Go.Proofs.YtdfkbahlngijcaaDoor
namespace Rows

/-- THE TIED CARD OF 'quartolaw40.TextResults'. -/
def textResultsCard : Claim7 := { stood := { row := textResultsRow, standIns := [], harness := (true, "9c7b43417d60e26a55f080d7be9f499effeaf01c43a515aae67d18f3afc8cae7"), looks := false }, kinds := [], alts := [], laidByText := true, laidKinds := [.data, .data, .data], laidTests := true, laidLooks := .later }
def TextResultsCardSaid : Prop := Claim7.holds Tryd.pinned (.plain (OpenSpec.ofChange textResultsSpec)) textResultsCard

/-- THE TIED CARD OF 'quartolaw40.TextUnlike'. -/
def textUnlikeCard : Claim7 := { stood := { row := textUnlikeRow, standIns := [], harness := (true, "9c7b43417d60e26a55f080d7be9f499effeaf01c43a515aae67d18f3afc8cae7"), looks := false }, kinds := [], alts := [], laidByText := true, laidKinds := [.data, .data, .data], laidTests := true, laidLooks := .later }
def TextUnlikeCardSaid : Prop := Claim7.holds Tryd.pinned (.plain (OpenSpec.ofChange textUnlikeSpec)) textUnlikeCard

/-- THE TIED CARD OF 'quartolaw40.TextFormats'. -/
def textFormatsCard : Claim7 := { stood := { row := textFormatsRow, standIns := [], harness := (true, "9c7b43417d60e26a55f080d7be9f499effeaf01c43a515aae67d18f3afc8cae7"), looks := false }, kinds := [], alts := [], laidByText := true, laidKinds := [.data, .data, .data], laidTests := true, laidLooks := .later }
def TextFormatsCardSaid : Prop := Claim7.holds Tryd.pinned (.plain (OpenSpec.ofChange textFormatsSpec)) textFormatsCard

/-- THE TIED CARD OF 'quartolaw40.TextParses'. -/
def textParsesCard : Claim7 := { stood := { row := textParsesRow, standIns := [], harness := (true, "9c7b43417d60e26a55f080d7be9f499effeaf01c43a515aae67d18f3afc8cae7"), looks := false }, kinds := [], alts := [], laidByText := true, laidKinds := [.data, .pinned], laidTests := true, laidLooks := .later }
def TextParsesCardSaid : Prop := Claim7.holds Tryd.pinned (.plain (OpenSpec.ofChange textParsesSpec)) textParsesCard

/-- THE TIED CARD OF 'quartolaw40.TextOps'. -/
def textOpsCard : Claim7 := { stood := { row := textOpsRow, standIns := [], harness := (true, "9c7b43417d60e26a55f080d7be9f499effeaf01c43a515aae67d18f3afc8cae7"), looks := false }, kinds := [], alts := [], laidByText := true, laidKinds := [.data, .data, .data, .data, .pinned], laidTests := true, laidLooks := .later }
def TextOpsCardSaid : Prop := Claim7.holds Tryd.pinned (.plain (OpenSpec.ofChange textOpsSpec)) textOpsCard

/-- THE TIED CARD OF 'quartolaw40.TextOpBack'. -/
def textOpBackCard : Claim7 := { stood := { row := textOpBackRow, standIns := [], harness := (true, "9c7b43417d60e26a55f080d7be9f499effeaf01c43a515aae67d18f3afc8cae7"), looks := false }, kinds := [], alts := [], laidByText := true, laidKinds := [.data, .data, .data, .data, .pinned], laidTests := true, laidLooks := .later }
def TextOpBackCardSaid : Prop := Claim7.holds Tryd.pinned (.plain (OpenSpec.ofChange textOpBackSpec)) textOpBackCard

/-- THE TIED CARD OF 'quartolaw40.TextBack'. -/
def textBackCard : Claim7 := { stood := { row := textBackRow, standIns := [], harness := (true, "9c7b43417d60e26a55f080d7be9f499effeaf01c43a515aae67d18f3afc8cae7"), looks := false }, kinds := [], alts := [], laidByText := true, laidKinds := [.data, .data, .data, .data, .pinned], laidTests := true, laidLooks := .later }
def TextBackCardSaid : Prop := Claim7.holds Tryd.pinned (.plain (OpenSpec.ofChange textBackSpec)) textBackCard

/-- THE TIED CARD OF 'quartolaw40.TextLine'. -/
def textLineCard : Claim7 := { stood := { row := textLineRow, standIns := [], harness := (true, "9c7b43417d60e26a55f080d7be9f499effeaf01c43a515aae67d18f3afc8cae7"), looks := false }, kinds := [], alts := [], laidByText := true, laidKinds := [.data, .data, .data, .data, .pinned], laidTests := true, laidLooks := .later }
def TextLineCardSaid : Prop := Claim7.holds Tryd.pinned (.plain (OpenSpec.ofChange textLineSpec)) textLineCard

/-- THE TIED CARD OF 'quartolaw40.TextExamples'. -/
def textExamplesCard : Claim7 := { stood := { row := textExamplesRow, standIns := [], harness := (true, "9c7b43417d60e26a55f080d7be9f499effeaf01c43a515aae67d18f3afc8cae7"), looks := false }, kinds := [], alts := [], laidByText := true, laidKinds := [.data, .data, .data, .data, .pinned], laidTests := true, laidLooks := .later }
def TextExamplesCardSaid : Prop := Claim7.holds Tryd.pinned (.plain (OpenSpec.ofChange textExamplesSpec)) textExamplesCard

/-- THE SECOND FORM's CARD OF 'quartolaw40.TextResults'. -/
def textResultsUptoCard : Claim7 := { stood := { row := textResultsUptoRow, standIns := [], harness := (true, "9c7b43417d60e26a55f080d7be9f499effeaf01c43a515aae67d18f3afc8cae7"), looks := false }, kinds := [], alts := [], laidByText := true, laidKinds := [.data, .data, .data], laidTests := true, laidLooks := .later }
def TextResultsUptoCardSaid : Prop := Claim7.holds Tryd.pinned (.plain (OpenSpec.upto textResultsSpec)) textResultsUptoCard

/-- THE SECOND FORM's CARD OF 'quartolaw40.TextUnlike'. -/
def textUnlikeUptoCard : Claim7 := { stood := { row := textUnlikeUptoRow, standIns := [], harness := (true, "9c7b43417d60e26a55f080d7be9f499effeaf01c43a515aae67d18f3afc8cae7"), looks := false }, kinds := [], alts := [], laidByText := true, laidKinds := [.data, .data, .data], laidTests := true, laidLooks := .later }
def TextUnlikeUptoCardSaid : Prop := Claim7.holds Tryd.pinned (.plain (OpenSpec.upto textUnlikeSpec)) textUnlikeUptoCard

/-- THE SECOND FORM's CARD OF 'quartolaw40.TextFormats'. -/
def textFormatsUptoCard : Claim7 := { stood := { row := textFormatsUptoRow, standIns := [], harness := (true, "9c7b43417d60e26a55f080d7be9f499effeaf01c43a515aae67d18f3afc8cae7"), looks := false }, kinds := [], alts := [], laidByText := true, laidKinds := [.data, .data, .data], laidTests := true, laidLooks := .later }
def TextFormatsUptoCardSaid : Prop := Claim7.holds Tryd.pinned (.plain (OpenSpec.upto textFormatsSpec)) textFormatsUptoCard

/-- THE SECOND FORM's CARD OF 'quartolaw40.TextParses'. -/
def textParsesUptoCard : Claim7 := { stood := { row := textParsesUptoRow, standIns := [], harness := (true, "9c7b43417d60e26a55f080d7be9f499effeaf01c43a515aae67d18f3afc8cae7"), looks := false }, kinds := [], alts := [], laidByText := true, laidKinds := [.data, .pinned], laidTests := true, laidLooks := .later }
def TextParsesUptoCardSaid : Prop := Claim7.holds Tryd.pinned (.plain (OpenSpec.upto textParsesSpec)) textParsesUptoCard

/-- THE SECOND FORM's CARD OF 'quartolaw40.TextOps'. -/
def textOpsUptoCard : Claim7 := { stood := { row := textOpsUptoRow, standIns := [], harness := (true, "9c7b43417d60e26a55f080d7be9f499effeaf01c43a515aae67d18f3afc8cae7"), looks := false }, kinds := [], alts := [], laidByText := true, laidKinds := [.data, .data, .data, .data, .pinned], laidTests := true, laidLooks := .later }
def TextOpsUptoCardSaid : Prop := Claim7.holds Tryd.pinned (.plain (OpenSpec.upto textOpsSpec)) textOpsUptoCard

/-- THE SECOND FORM's CARD OF 'quartolaw40.TextOpBack'. -/
def textOpBackUptoCard : Claim7 := { stood := { row := textOpBackUptoRow, standIns := [], harness := (true, "9c7b43417d60e26a55f080d7be9f499effeaf01c43a515aae67d18f3afc8cae7"), looks := false }, kinds := [], alts := [], laidByText := true, laidKinds := [.data, .data, .data, .data, .pinned], laidTests := true, laidLooks := .later }
def TextOpBackUptoCardSaid : Prop := Claim7.holds Tryd.pinned (.plain (OpenSpec.upto textOpBackSpec)) textOpBackUptoCard

/-- THE SECOND FORM's CARD OF 'quartolaw40.TextBack'. -/
def textBackUptoCard : Claim7 := { stood := { row := textBackUptoRow, standIns := [], harness := (true, "9c7b43417d60e26a55f080d7be9f499effeaf01c43a515aae67d18f3afc8cae7"), looks := false }, kinds := [], alts := [], laidByText := true, laidKinds := [.data, .data, .data, .data, .pinned], laidTests := true, laidLooks := .later }
def TextBackUptoCardSaid : Prop := Claim7.holds Tryd.pinned (.plain (OpenSpec.upto textBackSpec)) textBackUptoCard

/-- THE SECOND FORM's CARD OF 'quartolaw40.TextLine'. -/
def textLineUptoCard : Claim7 := { stood := { row := textLineUptoRow, standIns := [], harness := (true, "9c7b43417d60e26a55f080d7be9f499effeaf01c43a515aae67d18f3afc8cae7"), looks := false }, kinds := [], alts := [], laidByText := true, laidKinds := [.data, .data, .data, .data, .pinned], laidTests := true, laidLooks := .later }
def TextLineUptoCardSaid : Prop := Claim7.holds Tryd.pinned (.plain (OpenSpec.upto textLineSpec)) textLineUptoCard

/-- THE SECOND FORM's CARD OF 'quartolaw40.TextExamples'. -/
def textExamplesUptoCard : Claim7 := { stood := { row := textExamplesUptoRow, standIns := [], harness := (true, "9c7b43417d60e26a55f080d7be9f499effeaf01c43a515aae67d18f3afc8cae7"), looks := false }, kinds := [], alts := [], laidByText := true, laidKinds := [.data, .data, .data, .data, .pinned], laidTests := true, laidLooks := .later }
def TextExamplesUptoCardSaid : Prop := Claim7.holds Tryd.pinned (.plain (OpenSpec.upto textExamplesSpec)) textExamplesUptoCard
end Rows
end Go.Proofs.YtdfkbahlngijcaaDoor
