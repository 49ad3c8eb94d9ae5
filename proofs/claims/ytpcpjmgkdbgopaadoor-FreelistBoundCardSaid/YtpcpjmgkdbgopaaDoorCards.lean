/-
  DERIVED. GIVEN WITH THE SEED: THE CARDS: each row of YtpcpjmgkdbgopaaDoorRows.lean that lists a variable, with what it lists TIED to the program's text (the seventh form; the later family's looks); each row that meets fmt, with fmt's text TOLD by the authors' own Lean function (tested against real Go, not proved from fmt's source: count such statements apart). THE CARD IS WHAT COUNTS. Prove the row's statement (the work); the ties are given (YtpcpjmgkdbgopaaDoorTie.lean); close each card by the builder's one call (the guide's Derived/Test/ToyasCard.lean, 'card_holds'). Laid BY PROGRAM, IN A SANDBOX (cutbox-door.mjs). By AI agents, Wed Nov 11 2026. No macro, syntax, notation, axiom, sorry.
-/
import Derived.Test.YtpcpjmgkdbgopaaDoorRows
import GoSem.ClaimSeven
namespace Go.Proofs.YtpcpjmgkdbgopaaDoor
namespace Rows

/-- THE TIED CARD OF 'quartolaw11.FreelistPlays'. -/
def freelistPlaysCard : Claim7 := { stood := { row := freelistPlaysRow, standIns := [], harness := (true, "11e1963a50c8f02b82c18de3620063cd92d4e071c2cea2d7df75b8dcf4122e91"), looks := false }, kinds := [], alts := [], laidByText := true, laidKinds := [.data, .data, .data], laidTests := true, laidLooks := .later }
def FreelistPlaysCardSaid : Prop := Claim7.holds Tryd.pinned (.plain (OpenSpec.ofChange freelistPlaysSpec)) freelistPlaysCard

/-- THE TIED CARD OF 'quartolaw11.FreelistMakes'. -/
def freelistMakesCard : Claim7 := { stood := { row := freelistMakesRow, standIns := [], harness := (true, "11e1963a50c8f02b82c18de3620063cd92d4e071c2cea2d7df75b8dcf4122e91"), looks := false }, kinds := [], alts := [], laidByText := true, laidKinds := [.data, .data, .data], laidTests := true, laidLooks := .later }
def FreelistMakesCardSaid : Prop := Claim7.holds Tryd.pinned (.plain (OpenSpec.ofChange freelistMakesSpec)) freelistMakesCard

/-- THE TIED CARD OF 'quartolaw11.FreelistExamples'. -/
def freelistExamplesCard : Claim7 := { stood := { row := freelistExamplesRow, standIns := [], harness := (true, "11e1963a50c8f02b82c18de3620063cd92d4e071c2cea2d7df75b8dcf4122e91"), looks := false }, kinds := [], alts := [], laidByText := true, laidKinds := [.data, .data, .data], laidTests := true, laidLooks := .later }
def FreelistExamplesCardSaid : Prop := Claim7.holds Tryd.pinned (.plain (OpenSpec.ofChange freelistExamplesSpec)) freelistExamplesCard

/-- THE TIED CARD OF 'quartolaw11.FreelistPartition'. -/
def freelistPartitionCard : Claim7 := { stood := { row := freelistPartitionRow, standIns := [], harness := (true, "11e1963a50c8f02b82c18de3620063cd92d4e071c2cea2d7df75b8dcf4122e91"), looks := false }, kinds := [], alts := [], laidByText := true, laidKinds := [.data, .data, .data], laidTests := true, laidLooks := .later }
def FreelistPartitionCardSaid : Prop := Claim7.holds Tryd.pinned (.plain (OpenSpec.ofChange freelistPartitionSpec)) freelistPartitionCard

/-- THE TIED CARD OF 'quartolaw11.FreelistFresh'. -/
def freelistFreshCard : Claim7 := { stood := { row := freelistFreshRow, standIns := [], harness := (true, "11e1963a50c8f02b82c18de3620063cd92d4e071c2cea2d7df75b8dcf4122e91"), looks := false }, kinds := [], alts := [], laidByText := true, laidKinds := [.data, .data, .data], laidTests := true, laidLooks := .later }
def FreelistFreshCardSaid : Prop := Claim7.holds Tryd.pinned (.plain (OpenSpec.ofChange freelistFreshSpec)) freelistFreshCard

/-- THE TIED CARD OF 'quartolaw11.FreelistBound'. -/
def freelistBoundCard : Claim7 := { stood := { row := freelistBoundRow, standIns := [], harness := (true, "11e1963a50c8f02b82c18de3620063cd92d4e071c2cea2d7df75b8dcf4122e91"), looks := false }, kinds := [], alts := [], laidByText := true, laidKinds := [.data, .data, .data], laidTests := true, laidLooks := .later }
def FreelistBoundCardSaid : Prop := Claim7.holds Tryd.pinned (.plain (OpenSpec.ofChange freelistBoundSpec)) freelistBoundCard

/-- THE TIED CARD OF 'quartolaw11.FreelistStack'. -/
def freelistStackCard : Claim7 := { stood := { row := freelistStackRow, standIns := [], harness := (true, "11e1963a50c8f02b82c18de3620063cd92d4e071c2cea2d7df75b8dcf4122e91"), looks := false }, kinds := [], alts := [], laidByText := true, laidKinds := [.data, .data, .data], laidTests := true, laidLooks := .later }
def FreelistStackCardSaid : Prop := Claim7.holds Tryd.pinned (.plain (OpenSpec.ofChange freelistStackSpec)) freelistStackCard

/-- THE SECOND FORM's CARD OF 'quartolaw11.FreelistPlays'. -/
def freelistPlaysUptoCard : Claim7 := { stood := { row := freelistPlaysUptoRow, standIns := [], harness := (true, "11e1963a50c8f02b82c18de3620063cd92d4e071c2cea2d7df75b8dcf4122e91"), looks := false }, kinds := [], alts := [], laidByText := true, laidKinds := [.data, .data, .data], laidTests := true, laidLooks := .later }
def FreelistPlaysUptoCardSaid : Prop := Claim7.holds Tryd.pinned (.plain (OpenSpec.upto freelistPlaysSpec)) freelistPlaysUptoCard

/-- THE SECOND FORM's CARD OF 'quartolaw11.FreelistMakes'. -/
def freelistMakesUptoCard : Claim7 := { stood := { row := freelistMakesUptoRow, standIns := [], harness := (true, "11e1963a50c8f02b82c18de3620063cd92d4e071c2cea2d7df75b8dcf4122e91"), looks := false }, kinds := [], alts := [], laidByText := true, laidKinds := [.data, .data, .data], laidTests := true, laidLooks := .later }
def FreelistMakesUptoCardSaid : Prop := Claim7.holds Tryd.pinned (.plain (OpenSpec.upto freelistMakesSpec)) freelistMakesUptoCard

/-- THE SECOND FORM's CARD OF 'quartolaw11.FreelistExamples'. -/
def freelistExamplesUptoCard : Claim7 := { stood := { row := freelistExamplesUptoRow, standIns := [], harness := (true, "11e1963a50c8f02b82c18de3620063cd92d4e071c2cea2d7df75b8dcf4122e91"), looks := false }, kinds := [], alts := [], laidByText := true, laidKinds := [.data, .data, .data], laidTests := true, laidLooks := .later }
def FreelistExamplesUptoCardSaid : Prop := Claim7.holds Tryd.pinned (.plain (OpenSpec.upto freelistExamplesSpec)) freelistExamplesUptoCard

/-- THE SECOND FORM's CARD OF 'quartolaw11.FreelistPartition'. -/
def freelistPartitionUptoCard : Claim7 := { stood := { row := freelistPartitionUptoRow, standIns := [], harness := (true, "11e1963a50c8f02b82c18de3620063cd92d4e071c2cea2d7df75b8dcf4122e91"), looks := false }, kinds := [], alts := [], laidByText := true, laidKinds := [.data, .data, .data], laidTests := true, laidLooks := .later }
def FreelistPartitionUptoCardSaid : Prop := Claim7.holds Tryd.pinned (.plain (OpenSpec.upto freelistPartitionSpec)) freelistPartitionUptoCard

/-- THE SECOND FORM's CARD OF 'quartolaw11.FreelistFresh'. -/
def freelistFreshUptoCard : Claim7 := { stood := { row := freelistFreshUptoRow, standIns := [], harness := (true, "11e1963a50c8f02b82c18de3620063cd92d4e071c2cea2d7df75b8dcf4122e91"), looks := false }, kinds := [], alts := [], laidByText := true, laidKinds := [.data, .data, .data], laidTests := true, laidLooks := .later }
def FreelistFreshUptoCardSaid : Prop := Claim7.holds Tryd.pinned (.plain (OpenSpec.upto freelistFreshSpec)) freelistFreshUptoCard

/-- THE SECOND FORM's CARD OF 'quartolaw11.FreelistBound'. -/
def freelistBoundUptoCard : Claim7 := { stood := { row := freelistBoundUptoRow, standIns := [], harness := (true, "11e1963a50c8f02b82c18de3620063cd92d4e071c2cea2d7df75b8dcf4122e91"), looks := false }, kinds := [], alts := [], laidByText := true, laidKinds := [.data, .data, .data], laidTests := true, laidLooks := .later }
def FreelistBoundUptoCardSaid : Prop := Claim7.holds Tryd.pinned (.plain (OpenSpec.upto freelistBoundSpec)) freelistBoundUptoCard

/-- THE SECOND FORM's CARD OF 'quartolaw11.FreelistStack'. -/
def freelistStackUptoCard : Claim7 := { stood := { row := freelistStackUptoRow, standIns := [], harness := (true, "11e1963a50c8f02b82c18de3620063cd92d4e071c2cea2d7df75b8dcf4122e91"), looks := false }, kinds := [], alts := [], laidByText := true, laidKinds := [.data, .data, .data], laidTests := true, laidLooks := .later }
def FreelistStackUptoCardSaid : Prop := Claim7.holds Tryd.pinned (.plain (OpenSpec.upto freelistStackSpec)) freelistStackUptoCard
end Rows
end Go.Proofs.YtpcpjmgkdbgopaaDoor
