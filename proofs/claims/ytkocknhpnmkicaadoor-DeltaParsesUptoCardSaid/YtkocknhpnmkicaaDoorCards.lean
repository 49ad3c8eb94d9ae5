/-
  DERIVED. GIVEN WITH THE SEED: THE CARDS: each row of YtkocknhpnmkicaaDoorRows.lean that lists a variable, with what it lists TIED to the program's text (the seventh form; the later family's looks); each row that meets fmt, with fmt's text TOLD by the authors' own Lean function (tested against real Go, not proved from fmt's source: count such statements apart). THE CARD IS WHAT COUNTS. Prove the row's statement (the work); the ties are given (YtkocknhpnmkicaaDoorTie.lean); close each card by the builder's one call (the guide's Derived/Test/ToyasCard.lean, 'card_holds'). Laid BY PROGRAM, IN A SANDBOX (cutbox-door.mjs). By AI agents, Wed Nov 11 2026. No macro, syntax, notation, axiom, sorry.
-/
import Derived.Test.YtkocknhpnmkicaaDoorRows
import GoSem.ClaimSeven
namespace Go.Proofs.YtkocknhpnmkicaaDoor
namespace Rows

/-- THE TIED CARD OF 'quartolaw03.DeltaChecks'. -/
def deltaChecksCard : Claim7 := { stood := { row := deltaChecksRow, standIns := [], harness := (true, "65e98285f90b9df8d7ad2a3ab26606f302640f678ec5b85f6fa33342391e6812"), looks := true }, kinds := [], alts := [], laidByText := true, laidKinds := [.data, .data, .data], laidTests := true, laidLooks := .later }
def DeltaChecksCardSaid : Prop := Claim7.holds Tryd.pinned (.plain (OpenSpec.ofChange deltaChecksSpec)) deltaChecksCard

/-- THE TIED CARD OF 'quartolaw03.DeltaNormalizes'. -/
def deltaNormalizesCard : Claim7 := { stood := { row := deltaNormalizesRow, standIns := [], harness := (true, "65e98285f90b9df8d7ad2a3ab26606f302640f678ec5b85f6fa33342391e6812"), looks := true }, kinds := [], alts := [], laidByText := true, laidKinds := [.data, .data, .data], laidTests := true, laidLooks := .later }
def DeltaNormalizesCardSaid : Prop := Claim7.holds Tryd.pinned (.plain (OpenSpec.ofChange deltaNormalizesSpec)) deltaNormalizesCard

/-- THE TIED CARD OF 'quartolaw03.DeltaIdentity'. -/
def deltaIdentityCard : Claim7 := { stood := { row := deltaIdentityRow, standIns := [], harness := (true, "65e98285f90b9df8d7ad2a3ab26606f302640f678ec5b85f6fa33342391e6812"), looks := true }, kinds := [], alts := [], laidByText := true, laidKinds := [.data, .data, .data], laidTests := true, laidLooks := .later }
def DeltaIdentityCardSaid : Prop := Claim7.holds Tryd.pinned (.plain (OpenSpec.ofChange deltaIdentitySpec)) deltaIdentityCard

/-- THE TIED CARD OF 'quartolaw03.DeltaPrints'. -/
def deltaPrintsCard : Claim7 := { stood := { row := deltaPrintsRow, standIns := [], harness := (true, "65e98285f90b9df8d7ad2a3ab26606f302640f678ec5b85f6fa33342391e6812"), looks := true }, kinds := [], alts := [], laidByText := true, laidKinds := [.data, .data, .data], laidTests := true, laidLooks := .later }
def DeltaPrintsCardSaid : Prop := Claim7.holds Tryd.pinned (.plain (OpenSpec.ofChange deltaPrintsSpec)) deltaPrintsCard

/-- THE TIED CARD OF 'quartolaw03.DeltaParses'. -/
def deltaParsesCard : Claim7 := { stood := { row := deltaParsesRow, standIns := [], harness := (true, "65e98285f90b9df8d7ad2a3ab26606f302640f678ec5b85f6fa33342391e6812"), looks := true }, kinds := [], alts := [], laidByText := true, laidKinds := [.data, .data, .data], laidTests := true, laidLooks := .later }
def DeltaParsesCardSaid : Prop := Claim7.holds Tryd.pinned (.plain (OpenSpec.ofChange deltaParsesSpec)) deltaParsesCard

/-- THE TIED CARD OF 'quartolaw03.DeltaForms'. -/
def deltaFormsCard : Claim7 := { stood := { row := deltaFormsRow, standIns := [], harness := (true, "65e98285f90b9df8d7ad2a3ab26606f302640f678ec5b85f6fa33342391e6812"), looks := true }, kinds := [], alts := [], laidByText := true, laidKinds := [.data, .data, .data], laidTests := true, laidLooks := .later }
def DeltaFormsCardSaid : Prop := Claim7.holds Tryd.pinned (.plain (OpenSpec.ofChange deltaFormsSpec)) deltaFormsCard

/-- THE TIED CARD OF 'quartolaw03.DeltaReads'. -/
def deltaReadsCard : Claim7 := { stood := { row := deltaReadsRow, standIns := [], harness := (true, "65e98285f90b9df8d7ad2a3ab26606f302640f678ec5b85f6fa33342391e6812"), looks := true }, kinds := [], alts := [], laidByText := true, laidKinds := [.data, .data, .data], laidTests := true, laidLooks := .later }
def DeltaReadsCardSaid : Prop := Claim7.holds Tryd.pinned (.plain (OpenSpec.ofChange deltaReadsSpec)) deltaReadsCard

/-- THE TIED CARD OF 'quartolaw03.DeltaEquals'. -/
def deltaEqualsCard : Claim7 := { stood := { row := deltaEqualsRow, standIns := [], harness := (true, "65e98285f90b9df8d7ad2a3ab26606f302640f678ec5b85f6fa33342391e6812"), looks := true }, kinds := [], alts := [], laidByText := true, laidKinds := [.data, .data, .data], laidTests := true, laidLooks := .later }
def DeltaEqualsCardSaid : Prop := Claim7.holds Tryd.pinned (.plain (OpenSpec.ofChange deltaEqualsSpec)) deltaEqualsCard

/-- THE TIED CARD OF 'quartolaw03.DeltaMeans'. -/
def deltaMeansCard : Claim7 := { stood := { row := deltaMeansRow, standIns := [], harness := (true, "65e98285f90b9df8d7ad2a3ab26606f302640f678ec5b85f6fa33342391e6812"), looks := true }, kinds := [], alts := [], laidByText := true, laidKinds := [.data, .data, .data], laidTests := true, laidLooks := .later }
def DeltaMeansCardSaid : Prop := Claim7.holds Tryd.pinned (.plain (OpenSpec.ofChange deltaMeansSpec)) deltaMeansCard

/-- THE TIED CARD OF 'quartolaw03.DeltaJoins'. -/
def deltaJoinsCard : Claim7 := { stood := { row := deltaJoinsRow, standIns := [], harness := (true, "65e98285f90b9df8d7ad2a3ab26606f302640f678ec5b85f6fa33342391e6812"), looks := true }, kinds := [], alts := [], laidByText := true, laidKinds := [.data, .data, .data], laidTests := true, laidLooks := .later }
def DeltaJoinsCardSaid : Prop := Claim7.holds Tryd.pinned (.plain (OpenSpec.ofChange deltaJoinsSpec)) deltaJoinsCard

/-- THE TIED CARD OF 'quartolaw03.DeltaGroups'. -/
def deltaGroupsCard : Claim7 := { stood := { row := deltaGroupsRow, standIns := [], harness := (true, "65e98285f90b9df8d7ad2a3ab26606f302640f678ec5b85f6fa33342391e6812"), looks := true }, kinds := [], alts := [], laidByText := true, laidKinds := [.data, .data, .data], laidTests := true, laidLooks := .later }
def DeltaGroupsCardSaid : Prop := Claim7.holds Tryd.pinned (.plain (OpenSpec.ofChange deltaGroupsSpec)) deltaGroupsCard

/-- THE SECOND FORM's CARD OF 'quartolaw03.DeltaChecks'. -/
def deltaChecksUptoCard : Claim7 := { stood := { row := deltaChecksUptoRow, standIns := [], harness := (true, "65e98285f90b9df8d7ad2a3ab26606f302640f678ec5b85f6fa33342391e6812"), looks := true }, kinds := [], alts := [], laidByText := true, laidKinds := [.data, .data, .data], laidTests := true, laidLooks := .later }
def DeltaChecksUptoCardSaid : Prop := Claim7.holds Tryd.pinned (.plain (OpenSpec.upto deltaChecksSpec)) deltaChecksUptoCard

/-- THE SECOND FORM's CARD OF 'quartolaw03.DeltaNormalizes'. -/
def deltaNormalizesUptoCard : Claim7 := { stood := { row := deltaNormalizesUptoRow, standIns := [], harness := (true, "65e98285f90b9df8d7ad2a3ab26606f302640f678ec5b85f6fa33342391e6812"), looks := true }, kinds := [], alts := [], laidByText := true, laidKinds := [.data, .data, .data], laidTests := true, laidLooks := .later }
def DeltaNormalizesUptoCardSaid : Prop := Claim7.holds Tryd.pinned (.plain (OpenSpec.upto deltaNormalizesSpec)) deltaNormalizesUptoCard

/-- THE SECOND FORM's CARD OF 'quartolaw03.DeltaIdentity'. -/
def deltaIdentityUptoCard : Claim7 := { stood := { row := deltaIdentityUptoRow, standIns := [], harness := (true, "65e98285f90b9df8d7ad2a3ab26606f302640f678ec5b85f6fa33342391e6812"), looks := true }, kinds := [], alts := [], laidByText := true, laidKinds := [.data, .data, .data], laidTests := true, laidLooks := .later }
def DeltaIdentityUptoCardSaid : Prop := Claim7.holds Tryd.pinned (.plain (OpenSpec.upto deltaIdentitySpec)) deltaIdentityUptoCard

/-- THE SECOND FORM's CARD OF 'quartolaw03.DeltaPrints'. -/
def deltaPrintsUptoCard : Claim7 := { stood := { row := deltaPrintsUptoRow, standIns := [], harness := (true, "65e98285f90b9df8d7ad2a3ab26606f302640f678ec5b85f6fa33342391e6812"), looks := true }, kinds := [], alts := [], laidByText := true, laidKinds := [.data, .data, .data], laidTests := true, laidLooks := .later }
def DeltaPrintsUptoCardSaid : Prop := Claim7.holds Tryd.pinned (.plain (OpenSpec.upto deltaPrintsSpec)) deltaPrintsUptoCard

/-- THE SECOND FORM's CARD OF 'quartolaw03.DeltaParses'. -/
def deltaParsesUptoCard : Claim7 := { stood := { row := deltaParsesUptoRow, standIns := [], harness := (true, "65e98285f90b9df8d7ad2a3ab26606f302640f678ec5b85f6fa33342391e6812"), looks := true }, kinds := [], alts := [], laidByText := true, laidKinds := [.data, .data, .data], laidTests := true, laidLooks := .later }
def DeltaParsesUptoCardSaid : Prop := Claim7.holds Tryd.pinned (.plain (OpenSpec.upto deltaParsesSpec)) deltaParsesUptoCard

/-- THE SECOND FORM's CARD OF 'quartolaw03.DeltaForms'. -/
def deltaFormsUptoCard : Claim7 := { stood := { row := deltaFormsUptoRow, standIns := [], harness := (true, "65e98285f90b9df8d7ad2a3ab26606f302640f678ec5b85f6fa33342391e6812"), looks := true }, kinds := [], alts := [], laidByText := true, laidKinds := [.data, .data, .data], laidTests := true, laidLooks := .later }
def DeltaFormsUptoCardSaid : Prop := Claim7.holds Tryd.pinned (.plain (OpenSpec.upto deltaFormsSpec)) deltaFormsUptoCard

/-- THE SECOND FORM's CARD OF 'quartolaw03.DeltaReads'. -/
def deltaReadsUptoCard : Claim7 := { stood := { row := deltaReadsUptoRow, standIns := [], harness := (true, "65e98285f90b9df8d7ad2a3ab26606f302640f678ec5b85f6fa33342391e6812"), looks := true }, kinds := [], alts := [], laidByText := true, laidKinds := [.data, .data, .data], laidTests := true, laidLooks := .later }
def DeltaReadsUptoCardSaid : Prop := Claim7.holds Tryd.pinned (.plain (OpenSpec.upto deltaReadsSpec)) deltaReadsUptoCard

/-- THE SECOND FORM's CARD OF 'quartolaw03.DeltaEquals'. -/
def deltaEqualsUptoCard : Claim7 := { stood := { row := deltaEqualsUptoRow, standIns := [], harness := (true, "65e98285f90b9df8d7ad2a3ab26606f302640f678ec5b85f6fa33342391e6812"), looks := true }, kinds := [], alts := [], laidByText := true, laidKinds := [.data, .data, .data], laidTests := true, laidLooks := .later }
def DeltaEqualsUptoCardSaid : Prop := Claim7.holds Tryd.pinned (.plain (OpenSpec.upto deltaEqualsSpec)) deltaEqualsUptoCard

/-- THE SECOND FORM's CARD OF 'quartolaw03.DeltaMeans'. -/
def deltaMeansUptoCard : Claim7 := { stood := { row := deltaMeansUptoRow, standIns := [], harness := (true, "65e98285f90b9df8d7ad2a3ab26606f302640f678ec5b85f6fa33342391e6812"), looks := true }, kinds := [], alts := [], laidByText := true, laidKinds := [.data, .data, .data], laidTests := true, laidLooks := .later }
def DeltaMeansUptoCardSaid : Prop := Claim7.holds Tryd.pinned (.plain (OpenSpec.upto deltaMeansSpec)) deltaMeansUptoCard

/-- THE SECOND FORM's CARD OF 'quartolaw03.DeltaJoins'. -/
def deltaJoinsUptoCard : Claim7 := { stood := { row := deltaJoinsUptoRow, standIns := [], harness := (true, "65e98285f90b9df8d7ad2a3ab26606f302640f678ec5b85f6fa33342391e6812"), looks := true }, kinds := [], alts := [], laidByText := true, laidKinds := [.data, .data, .data], laidTests := true, laidLooks := .later }
def DeltaJoinsUptoCardSaid : Prop := Claim7.holds Tryd.pinned (.plain (OpenSpec.upto deltaJoinsSpec)) deltaJoinsUptoCard

/-- THE SECOND FORM's CARD OF 'quartolaw03.DeltaGroups'. -/
def deltaGroupsUptoCard : Claim7 := { stood := { row := deltaGroupsUptoRow, standIns := [], harness := (true, "65e98285f90b9df8d7ad2a3ab26606f302640f678ec5b85f6fa33342391e6812"), looks := true }, kinds := [], alts := [], laidByText := true, laidKinds := [.data, .data, .data], laidTests := true, laidLooks := .later }
def DeltaGroupsUptoCardSaid : Prop := Claim7.holds Tryd.pinned (.plain (OpenSpec.upto deltaGroupsSpec)) deltaGroupsUptoCard
end Rows
end Go.Proofs.YtkocknhpnmkicaaDoor
