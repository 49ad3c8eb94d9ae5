/-
  DERIVED. GIVEN WITH THE SEED: THE CARDS: each row of YtfbjbgknfdekfaaDoorRows.lean that lists a variable, with what it lists TIED to the program's text (the seventh form; the later family's looks); each row that meets fmt, with fmt's text TOLD by the authors' own Lean function (tested against real Go, not proved from fmt's source: count such statements apart). THE CARD IS WHAT COUNTS. Prove the row's statement (the work); the ties are given (YtfbjbgknfdekfaaDoorTie.lean); close each card by the builder's one call (the guide's Derived/Test/ToyasCard.lean, 'card_holds'). Laid BY PROGRAM, IN A SANDBOX (cutbox-door.mjs). By AI agents, Wed Nov 11 2026. No macro, syntax, notation, axiom, sorry.
-/
import Derived.Test.YtfbjbgknfdekfaaDoorRows
import GoSem.ClaimSeven
namespace Go.Proofs.YtfbjbgknfdekfaaDoor
namespace Rows

/-- THE TIED CARD OF 'quartolaw08.DiffCommon'. -/
def diffCommonCard : Claim7 := { stood := { row := diffCommonRow, standIns := [], harness := (true, "210322f210397f4f2830835610f13ee7f2ad718148184d6c430dc6930c2fe78e"), looks := false }, kinds := [], alts := [], laidByText := true, laidKinds := [.data, .pinned], laidTests := true, laidLooks := .later }
def DiffCommonCardSaid : Prop := Claim7.holds Tryd.pinned (.plain (OpenSpec.ofChange diffCommonSpec)) diffCommonCard

/-- THE TIED CARD OF 'quartolaw08.DiffBetween'. -/
def diffBetweenCard : Claim7 := { stood := { row := diffBetweenRow, standIns := [], harness := (true, "210322f210397f4f2830835610f13ee7f2ad718148184d6c430dc6930c2fe78e"), looks := false }, kinds := [], alts := [], laidByText := true, laidKinds := [.data, .pinned], laidTests := true, laidLooks := .later }
def DiffBetweenCardSaid : Prop := Claim7.holds Tryd.pinned (.plain (OpenSpec.ofChange diffBetweenSpec)) diffBetweenCard

/-- THE TIED CARD OF 'quartolaw08.DiffLines'. -/
def diffLinesCard : Claim7 := { stood := { row := diffLinesRow, standIns := [], harness := (true, "210322f210397f4f2830835610f13ee7f2ad718148184d6c430dc6930c2fe78e"), looks := false }, kinds := [], alts := [], laidByText := true, laidKinds := [.data, .pinned], laidTests := true, laidLooks := .later }
def DiffLinesCardSaid : Prop := Claim7.holds Tryd.pinned (.plain (OpenSpec.ofChange diffLinesSpec)) diffLinesCard

/-- THE TIED CARD OF 'quartolaw08.DiffCosts'. -/
def diffCostsCard : Claim7 := { stood := { row := diffCostsRow, standIns := [], harness := (true, "210322f210397f4f2830835610f13ee7f2ad718148184d6c430dc6930c2fe78e"), looks := false }, kinds := [], alts := [], laidByText := true, laidKinds := [.data, .pinned], laidTests := true, laidLooks := .later }
def DiffCostsCardSaid : Prop := Claim7.holds Tryd.pinned (.plain (OpenSpec.ofChange diffCostsSpec)) diffCostsCard

/-- THE TIED CARD OF 'quartolaw08.DiffDistance'. -/
def diffDistanceCard : Claim7 := { stood := { row := diffDistanceRow, standIns := [], harness := (true, "210322f210397f4f2830835610f13ee7f2ad718148184d6c430dc6930c2fe78e"), looks := false }, kinds := [], alts := [], laidByText := true, laidKinds := [.data, .pinned], laidTests := true, laidLooks := .later }
def DiffDistanceCardSaid : Prop := Claim7.holds Tryd.pinned (.plain (OpenSpec.ofChange diffDistanceSpec)) diffDistanceCard

/-- THE TIED CARD OF 'quartolaw08.DiffLeast'. -/
def diffLeastCard : Claim7 := { stood := { row := diffLeastRow, standIns := [], harness := (true, "210322f210397f4f2830835610f13ee7f2ad718148184d6c430dc6930c2fe78e"), looks := false }, kinds := [], alts := [], laidByText := true, laidKinds := [.data, .pinned], laidTests := true, laidLooks := .later }
def DiffLeastCardSaid : Prop := Claim7.holds Tryd.pinned (.plain (OpenSpec.ofChange diffLeastSpec)) diffLeastCard

/-- THE TIED CARD OF 'quartolaw08.DiffLeads'. -/
def diffLeadsCard : Claim7 := { stood := { row := diffLeadsRow, standIns := [], harness := (true, "210322f210397f4f2830835610f13ee7f2ad718148184d6c430dc6930c2fe78e"), looks := false }, kinds := [], alts := [], laidByText := true, laidKinds := [.data, .pinned], laidTests := true, laidLooks := .later }
def DiffLeadsCardSaid : Prop := Claim7.holds Tryd.pinned (.plain (OpenSpec.ofChange diffLeadsSpec)) diffLeadsCard

/-- THE TIED CARD OF 'quartolaw08.DiffValid'. -/
def diffValidCard : Claim7 := { stood := { row := diffValidRow, standIns := [], harness := (true, "210322f210397f4f2830835610f13ee7f2ad718148184d6c430dc6930c2fe78e"), looks := false }, kinds := [], alts := [], laidByText := true, laidKinds := [.data, .pinned], laidTests := true, laidLooks := .later }
def DiffValidCardSaid : Prop := Claim7.holds Tryd.pinned (.plain (OpenSpec.ofChange diffValidSpec)) diffValidCard

/-- THE SECOND FORM's CARD OF 'quartolaw08.DiffCommon'. -/
def diffCommonUptoCard : Claim7 := { stood := { row := diffCommonUptoRow, standIns := [], harness := (true, "210322f210397f4f2830835610f13ee7f2ad718148184d6c430dc6930c2fe78e"), looks := false }, kinds := [], alts := [], laidByText := true, laidKinds := [.data, .pinned], laidTests := true, laidLooks := .later }
def DiffCommonUptoCardSaid : Prop := Claim7.holds Tryd.pinned (.plain (OpenSpec.upto diffCommonSpec)) diffCommonUptoCard

/-- THE SECOND FORM's CARD OF 'quartolaw08.DiffBetween'. -/
def diffBetweenUptoCard : Claim7 := { stood := { row := diffBetweenUptoRow, standIns := [], harness := (true, "210322f210397f4f2830835610f13ee7f2ad718148184d6c430dc6930c2fe78e"), looks := false }, kinds := [], alts := [], laidByText := true, laidKinds := [.data, .pinned], laidTests := true, laidLooks := .later }
def DiffBetweenUptoCardSaid : Prop := Claim7.holds Tryd.pinned (.plain (OpenSpec.upto diffBetweenSpec)) diffBetweenUptoCard

/-- THE SECOND FORM's CARD OF 'quartolaw08.DiffLines'. -/
def diffLinesUptoCard : Claim7 := { stood := { row := diffLinesUptoRow, standIns := [], harness := (true, "210322f210397f4f2830835610f13ee7f2ad718148184d6c430dc6930c2fe78e"), looks := false }, kinds := [], alts := [], laidByText := true, laidKinds := [.data, .pinned], laidTests := true, laidLooks := .later }
def DiffLinesUptoCardSaid : Prop := Claim7.holds Tryd.pinned (.plain (OpenSpec.upto diffLinesSpec)) diffLinesUptoCard

/-- THE SECOND FORM's CARD OF 'quartolaw08.DiffCosts'. -/
def diffCostsUptoCard : Claim7 := { stood := { row := diffCostsUptoRow, standIns := [], harness := (true, "210322f210397f4f2830835610f13ee7f2ad718148184d6c430dc6930c2fe78e"), looks := false }, kinds := [], alts := [], laidByText := true, laidKinds := [.data, .pinned], laidTests := true, laidLooks := .later }
def DiffCostsUptoCardSaid : Prop := Claim7.holds Tryd.pinned (.plain (OpenSpec.upto diffCostsSpec)) diffCostsUptoCard

/-- THE SECOND FORM's CARD OF 'quartolaw08.DiffDistance'. -/
def diffDistanceUptoCard : Claim7 := { stood := { row := diffDistanceUptoRow, standIns := [], harness := (true, "210322f210397f4f2830835610f13ee7f2ad718148184d6c430dc6930c2fe78e"), looks := false }, kinds := [], alts := [], laidByText := true, laidKinds := [.data, .pinned], laidTests := true, laidLooks := .later }
def DiffDistanceUptoCardSaid : Prop := Claim7.holds Tryd.pinned (.plain (OpenSpec.upto diffDistanceSpec)) diffDistanceUptoCard

/-- THE SECOND FORM's CARD OF 'quartolaw08.DiffLeast'. -/
def diffLeastUptoCard : Claim7 := { stood := { row := diffLeastUptoRow, standIns := [], harness := (true, "210322f210397f4f2830835610f13ee7f2ad718148184d6c430dc6930c2fe78e"), looks := false }, kinds := [], alts := [], laidByText := true, laidKinds := [.data, .pinned], laidTests := true, laidLooks := .later }
def DiffLeastUptoCardSaid : Prop := Claim7.holds Tryd.pinned (.plain (OpenSpec.upto diffLeastSpec)) diffLeastUptoCard

/-- THE SECOND FORM's CARD OF 'quartolaw08.DiffLeads'. -/
def diffLeadsUptoCard : Claim7 := { stood := { row := diffLeadsUptoRow, standIns := [], harness := (true, "210322f210397f4f2830835610f13ee7f2ad718148184d6c430dc6930c2fe78e"), looks := false }, kinds := [], alts := [], laidByText := true, laidKinds := [.data, .pinned], laidTests := true, laidLooks := .later }
def DiffLeadsUptoCardSaid : Prop := Claim7.holds Tryd.pinned (.plain (OpenSpec.upto diffLeadsSpec)) diffLeadsUptoCard

/-- THE SECOND FORM's CARD OF 'quartolaw08.DiffValid'. -/
def diffValidUptoCard : Claim7 := { stood := { row := diffValidUptoRow, standIns := [], harness := (true, "210322f210397f4f2830835610f13ee7f2ad718148184d6c430dc6930c2fe78e"), looks := false }, kinds := [], alts := [], laidByText := true, laidKinds := [.data, .pinned], laidTests := true, laidLooks := .later }
def DiffValidUptoCardSaid : Prop := Claim7.holds Tryd.pinned (.plain (OpenSpec.upto diffValidSpec)) diffValidUptoCard
end Rows
end Go.Proofs.YtfbjbgknfdekfaaDoor
