/-
  DERIVED. GIVEN WITH THE SEED: THE CARDS: each row of YtniibpndgcndbaaGreatDoorRows.lean that lists a variable, with what it lists TIED to the program's text (the seventh form; the later family's looks); each row that meets fmt, with fmt's text TOLD by the authors' own Lean function (tested against real Go, not proved from fmt's source: count such statements apart). THE CARD IS WHAT COUNTS. Prove the row's statement (the work); the ties are given (YtniibpndgcndbaaGreatDoorTie.lean); close each card by the builder's one call (the guide's Derived/Test/ToyasCard.lean, 'card_holds'). Laid BY PROGRAM, IN A SANDBOX (cutbox-door.mjs). By AI agents, Wed Nov 11 2026. No macro, syntax, notation, axiom, sorry.
-/
import Derived.Test.YtniibpndgcndbaaGreatDoorRows
import GoSem.ClaimSeven
namespace Go.Proofs.YtniibpndgcndbaaGreatDoor
namespace Rows

/-- THE TIED CARD OF 'bellmanlaw12.VetTells'. -/
def vetTellsCard : Claim7 := { stood := { row := vetTellsRow, standIns := [], harness := (true, "2f0288c261044d36a7345fa33853b4fd09c6747df10377c156900e2762762ce1"), looks := true }, kinds := [], alts := [], laidByText := true, laidKinds := [.data, .sentinel, .pinned], laidTests := true, laidLooks := .later }
def VetTellsCardSaid : Prop := Claim7.holds Tryz.pinned (.plain (OpenSpec.ofChange vetTellsSpec)) vetTellsCard

/-- THE TIED CARD OF 'bellmanlaw12.VetMore'. -/
def vetMoreCard : Claim7 := { stood := { row := vetMoreRow, standIns := [], harness := (true, "2f0288c261044d36a7345fa33853b4fd09c6747df10377c156900e2762762ce1"), looks := true }, kinds := [], alts := [], laidByText := true, laidKinds := [.data, .sentinel, .pinned], laidTests := true, laidLooks := .later }
def VetMoreCardSaid : Prop := Claim7.holds Tryz.pinned (.plain (OpenSpec.ofChange vetMoreSpec)) vetMoreCard

/-- THE TIED CARD OF 'bellmanlaw12.VetSizes'. -/
def vetSizesCard : Claim7 := { stood := { row := vetSizesRow, standIns := [], harness := (true, "2f0288c261044d36a7345fa33853b4fd09c6747df10377c156900e2762762ce1"), looks := true }, kinds := [], alts := [], laidByText := true, laidKinds := [.data, .sentinel, .pinned], laidTests := true, laidLooks := .later }
def VetSizesCardSaid : Prop := Claim7.holds Tryz.pinned (.plain (OpenSpec.ofChange vetSizesSpec)) vetSizesCard

/-- THE TIED CARD OF 'bellmanlaw12.VetWithin'. -/
def vetWithinCard : Claim7 := { stood := { row := vetWithinRow, standIns := [], harness := (true, "2f0288c261044d36a7345fa33853b4fd09c6747df10377c156900e2762762ce1"), looks := true }, kinds := [], alts := [], laidByText := true, laidKinds := [.data, .sentinel, .pinned], laidTests := true, laidLooks := .later }
def VetWithinCardSaid : Prop := Claim7.holds Tryz.pinned (.plain (OpenSpec.ofChange vetWithinSpec)) vetWithinCard

/-- THE TIED CARD OF 'bellmanlaw14.RenderFills'. -/
def renderFillsCard : Claim7 := { stood := { row := renderFillsRow, standIns := [], harness := (true, "2f0288c261044d36a7345fa33853b4fd09c6747df10377c156900e2762762ce1"), looks := true }, kinds := [], alts := [], laidByText := true, laidKinds := [.data, .data, .data, .data, .handle, .sentinel, .data, .pinned], laidTests := true, laidLooks := .later }
def RenderFillsCardSaid : Prop := Claim7.holds Tryz.pinned (.plain (OpenSpec.ofChange renderFillsSpec)) renderFillsCard

/-- THE TIED CARD OF 'bellmanlaw14.RenderMeans'. -/
def renderMeansCard : Claim7 := { stood := { row := renderMeansRow, standIns := [], harness := (true, "2f0288c261044d36a7345fa33853b4fd09c6747df10377c156900e2762762ce1"), looks := true }, kinds := [], alts := [], laidByText := true, laidKinds := [.data, .data, .data, .data, .handle, .sentinel, .data, .pinned], laidTests := true, laidLooks := .later }
def RenderMeansCardSaid : Prop := Claim7.holds Tryz.pinned (.plain (OpenSpec.ofChange renderMeansSpec)) renderMeansCard

/-- THE TIED CARD OF 'bellmanlaw14.RenderParts'. -/
def renderPartsCard : Claim7 := { stood := { row := renderPartsRow, standIns := [], harness := (true, "2f0288c261044d36a7345fa33853b4fd09c6747df10377c156900e2762762ce1"), looks := true }, kinds := [], alts := [], laidByText := true, laidKinds := [.data, .data, .data, .data, .handle, .sentinel, .data, .pinned], laidTests := true, laidLooks := .later }
def RenderPartsCardSaid : Prop := Claim7.holds Tryz.pinned (.plain (OpenSpec.ofChange renderPartsSpec)) renderPartsCard

/-- THE TIED CARD OF 'bellmanlaw14.RenderSafe'. -/
def renderSafeCard : Claim7 := { stood := { row := renderSafeRow, standIns := [], harness := (true, "2f0288c261044d36a7345fa33853b4fd09c6747df10377c156900e2762762ce1"), looks := true }, kinds := [], alts := [], laidByText := true, laidKinds := [.data, .data, .data, .data, .handle, .sentinel, .data, .pinned], laidTests := true, laidLooks := .later }
def RenderSafeCardSaid : Prop := Claim7.holds Tryz.pinned (.plain (OpenSpec.ofChange renderSafeSpec)) renderSafeCard

/-- THE TIED CARD OF 'bellmanlaw14.RenderPlain'. -/
def renderPlainCard : Claim7 := { stood := { row := renderPlainRow, standIns := [], harness := (true, "2f0288c261044d36a7345fa33853b4fd09c6747df10377c156900e2762762ce1"), looks := true }, kinds := [], alts := [], laidByText := true, laidKinds := [.data, .data, .data, .data, .handle, .sentinel, .data, .pinned], laidTests := true, laidLooks := .later }
def RenderPlainCardSaid : Prop := Claim7.holds Tryz.pinned (.plain (OpenSpec.ofChange renderPlainSpec)) renderPlainCard

/-- THE SECOND FORM's CARD OF 'bellmanlaw12.VetTells'. -/
def vetTellsUptoCard : Claim7 := { stood := { row := vetTellsUptoRow, standIns := [], harness := (true, "2f0288c261044d36a7345fa33853b4fd09c6747df10377c156900e2762762ce1"), looks := true }, kinds := [], alts := [], laidByText := true, laidKinds := [.data, .sentinel, .pinned], laidTests := true, laidLooks := .later }
def VetTellsUptoCardSaid : Prop := Claim7.holds Tryz.pinned (.plain (OpenSpec.upto vetTellsSpec)) vetTellsUptoCard

/-- THE SECOND FORM's CARD OF 'bellmanlaw12.VetMore'. -/
def vetMoreUptoCard : Claim7 := { stood := { row := vetMoreUptoRow, standIns := [], harness := (true, "2f0288c261044d36a7345fa33853b4fd09c6747df10377c156900e2762762ce1"), looks := true }, kinds := [], alts := [], laidByText := true, laidKinds := [.data, .sentinel, .pinned], laidTests := true, laidLooks := .later }
def VetMoreUptoCardSaid : Prop := Claim7.holds Tryz.pinned (.plain (OpenSpec.upto vetMoreSpec)) vetMoreUptoCard

/-- THE SECOND FORM's CARD OF 'bellmanlaw12.VetSizes'. -/
def vetSizesUptoCard : Claim7 := { stood := { row := vetSizesUptoRow, standIns := [], harness := (true, "2f0288c261044d36a7345fa33853b4fd09c6747df10377c156900e2762762ce1"), looks := true }, kinds := [], alts := [], laidByText := true, laidKinds := [.data, .sentinel, .pinned], laidTests := true, laidLooks := .later }
def VetSizesUptoCardSaid : Prop := Claim7.holds Tryz.pinned (.plain (OpenSpec.upto vetSizesSpec)) vetSizesUptoCard

/-- THE SECOND FORM's CARD OF 'bellmanlaw12.VetWithin'. -/
def vetWithinUptoCard : Claim7 := { stood := { row := vetWithinUptoRow, standIns := [], harness := (true, "2f0288c261044d36a7345fa33853b4fd09c6747df10377c156900e2762762ce1"), looks := true }, kinds := [], alts := [], laidByText := true, laidKinds := [.data, .sentinel, .pinned], laidTests := true, laidLooks := .later }
def VetWithinUptoCardSaid : Prop := Claim7.holds Tryz.pinned (.plain (OpenSpec.upto vetWithinSpec)) vetWithinUptoCard

/-- THE SECOND FORM's CARD OF 'bellmanlaw14.RenderFills'. -/
def renderFillsUptoCard : Claim7 := { stood := { row := renderFillsUptoRow, standIns := [], harness := (true, "2f0288c261044d36a7345fa33853b4fd09c6747df10377c156900e2762762ce1"), looks := true }, kinds := [], alts := [], laidByText := true, laidKinds := [.data, .data, .data, .data, .handle, .sentinel, .data, .pinned], laidTests := true, laidLooks := .later }
def RenderFillsUptoCardSaid : Prop := Claim7.holds Tryz.pinned (.plain (OpenSpec.upto renderFillsSpec)) renderFillsUptoCard

/-- THE SECOND FORM's CARD OF 'bellmanlaw14.RenderMeans'. -/
def renderMeansUptoCard : Claim7 := { stood := { row := renderMeansUptoRow, standIns := [], harness := (true, "2f0288c261044d36a7345fa33853b4fd09c6747df10377c156900e2762762ce1"), looks := true }, kinds := [], alts := [], laidByText := true, laidKinds := [.data, .data, .data, .data, .handle, .sentinel, .data, .pinned], laidTests := true, laidLooks := .later }
def RenderMeansUptoCardSaid : Prop := Claim7.holds Tryz.pinned (.plain (OpenSpec.upto renderMeansSpec)) renderMeansUptoCard

/-- THE SECOND FORM's CARD OF 'bellmanlaw14.RenderParts'. -/
def renderPartsUptoCard : Claim7 := { stood := { row := renderPartsUptoRow, standIns := [], harness := (true, "2f0288c261044d36a7345fa33853b4fd09c6747df10377c156900e2762762ce1"), looks := true }, kinds := [], alts := [], laidByText := true, laidKinds := [.data, .data, .data, .data, .handle, .sentinel, .data, .pinned], laidTests := true, laidLooks := .later }
def RenderPartsUptoCardSaid : Prop := Claim7.holds Tryz.pinned (.plain (OpenSpec.upto renderPartsSpec)) renderPartsUptoCard

/-- THE SECOND FORM's CARD OF 'bellmanlaw14.RenderSafe'. -/
def renderSafeUptoCard : Claim7 := { stood := { row := renderSafeUptoRow, standIns := [], harness := (true, "2f0288c261044d36a7345fa33853b4fd09c6747df10377c156900e2762762ce1"), looks := true }, kinds := [], alts := [], laidByText := true, laidKinds := [.data, .data, .data, .data, .handle, .sentinel, .data, .pinned], laidTests := true, laidLooks := .later }
def RenderSafeUptoCardSaid : Prop := Claim7.holds Tryz.pinned (.plain (OpenSpec.upto renderSafeSpec)) renderSafeUptoCard

/-- THE SECOND FORM's CARD OF 'bellmanlaw14.RenderPlain'. -/
def renderPlainUptoCard : Claim7 := { stood := { row := renderPlainUptoRow, standIns := [], harness := (true, "2f0288c261044d36a7345fa33853b4fd09c6747df10377c156900e2762762ce1"), looks := true }, kinds := [], alts := [], laidByText := true, laidKinds := [.data, .data, .data, .data, .handle, .sentinel, .data, .pinned], laidTests := true, laidLooks := .later }
def RenderPlainUptoCardSaid : Prop := Claim7.holds Tryz.pinned (.plain (OpenSpec.upto renderPlainSpec)) renderPlainUptoCard
end Rows
end Go.Proofs.YtniibpndgcndbaaGreatDoor
