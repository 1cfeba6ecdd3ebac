/-
  DERIVED. GIVEN WITH THE SEED: THE CARDS: each row of YthngelbaheankaaGreatDoorRows.lean that lists a variable, with what it lists TIED to the program's text (the seventh form; the later family's looks); each row that meets fmt, with fmt's text TOLD by the authors' own Lean function (tested against real Go, not proved from fmt's source: count such statements apart). THE CARD IS WHAT COUNTS. Prove the row's statement (the work); the ties are given (YthngelbaheankaaGreatDoorTie.lean); close each card by the builder's one call (the guide's Derived/Test/ToyasCard.lean, 'card_holds'). Laid BY PROGRAM, IN A SANDBOX (cutbox-door.mjs). By AI agents, Wed Nov 11 2026. No macro, syntax, notation, axiom, sorry.
-/
import Derived.Test.YthngelbaheankaaGreatDoorRows
import GoSem.ClaimSeven
namespace Go.Proofs.YthngelbaheankaaGreatDoor
namespace Rows

/-- THE TIED CARD OF 'bellmanlaw14.RenderFills'. -/
def renderFillsCard : Claim7 := { stood := { row := renderFillsRow, standIns := [], harness := (true, "037a116372e69f6bd9aeb5bf192e4b159644ce9f4f52ca90ef3a888936072ce0"), looks := true }, kinds := [], alts := [], laidByText := true, laidKinds := [.data, .data, .data, .data, .handle, .sentinel, .data, .pinned], laidTests := true, laidLooks := .later }
def RenderFillsCardSaid : Prop := Claim7.holds Tryz.pinned (.plain (OpenSpec.ofChange renderFillsSpec)) renderFillsCard

/-- THE TIED CARD OF 'bellmanlaw18.ChainAsks'. -/
def chainAsksCard : Claim7 := { stood := { row := chainAsksRow, standIns := [], harness := (true, "037a116372e69f6bd9aeb5bf192e4b159644ce9f4f52ca90ef3a888936072ce0"), looks := true }, kinds := [], alts := [], laidByText := true, laidKinds := [.data, .handle, .data, .sentinel, .widerDeep, .pinned], laidTests := true, laidLooks := .later }
def ChainAsksCardSaid : Prop := Claim7.holds Tryz.pinned (.plain (OpenSpec.ofChange chainAsksSpec)) chainAsksCard

/-- THE TIED CARD OF 'bellmanlaw18.ChainLists'. -/
def chainListsCard : Claim7 := { stood := { row := chainListsRow, standIns := [], harness := (true, "037a116372e69f6bd9aeb5bf192e4b159644ce9f4f52ca90ef3a888936072ce0"), looks := true }, kinds := [], alts := [], laidByText := true, laidKinds := [.data, .handle, .data, .sentinel, .widerDeep, .pinned], laidTests := true, laidLooks := .later }
def ChainListsCardSaid : Prop := Claim7.holds Tryz.pinned (.plain (OpenSpec.ofChange chainListsSpec)) chainListsCard

/-- THE TIED CARD OF 'bellmanlaw18.ChainFound'. -/
def chainFoundCard : Claim7 := { stood := { row := chainFoundRow, standIns := [], harness := (true, "037a116372e69f6bd9aeb5bf192e4b159644ce9f4f52ca90ef3a888936072ce0"), looks := true }, kinds := [], alts := [], laidByText := true, laidKinds := [.data, .handle, .data, .sentinel, .widerDeep, .pinned], laidTests := true, laidLooks := .later }
def ChainFoundCardSaid : Prop := Claim7.holds Tryz.pinned (.plain (OpenSpec.ofChange chainFoundSpec)) chainFoundCard

/-- THE TIED CARD OF 'bellmanlaw18.ChainLong'. -/
def chainLongCard : Claim7 := { stood := { row := chainLongRow, standIns := [], harness := (true, "037a116372e69f6bd9aeb5bf192e4b159644ce9f4f52ca90ef3a888936072ce0"), looks := true }, kinds := [], alts := [], laidByText := true, laidKinds := [.data, .handle, .data, .sentinel, .widerDeep, .pinned], laidTests := true, laidLooks := .later }
def ChainLongCardSaid : Prop := Claim7.holds Tryz.pinned (.plain (OpenSpec.ofChange chainLongSpec)) chainLongCard

/-- THE TIED CARD OF 'bellmanlaw18.ChainSource'. -/
def chainSourceCard : Claim7 := { stood := { row := chainSourceRow, standIns := [], harness := (true, "037a116372e69f6bd9aeb5bf192e4b159644ce9f4f52ca90ef3a888936072ce0"), looks := true }, kinds := [], alts := [], laidByText := true, laidKinds := [.data, .handle, .data, .sentinel, .widerDeep, .pinned], laidTests := true, laidLooks := .later }
def ChainSourceCardSaid : Prop := Claim7.holds Tryz.pinned (.plain (OpenSpec.ofChange chainSourceSpec)) chainSourceCard

/-- THE TIED CARD OF 'bellmanlaw14.RenderAsks'. -/
def renderAsksCard : Claim7 := { stood := { row := renderAsksRow, standIns := [], harness := (true, "037a116372e69f6bd9aeb5bf192e4b159644ce9f4f52ca90ef3a888936072ce0"), looks := true }, kinds := [], alts := [], laidByText := true, laidKinds := [.data, .data, .data, .data, .handle, .sentinel, .data, .pinned], laidTests := true, laidLooks := .later }
def RenderAsksCardSaid : Prop := Claim7.holds Tryz.pinned (.plain (OpenSpec.ofChange renderAsksSpec)) renderAsksCard

/-- THE SECOND FORM's CARD OF 'bellmanlaw14.RenderFills'. -/
def renderFillsUptoCard : Claim7 := { stood := { row := renderFillsUptoRow, standIns := [], harness := (true, "037a116372e69f6bd9aeb5bf192e4b159644ce9f4f52ca90ef3a888936072ce0"), looks := true }, kinds := [], alts := [], laidByText := true, laidKinds := [.data, .data, .data, .data, .handle, .sentinel, .data, .pinned], laidTests := true, laidLooks := .later }
def RenderFillsUptoCardSaid : Prop := Claim7.holds Tryz.pinned (.plain (OpenSpec.upto renderFillsSpec)) renderFillsUptoCard

/-- THE SECOND FORM's CARD OF 'bellmanlaw18.ChainAsks'. -/
def chainAsksUptoCard : Claim7 := { stood := { row := chainAsksUptoRow, standIns := [], harness := (true, "037a116372e69f6bd9aeb5bf192e4b159644ce9f4f52ca90ef3a888936072ce0"), looks := true }, kinds := [], alts := [], laidByText := true, laidKinds := [.data, .handle, .data, .sentinel, .widerDeep, .pinned], laidTests := true, laidLooks := .later }
def ChainAsksUptoCardSaid : Prop := Claim7.holds Tryz.pinned (.plain (OpenSpec.upto chainAsksSpec)) chainAsksUptoCard

/-- THE SECOND FORM's CARD OF 'bellmanlaw18.ChainLists'. -/
def chainListsUptoCard : Claim7 := { stood := { row := chainListsUptoRow, standIns := [], harness := (true, "037a116372e69f6bd9aeb5bf192e4b159644ce9f4f52ca90ef3a888936072ce0"), looks := true }, kinds := [], alts := [], laidByText := true, laidKinds := [.data, .handle, .data, .sentinel, .widerDeep, .pinned], laidTests := true, laidLooks := .later }
def ChainListsUptoCardSaid : Prop := Claim7.holds Tryz.pinned (.plain (OpenSpec.upto chainListsSpec)) chainListsUptoCard

/-- THE SECOND FORM's CARD OF 'bellmanlaw18.ChainFound'. -/
def chainFoundUptoCard : Claim7 := { stood := { row := chainFoundUptoRow, standIns := [], harness := (true, "037a116372e69f6bd9aeb5bf192e4b159644ce9f4f52ca90ef3a888936072ce0"), looks := true }, kinds := [], alts := [], laidByText := true, laidKinds := [.data, .handle, .data, .sentinel, .widerDeep, .pinned], laidTests := true, laidLooks := .later }
def ChainFoundUptoCardSaid : Prop := Claim7.holds Tryz.pinned (.plain (OpenSpec.upto chainFoundSpec)) chainFoundUptoCard

/-- THE SECOND FORM's CARD OF 'bellmanlaw18.ChainLong'. -/
def chainLongUptoCard : Claim7 := { stood := { row := chainLongUptoRow, standIns := [], harness := (true, "037a116372e69f6bd9aeb5bf192e4b159644ce9f4f52ca90ef3a888936072ce0"), looks := true }, kinds := [], alts := [], laidByText := true, laidKinds := [.data, .handle, .data, .sentinel, .widerDeep, .pinned], laidTests := true, laidLooks := .later }
def ChainLongUptoCardSaid : Prop := Claim7.holds Tryz.pinned (.plain (OpenSpec.upto chainLongSpec)) chainLongUptoCard

/-- THE SECOND FORM's CARD OF 'bellmanlaw18.ChainSource'. -/
def chainSourceUptoCard : Claim7 := { stood := { row := chainSourceUptoRow, standIns := [], harness := (true, "037a116372e69f6bd9aeb5bf192e4b159644ce9f4f52ca90ef3a888936072ce0"), looks := true }, kinds := [], alts := [], laidByText := true, laidKinds := [.data, .handle, .data, .sentinel, .widerDeep, .pinned], laidTests := true, laidLooks := .later }
def ChainSourceUptoCardSaid : Prop := Claim7.holds Tryz.pinned (.plain (OpenSpec.upto chainSourceSpec)) chainSourceUptoCard

/-- THE SECOND FORM's CARD OF 'bellmanlaw14.RenderAsks'. -/
def renderAsksUptoCard : Claim7 := { stood := { row := renderAsksUptoRow, standIns := [], harness := (true, "037a116372e69f6bd9aeb5bf192e4b159644ce9f4f52ca90ef3a888936072ce0"), looks := true }, kinds := [], alts := [], laidByText := true, laidKinds := [.data, .data, .data, .data, .handle, .sentinel, .data, .pinned], laidTests := true, laidLooks := .later }
def RenderAsksUptoCardSaid : Prop := Claim7.holds Tryz.pinned (.plain (OpenSpec.upto renderAsksSpec)) renderAsksUptoCard
end Rows
end Go.Proofs.YthngelbaheankaaGreatDoor
