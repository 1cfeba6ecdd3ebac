/-
  DERIVED. GIVEN WITH THE SEED: THE CARDS: each row of YtcbdihhnoicabaaDoorRows.lean that lists a variable, with what it lists TIED to the program's text (the seventh form; the later family's looks); each row that meets fmt, with fmt's text TOLD by the authors' own Lean function (tested against real Go, not proved from fmt's source: count such statements apart). THE CARD IS WHAT COUNTS. Prove the row's statement (the work); the ties are given (YtcbdihhnoicabaaDoorTie.lean); close each card by the builder's one call (the guide's Derived/Test/ToyasCard.lean, 'card_holds'). Laid BY PROGRAM, IN A SANDBOX (cutbox-door.mjs). By AI agents, Wed Nov 11 2026. No macro, syntax, notation, axiom, sorry.
-/
import Derived.Test.YtcbdihhnoicabaaDoorRows
import GoSem.ClaimSeven
namespace Go.Proofs.YtcbdihhnoicabaaDoor
namespace Rows

/-- THE TIED CARD OF 'bellmanlaw05.CivilMonths'. -/
def civilMonthsCard : Claim7 := { stood := { row := civilMonthsRow, standIns := [], harness := (true, "49f250ab8f18c154f2e9d2fed7978689c5721a99358d2211e966b0e374435395"), looks := false }, kinds := [], alts := [], laidByText := true, laidKinds := [.data], laidTests := true, laidLooks := .later }
def CivilMonthsCardSaid : Prop := Claim7.holds Tryd.pinned (.plain (OpenSpec.ofChange civilMonthsSpec)) civilMonthsCard

/-- THE TIED CARD OF 'bellmanlaw05.CivilOn'. -/
def civilOnCard : Claim7 := { stood := { row := civilOnRow, standIns := [], harness := (true, "49f250ab8f18c154f2e9d2fed7978689c5721a99358d2211e966b0e374435395"), looks := false }, kinds := [], alts := [], laidByText := true, laidKinds := [.data], laidTests := true, laidLooks := .later }
def CivilOnCardSaid : Prop := Claim7.holds Tryd.pinned (.plain (OpenSpec.ofChange civilOnSpec)) civilOnCard

/-- THE TIED CARD OF 'bellmanlaw05.CivilNth'. -/
def civilNthCard : Claim7 := { stood := { row := civilNthRow, standIns := [], harness := (true, "49f250ab8f18c154f2e9d2fed7978689c5721a99358d2211e966b0e374435395"), looks := false }, kinds := [], alts := [], laidByText := true, laidKinds := [.data], laidTests := true, laidLooks := .later }
def CivilNthCardSaid : Prop := Claim7.holds Tryd.pinned (.plain (OpenSpec.ofChange civilNthSpec)) civilNthCard

/-- THE TIED CARD OF 'bellmanlaw13.EscTexts'. -/
def escTextsCard : Claim7 := { stood := { row := escTextsRow, standIns := [], harness := (true, "49f250ab8f18c154f2e9d2fed7978689c5721a99358d2211e966b0e374435395"), looks := false }, kinds := [], alts := [], laidByText := true, laidKinds := [.data], laidTests := true, laidLooks := .later }
def EscTextsCardSaid : Prop := Claim7.holds Tryd.pinned (.plain (OpenSpec.ofChange escTextsSpec)) escTextsCard

/-- THE TIED CARD OF 'bellmanlaw13.EscChannels'. -/
def escChannelsCard : Claim7 := { stood := { row := escChannelsRow, standIns := [], harness := (true, "49f250ab8f18c154f2e9d2fed7978689c5721a99358d2211e966b0e374435395"), looks := false }, kinds := [], alts := [], laidByText := true, laidKinds := [.data], laidTests := true, laidLooks := .later }
def EscChannelsCardSaid : Prop := Claim7.holds Tryd.pinned (.plain (OpenSpec.ofChange escChannelsSpec)) escChannelsCard

/-- THE TIED CARD OF 'bellmanlaw13.EscBack'. -/
def escBackCard : Claim7 := { stood := { row := escBackRow, standIns := [], harness := (true, "49f250ab8f18c154f2e9d2fed7978689c5721a99358d2211e966b0e374435395"), looks := false }, kinds := [], alts := [], laidByText := true, laidKinds := [.data], laidTests := true, laidLooks := .later }
def EscBackCardSaid : Prop := Claim7.holds Tryd.pinned (.plain (OpenSpec.ofChange escBackSpec)) escBackCard

/-- THE TIED CARD OF 'bellmanlaw13.EscSafe'. -/
def escSafeCard : Claim7 := { stood := { row := escSafeRow, standIns := [], harness := (true, "49f250ab8f18c154f2e9d2fed7978689c5721a99358d2211e966b0e374435395"), looks := false }, kinds := [], alts := [], laidByText := true, laidKinds := [.data], laidTests := true, laidLooks := .later }
def EscSafeCardSaid : Prop := Claim7.holds Tryd.pinned (.plain (OpenSpec.ofChange escSafeSpec)) escSafeCard

/-- THE TIED CARD OF 'bellmanlaw13.EscParts'. -/
def escPartsCard : Claim7 := { stood := { row := escPartsRow, standIns := [], harness := (true, "49f250ab8f18c154f2e9d2fed7978689c5721a99358d2211e966b0e374435395"), looks := false }, kinds := [], alts := [], laidByText := true, laidKinds := [.data], laidTests := true, laidLooks := .later }
def EscPartsCardSaid : Prop := Claim7.holds Tryd.pinned (.plain (OpenSpec.ofChange escPartsSpec)) escPartsCard

/-- THE TIED CARD OF 'bellmanlaw06.ZonePlain'. -/
def zonePlainCard : Claim7 := { stood := { row := zonePlainRow, standIns := [], harness := (true, "49f250ab8f18c154f2e9d2fed7978689c5721a99358d2211e966b0e374435395"), looks := false }, kinds := [], alts := [], laidByText := true, laidKinds := [.data], laidTests := true, laidLooks := .later }
def ZonePlainCardSaid : Prop := Claim7.holds Tryd.pinned (.plain (OpenSpec.ofChange zonePlainSpec)) zonePlainCard

/-- THE SECOND FORM's CARD OF 'bellmanlaw05.CivilMonths'. -/
def civilMonthsUptoCard : Claim7 := { stood := { row := civilMonthsUptoRow, standIns := [], harness := (true, "49f250ab8f18c154f2e9d2fed7978689c5721a99358d2211e966b0e374435395"), looks := false }, kinds := [], alts := [], laidByText := true, laidKinds := [.data], laidTests := true, laidLooks := .later }
def CivilMonthsUptoCardSaid : Prop := Claim7.holds Tryd.pinned (.plain (OpenSpec.upto civilMonthsSpec)) civilMonthsUptoCard

/-- THE SECOND FORM's CARD OF 'bellmanlaw05.CivilOn'. -/
def civilOnUptoCard : Claim7 := { stood := { row := civilOnUptoRow, standIns := [], harness := (true, "49f250ab8f18c154f2e9d2fed7978689c5721a99358d2211e966b0e374435395"), looks := false }, kinds := [], alts := [], laidByText := true, laidKinds := [.data], laidTests := true, laidLooks := .later }
def CivilOnUptoCardSaid : Prop := Claim7.holds Tryd.pinned (.plain (OpenSpec.upto civilOnSpec)) civilOnUptoCard

/-- THE SECOND FORM's CARD OF 'bellmanlaw05.CivilNth'. -/
def civilNthUptoCard : Claim7 := { stood := { row := civilNthUptoRow, standIns := [], harness := (true, "49f250ab8f18c154f2e9d2fed7978689c5721a99358d2211e966b0e374435395"), looks := false }, kinds := [], alts := [], laidByText := true, laidKinds := [.data], laidTests := true, laidLooks := .later }
def CivilNthUptoCardSaid : Prop := Claim7.holds Tryd.pinned (.plain (OpenSpec.upto civilNthSpec)) civilNthUptoCard

/-- THE SECOND FORM's CARD OF 'bellmanlaw13.EscTexts'. -/
def escTextsUptoCard : Claim7 := { stood := { row := escTextsUptoRow, standIns := [], harness := (true, "49f250ab8f18c154f2e9d2fed7978689c5721a99358d2211e966b0e374435395"), looks := false }, kinds := [], alts := [], laidByText := true, laidKinds := [.data], laidTests := true, laidLooks := .later }
def EscTextsUptoCardSaid : Prop := Claim7.holds Tryd.pinned (.plain (OpenSpec.upto escTextsSpec)) escTextsUptoCard

/-- THE SECOND FORM's CARD OF 'bellmanlaw13.EscChannels'. -/
def escChannelsUptoCard : Claim7 := { stood := { row := escChannelsUptoRow, standIns := [], harness := (true, "49f250ab8f18c154f2e9d2fed7978689c5721a99358d2211e966b0e374435395"), looks := false }, kinds := [], alts := [], laidByText := true, laidKinds := [.data], laidTests := true, laidLooks := .later }
def EscChannelsUptoCardSaid : Prop := Claim7.holds Tryd.pinned (.plain (OpenSpec.upto escChannelsSpec)) escChannelsUptoCard

/-- THE SECOND FORM's CARD OF 'bellmanlaw13.EscBack'. -/
def escBackUptoCard : Claim7 := { stood := { row := escBackUptoRow, standIns := [], harness := (true, "49f250ab8f18c154f2e9d2fed7978689c5721a99358d2211e966b0e374435395"), looks := false }, kinds := [], alts := [], laidByText := true, laidKinds := [.data], laidTests := true, laidLooks := .later }
def EscBackUptoCardSaid : Prop := Claim7.holds Tryd.pinned (.plain (OpenSpec.upto escBackSpec)) escBackUptoCard

/-- THE SECOND FORM's CARD OF 'bellmanlaw13.EscSafe'. -/
def escSafeUptoCard : Claim7 := { stood := { row := escSafeUptoRow, standIns := [], harness := (true, "49f250ab8f18c154f2e9d2fed7978689c5721a99358d2211e966b0e374435395"), looks := false }, kinds := [], alts := [], laidByText := true, laidKinds := [.data], laidTests := true, laidLooks := .later }
def EscSafeUptoCardSaid : Prop := Claim7.holds Tryd.pinned (.plain (OpenSpec.upto escSafeSpec)) escSafeUptoCard

/-- THE SECOND FORM's CARD OF 'bellmanlaw13.EscParts'. -/
def escPartsUptoCard : Claim7 := { stood := { row := escPartsUptoRow, standIns := [], harness := (true, "49f250ab8f18c154f2e9d2fed7978689c5721a99358d2211e966b0e374435395"), looks := false }, kinds := [], alts := [], laidByText := true, laidKinds := [.data], laidTests := true, laidLooks := .later }
def EscPartsUptoCardSaid : Prop := Claim7.holds Tryd.pinned (.plain (OpenSpec.upto escPartsSpec)) escPartsUptoCard

/-- THE SECOND FORM's CARD OF 'bellmanlaw06.ZonePlain'. -/
def zonePlainUptoCard : Claim7 := { stood := { row := zonePlainUptoRow, standIns := [], harness := (true, "49f250ab8f18c154f2e9d2fed7978689c5721a99358d2211e966b0e374435395"), looks := false }, kinds := [], alts := [], laidByText := true, laidKinds := [.data], laidTests := true, laidLooks := .later }
def ZonePlainUptoCardSaid : Prop := Claim7.holds Tryd.pinned (.plain (OpenSpec.upto zonePlainSpec)) zonePlainUptoCard
end Rows
end Go.Proofs.YtcbdihhnoicabaaDoor
