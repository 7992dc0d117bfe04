/-
  DERIVED. GIVEN WITH THE SEED: THE CARDS: each row of YtajaobebcmlhaaaDoorRows.lean that lists a variable, with what it lists TIED to the program's text (the seventh form; the later family's looks); each row that meets fmt, with fmt's text TOLD by the authors' own Lean function (tested against real Go, not proved from fmt's source: count such statements apart). THE CARD IS WHAT COUNTS. Prove the row's statement (the work); the ties are given (YtajaobebcmlhaaaDoorTie.lean); close each card by the builder's one call (the guide's Derived/Test/ToyasCard.lean, 'card_holds'). Laid BY PROGRAM, IN A SANDBOX (cutbox-door.mjs). By AI agents, Wed Nov 11 2026. No macro, syntax, notation, axiom, sorry.
-/
import Derived.Test.YtajaobebcmlhaaaDoorRows
import GoSem.ClaimSeven
namespace Go.Proofs.YtajaobebcmlhaaaDoor
namespace Rows

/-- THE TIED CARD OF 'columbariumlaw01.DigestTells'. -/
def digestTellsCard : Claim7 := { stood := { row := digestTellsRow, standIns := [], harness := (true, "3fd31a6130fcf1c6d61bc8f36256b06066dd979dca5a07b9946fbf24157dc7e4"), looks := false }, kinds := [], alts := [], laidByText := true, laidKinds := [.data], laidTests := true, laidLooks := .later }
def DigestTellsCardSaid : Prop := Claim7.holds Tryd.pinned (.plain (OpenSpec.ofChange digestTellsSpec)) digestTellsCard

/-- THE TIED CARD OF 'columbariumlaw01.DigestParts'. -/
def digestPartsCard : Claim7 := { stood := { row := digestPartsRow, standIns := [], harness := (true, "3fd31a6130fcf1c6d61bc8f36256b06066dd979dca5a07b9946fbf24157dc7e4"), looks := false }, kinds := [], alts := [], laidByText := true, laidKinds := [.data], laidTests := true, laidLooks := .later }
def DigestPartsCardSaid : Prop := Claim7.holds Tryd.pinned (.plain (OpenSpec.ofChange digestPartsSpec)) digestPartsCard

/-- THE TIED CARD OF 'columbariumlaw01.DigestLong'. -/
def digestLongCard : Claim7 := { stood := { row := digestLongRow, standIns := [], harness := (true, "3fd31a6130fcf1c6d61bc8f36256b06066dd979dca5a07b9946fbf24157dc7e4"), looks := false }, kinds := [], alts := [], laidByText := true, laidKinds := [.data], laidTests := true, laidLooks := .later }
def DigestLongCardSaid : Prop := Claim7.holds Tryd.pinned (.plain (OpenSpec.ofChange digestLongSpec)) digestLongCard

/-- THE TIED CARD OF 'columbariumlaw01.DigestBlocks'. -/
def digestBlocksCard : Claim7 := { stood := { row := digestBlocksRow, standIns := [], harness := (true, "3fd31a6130fcf1c6d61bc8f36256b06066dd979dca5a07b9946fbf24157dc7e4"), looks := false }, kinds := [], alts := [], laidByText := true, laidKinds := [.data], laidTests := true, laidLooks := .later }
def DigestBlocksCardSaid : Prop := Claim7.holds Tryd.pinned (.plain (OpenSpec.ofChange digestBlocksSpec)) digestBlocksCard

/-- THE TIED CARD OF 'columbariumlaw01.DigestStays'. -/
def digestStaysCard : Claim7 := { stood := { row := digestStaysRow, standIns := [], harness := (true, "3fd31a6130fcf1c6d61bc8f36256b06066dd979dca5a07b9946fbf24157dc7e4"), looks := false }, kinds := [], alts := [], laidByText := true, laidKinds := [.data], laidTests := true, laidLooks := .later }
def DigestStaysCardSaid : Prop := Claim7.holds Tryd.pinned (.plain (OpenSpec.ofChange digestStaysSpec)) digestStaysCard

/-- THE TIED CARD OF 'columbariumlaw02.MacTells'. -/
def macTellsCard : Claim7 := { stood := { row := macTellsRow, standIns := [], harness := (true, "3fd31a6130fcf1c6d61bc8f36256b06066dd979dca5a07b9946fbf24157dc7e4"), looks := false }, kinds := [], alts := [], laidByText := true, laidKinds := [.data], laidTests := true, laidLooks := .later }
def MacTellsCardSaid : Prop := Claim7.holds Tryd.pinned (.plain (OpenSpec.ofChange macTellsSpec)) macTellsCard

/-- THE TIED CARD OF 'columbariumlaw02.MacBegins'. -/
def macBeginsCard : Claim7 := { stood := { row := macBeginsRow, standIns := [], harness := (true, "3fd31a6130fcf1c6d61bc8f36256b06066dd979dca5a07b9946fbf24157dc7e4"), looks := false }, kinds := [], alts := [], laidByText := true, laidKinds := [.data], laidTests := true, laidLooks := .later }
def MacBeginsCardSaid : Prop := Claim7.holds Tryd.pinned (.plain (OpenSpec.ofChange macBeginsSpec)) macBeginsCard

/-- THE TIED CARD OF 'columbariumlaw02.MacKeys'. -/
def macKeysCard : Claim7 := { stood := { row := macKeysRow, standIns := [], harness := (true, "3fd31a6130fcf1c6d61bc8f36256b06066dd979dca5a07b9946fbf24157dc7e4"), looks := false }, kinds := [], alts := [], laidByText := true, laidKinds := [.data], laidTests := true, laidLooks := .later }
def MacKeysCardSaid : Prop := Claim7.holds Tryd.pinned (.plain (OpenSpec.ofChange macKeysSpec)) macKeysCard

/-- THE TIED CARD OF 'columbariumlaw02.MacSame'. -/
def macSameCard : Claim7 := { stood := { row := macSameRow, standIns := [], harness := (true, "3fd31a6130fcf1c6d61bc8f36256b06066dd979dca5a07b9946fbf24157dc7e4"), looks := false }, kinds := [], alts := [], laidByText := true, laidKinds := [.data], laidTests := true, laidLooks := .later }
def MacSameCardSaid : Prop := Claim7.holds Tryd.pinned (.plain (OpenSpec.ofChange macSameSpec)) macSameCard

/-- THE TIED CARD OF 'columbariumlaw02.MacParts'. -/
def macPartsCard : Claim7 := { stood := { row := macPartsRow, standIns := [], harness := (true, "3fd31a6130fcf1c6d61bc8f36256b06066dd979dca5a07b9946fbf24157dc7e4"), looks := false }, kinds := [], alts := [], laidByText := true, laidKinds := [.data], laidTests := true, laidLooks := .later }
def MacPartsCardSaid : Prop := Claim7.holds Tryd.pinned (.plain (OpenSpec.ofChange macPartsSpec)) macPartsCard

/-- THE TIED CARD OF 'columbariumlaw02.MacLong'. -/
def macLongCard : Claim7 := { stood := { row := macLongRow, standIns := [], harness := (true, "3fd31a6130fcf1c6d61bc8f36256b06066dd979dca5a07b9946fbf24157dc7e4"), looks := false }, kinds := [], alts := [], laidByText := true, laidKinds := [.data], laidTests := true, laidLooks := .later }
def MacLongCardSaid : Prop := Claim7.holds Tryd.pinned (.plain (OpenSpec.ofChange macLongSpec)) macLongCard

/-- THE SECOND FORM's CARD OF 'columbariumlaw01.DigestTells'. -/
def digestTellsUptoCard : Claim7 := { stood := { row := digestTellsUptoRow, standIns := [], harness := (true, "3fd31a6130fcf1c6d61bc8f36256b06066dd979dca5a07b9946fbf24157dc7e4"), looks := false }, kinds := [], alts := [], laidByText := true, laidKinds := [.data], laidTests := true, laidLooks := .later }
def DigestTellsUptoCardSaid : Prop := Claim7.holds Tryd.pinned (.plain (OpenSpec.upto digestTellsSpec)) digestTellsUptoCard

/-- THE SECOND FORM's CARD OF 'columbariumlaw01.DigestParts'. -/
def digestPartsUptoCard : Claim7 := { stood := { row := digestPartsUptoRow, standIns := [], harness := (true, "3fd31a6130fcf1c6d61bc8f36256b06066dd979dca5a07b9946fbf24157dc7e4"), looks := false }, kinds := [], alts := [], laidByText := true, laidKinds := [.data], laidTests := true, laidLooks := .later }
def DigestPartsUptoCardSaid : Prop := Claim7.holds Tryd.pinned (.plain (OpenSpec.upto digestPartsSpec)) digestPartsUptoCard

/-- THE SECOND FORM's CARD OF 'columbariumlaw01.DigestLong'. -/
def digestLongUptoCard : Claim7 := { stood := { row := digestLongUptoRow, standIns := [], harness := (true, "3fd31a6130fcf1c6d61bc8f36256b06066dd979dca5a07b9946fbf24157dc7e4"), looks := false }, kinds := [], alts := [], laidByText := true, laidKinds := [.data], laidTests := true, laidLooks := .later }
def DigestLongUptoCardSaid : Prop := Claim7.holds Tryd.pinned (.plain (OpenSpec.upto digestLongSpec)) digestLongUptoCard

/-- THE SECOND FORM's CARD OF 'columbariumlaw01.DigestBlocks'. -/
def digestBlocksUptoCard : Claim7 := { stood := { row := digestBlocksUptoRow, standIns := [], harness := (true, "3fd31a6130fcf1c6d61bc8f36256b06066dd979dca5a07b9946fbf24157dc7e4"), looks := false }, kinds := [], alts := [], laidByText := true, laidKinds := [.data], laidTests := true, laidLooks := .later }
def DigestBlocksUptoCardSaid : Prop := Claim7.holds Tryd.pinned (.plain (OpenSpec.upto digestBlocksSpec)) digestBlocksUptoCard

/-- THE SECOND FORM's CARD OF 'columbariumlaw01.DigestStays'. -/
def digestStaysUptoCard : Claim7 := { stood := { row := digestStaysUptoRow, standIns := [], harness := (true, "3fd31a6130fcf1c6d61bc8f36256b06066dd979dca5a07b9946fbf24157dc7e4"), looks := false }, kinds := [], alts := [], laidByText := true, laidKinds := [.data], laidTests := true, laidLooks := .later }
def DigestStaysUptoCardSaid : Prop := Claim7.holds Tryd.pinned (.plain (OpenSpec.upto digestStaysSpec)) digestStaysUptoCard

/-- THE SECOND FORM's CARD OF 'columbariumlaw02.MacTells'. -/
def macTellsUptoCard : Claim7 := { stood := { row := macTellsUptoRow, standIns := [], harness := (true, "3fd31a6130fcf1c6d61bc8f36256b06066dd979dca5a07b9946fbf24157dc7e4"), looks := false }, kinds := [], alts := [], laidByText := true, laidKinds := [.data], laidTests := true, laidLooks := .later }
def MacTellsUptoCardSaid : Prop := Claim7.holds Tryd.pinned (.plain (OpenSpec.upto macTellsSpec)) macTellsUptoCard

/-- THE SECOND FORM's CARD OF 'columbariumlaw02.MacBegins'. -/
def macBeginsUptoCard : Claim7 := { stood := { row := macBeginsUptoRow, standIns := [], harness := (true, "3fd31a6130fcf1c6d61bc8f36256b06066dd979dca5a07b9946fbf24157dc7e4"), looks := false }, kinds := [], alts := [], laidByText := true, laidKinds := [.data], laidTests := true, laidLooks := .later }
def MacBeginsUptoCardSaid : Prop := Claim7.holds Tryd.pinned (.plain (OpenSpec.upto macBeginsSpec)) macBeginsUptoCard

/-- THE SECOND FORM's CARD OF 'columbariumlaw02.MacKeys'. -/
def macKeysUptoCard : Claim7 := { stood := { row := macKeysUptoRow, standIns := [], harness := (true, "3fd31a6130fcf1c6d61bc8f36256b06066dd979dca5a07b9946fbf24157dc7e4"), looks := false }, kinds := [], alts := [], laidByText := true, laidKinds := [.data], laidTests := true, laidLooks := .later }
def MacKeysUptoCardSaid : Prop := Claim7.holds Tryd.pinned (.plain (OpenSpec.upto macKeysSpec)) macKeysUptoCard

/-- THE SECOND FORM's CARD OF 'columbariumlaw02.MacSame'. -/
def macSameUptoCard : Claim7 := { stood := { row := macSameUptoRow, standIns := [], harness := (true, "3fd31a6130fcf1c6d61bc8f36256b06066dd979dca5a07b9946fbf24157dc7e4"), looks := false }, kinds := [], alts := [], laidByText := true, laidKinds := [.data], laidTests := true, laidLooks := .later }
def MacSameUptoCardSaid : Prop := Claim7.holds Tryd.pinned (.plain (OpenSpec.upto macSameSpec)) macSameUptoCard

/-- THE SECOND FORM's CARD OF 'columbariumlaw02.MacParts'. -/
def macPartsUptoCard : Claim7 := { stood := { row := macPartsUptoRow, standIns := [], harness := (true, "3fd31a6130fcf1c6d61bc8f36256b06066dd979dca5a07b9946fbf24157dc7e4"), looks := false }, kinds := [], alts := [], laidByText := true, laidKinds := [.data], laidTests := true, laidLooks := .later }
def MacPartsUptoCardSaid : Prop := Claim7.holds Tryd.pinned (.plain (OpenSpec.upto macPartsSpec)) macPartsUptoCard

/-- THE SECOND FORM's CARD OF 'columbariumlaw02.MacLong'. -/
def macLongUptoCard : Claim7 := { stood := { row := macLongUptoRow, standIns := [], harness := (true, "3fd31a6130fcf1c6d61bc8f36256b06066dd979dca5a07b9946fbf24157dc7e4"), looks := false }, kinds := [], alts := [], laidByText := true, laidKinds := [.data], laidTests := true, laidLooks := .later }
def MacLongUptoCardSaid : Prop := Claim7.holds Tryd.pinned (.plain (OpenSpec.upto macLongSpec)) macLongUptoCard
end Rows
end Go.Proofs.YtajaobebcmlhaaaDoor
