/-
  DERIVED. GIVEN WITH THE SEED: THE CARDS: each row of YtpmnnnbkbcpgjaaGreatDoorRows.lean that lists a variable, with what it lists TIED to the program's text (the seventh form; the later family's looks); each row that meets fmt, with fmt's text TOLD by the authors' own Lean function (tested against real Go, not proved from fmt's source: count such statements apart). THE CARD IS WHAT COUNTS. Prove the row's statement (the work); the ties are given (YtpmnnnbkbcpgjaaGreatDoorTie.lean); close each card by the builder's one call (the guide's Derived/Test/ToyasCard.lean, 'card_holds'). Laid BY PROGRAM, IN A SANDBOX (cutbox-door.mjs). By AI agents, Wed Nov 11 2026. No macro, syntax, notation, axiom, sorry.
-/
import Derived.Test.YtpmnnnbkbcpgjaaGreatDoorRows
import GoSem.ClaimSeven
namespace Go.Proofs.YtpmnnnbkbcpgjaaGreatDoor
namespace Rows

/-- THE TIED CARD OF 'notarylaw08.SegmentNames'. -/
def segmentNamesCard : Claim7 := { stood := { row := segmentNamesRow, standIns := [], harness := (true, "b8802985d818bf973d10fe2593d37af651c40be52b1be0db7053c32340a04f23"), looks := true }, kinds := [], alts := [], laidByText := true, laidKinds := [.data, .data, .data, .sentinel, .sentinel], laidTests := true, laidLooks := .later }
def SegmentNamesCardSaid : Prop := Claim7.holds Tryz.pinned (.plain (OpenSpec.ofChange segmentNamesSpec)) segmentNamesCard

/-- THE TIED CARD OF 'notarylaw08.SegmentEncodes'. -/
def segmentEncodesCard : Claim7 := { stood := { row := segmentEncodesRow, standIns := [], harness := (true, "b8802985d818bf973d10fe2593d37af651c40be52b1be0db7053c32340a04f23"), looks := true }, kinds := [], alts := [], laidByText := true, laidKinds := [.data, .data, .data, .sentinel, .sentinel], laidTests := true, laidLooks := .later }
def SegmentEncodesCardSaid : Prop := Claim7.holds Tryz.pinned (.plain (OpenSpec.ofChange segmentEncodesSpec)) segmentEncodesCard

/-- THE TIED CARD OF 'notarylaw08.SegmentReads'. -/
def segmentReadsCard : Claim7 := { stood := { row := segmentReadsRow, standIns := [], harness := (true, "b8802985d818bf973d10fe2593d37af651c40be52b1be0db7053c32340a04f23"), looks := true }, kinds := [], alts := [], laidByText := true, laidKinds := [.data, .data, .data, .sentinel, .sentinel], laidTests := true, laidLooks := .later }
def SegmentReadsCardSaid : Prop := Claim7.holds Tryz.pinned (.plain (OpenSpec.ofChange segmentReadsSpec)) segmentReadsCard

/-- THE TIED CARD OF 'notarylaw08.SegmentThere'. -/
def segmentThereCard : Claim7 := { stood := { row := segmentThereRow, standIns := [], harness := (true, "b8802985d818bf973d10fe2593d37af651c40be52b1be0db7053c32340a04f23"), looks := true }, kinds := [], alts := [], laidByText := true, laidKinds := [.data, .data, .data, .sentinel, .sentinel], laidTests := true, laidLooks := .later }
def SegmentThereCardSaid : Prop := Claim7.holds Tryz.pinned (.plain (OpenSpec.ofChange segmentThereSpec)) segmentThereCard

/-- THE TIED CARD OF 'notarylaw08.SegmentTorn'. -/
def segmentTornCard : Claim7 := { stood := { row := segmentTornRow, standIns := [], harness := (true, "b8802985d818bf973d10fe2593d37af651c40be52b1be0db7053c32340a04f23"), looks := true }, kinds := [], alts := [], laidByText := true, laidKinds := [.data, .data, .data, .sentinel, .sentinel], laidTests := true, laidLooks := .later }
def SegmentTornCardSaid : Prop := Claim7.holds Tryz.pinned (.plain (OpenSpec.ofChange segmentTornSpec)) segmentTornCard

/-- THE TIED CARD OF 'notarylaw08.SegmentGap'. -/
def segmentGapCard : Claim7 := { stood := { row := segmentGapRow, standIns := [], harness := (true, "b8802985d818bf973d10fe2593d37af651c40be52b1be0db7053c32340a04f23"), looks := true }, kinds := [], alts := [], laidByText := true, laidKinds := [.data, .data, .data, .sentinel, .sentinel], laidTests := true, laidLooks := .later }
def SegmentGapCardSaid : Prop := Claim7.holds Tryz.pinned (.plain (OpenSpec.ofChange segmentGapSpec)) segmentGapCard

/-- THE TIED CARD OF 'notarylaw08.SegmentFixed'. -/
def segmentFixedCard : Claim7 := { stood := { row := segmentFixedRow, standIns := [], harness := (true, "b8802985d818bf973d10fe2593d37af651c40be52b1be0db7053c32340a04f23"), looks := true }, kinds := [], alts := [], laidByText := true, laidKinds := [.data, .data, .data, .sentinel, .sentinel], laidTests := true, laidLooks := .later }
def SegmentFixedCardSaid : Prop := Claim7.holds Tryz.pinned (.plain (OpenSpec.ofChange segmentFixedSpec)) segmentFixedCard

/-- THE TIED CARD OF 'notarylaw08.SegmentMemory'. -/
def segmentMemoryCard : Claim7 := { stood := { row := segmentMemoryRow, standIns := [], harness := (true, "b8802985d818bf973d10fe2593d37af651c40be52b1be0db7053c32340a04f23"), looks := true }, kinds := [], alts := [], laidByText := true, laidKinds := [.data, .data, .data, .sentinel, .sentinel], laidTests := true, laidLooks := .later }
def SegmentMemoryCardSaid : Prop := Claim7.holds Tryz.pinned (.plain (OpenSpec.ofChange segmentMemorySpec)) segmentMemoryCard

/-- THE TIED CARD OF 'notarytop.WholeSegment'. -/
def wholeSegmentCard : Claim7 := { stood := { row := wholeSegmentRow, standIns := [], harness := (true, "b8802985d818bf973d10fe2593d37af651c40be52b1be0db7053c32340a04f23"), looks := true }, kinds := [], alts := [], laidByText := true, laidKinds := [.data, .data, .data, .sentinel, .sentinel], laidTests := true, laidLooks := .later }
def WholeSegmentCardSaid : Prop := Claim7.holds Tryz.pinned (.plain (OpenSpec.ofChange wholeSegmentSpec)) wholeSegmentCard

/-- THE SECOND FORM's CARD OF 'notarylaw08.SegmentNames'. -/
def segmentNamesUptoCard : Claim7 := { stood := { row := segmentNamesUptoRow, standIns := [], harness := (true, "b8802985d818bf973d10fe2593d37af651c40be52b1be0db7053c32340a04f23"), looks := true }, kinds := [], alts := [], laidByText := true, laidKinds := [.data, .data, .data, .sentinel, .sentinel], laidTests := true, laidLooks := .later }
def SegmentNamesUptoCardSaid : Prop := Claim7.holds Tryz.pinned (.plain (OpenSpec.upto segmentNamesSpec)) segmentNamesUptoCard

/-- THE SECOND FORM's CARD OF 'notarylaw08.SegmentEncodes'. -/
def segmentEncodesUptoCard : Claim7 := { stood := { row := segmentEncodesUptoRow, standIns := [], harness := (true, "b8802985d818bf973d10fe2593d37af651c40be52b1be0db7053c32340a04f23"), looks := true }, kinds := [], alts := [], laidByText := true, laidKinds := [.data, .data, .data, .sentinel, .sentinel], laidTests := true, laidLooks := .later }
def SegmentEncodesUptoCardSaid : Prop := Claim7.holds Tryz.pinned (.plain (OpenSpec.upto segmentEncodesSpec)) segmentEncodesUptoCard

/-- THE SECOND FORM's CARD OF 'notarylaw08.SegmentReads'. -/
def segmentReadsUptoCard : Claim7 := { stood := { row := segmentReadsUptoRow, standIns := [], harness := (true, "b8802985d818bf973d10fe2593d37af651c40be52b1be0db7053c32340a04f23"), looks := true }, kinds := [], alts := [], laidByText := true, laidKinds := [.data, .data, .data, .sentinel, .sentinel], laidTests := true, laidLooks := .later }
def SegmentReadsUptoCardSaid : Prop := Claim7.holds Tryz.pinned (.plain (OpenSpec.upto segmentReadsSpec)) segmentReadsUptoCard

/-- THE SECOND FORM's CARD OF 'notarylaw08.SegmentThere'. -/
def segmentThereUptoCard : Claim7 := { stood := { row := segmentThereUptoRow, standIns := [], harness := (true, "b8802985d818bf973d10fe2593d37af651c40be52b1be0db7053c32340a04f23"), looks := true }, kinds := [], alts := [], laidByText := true, laidKinds := [.data, .data, .data, .sentinel, .sentinel], laidTests := true, laidLooks := .later }
def SegmentThereUptoCardSaid : Prop := Claim7.holds Tryz.pinned (.plain (OpenSpec.upto segmentThereSpec)) segmentThereUptoCard

/-- THE SECOND FORM's CARD OF 'notarylaw08.SegmentTorn'. -/
def segmentTornUptoCard : Claim7 := { stood := { row := segmentTornUptoRow, standIns := [], harness := (true, "b8802985d818bf973d10fe2593d37af651c40be52b1be0db7053c32340a04f23"), looks := true }, kinds := [], alts := [], laidByText := true, laidKinds := [.data, .data, .data, .sentinel, .sentinel], laidTests := true, laidLooks := .later }
def SegmentTornUptoCardSaid : Prop := Claim7.holds Tryz.pinned (.plain (OpenSpec.upto segmentTornSpec)) segmentTornUptoCard

/-- THE SECOND FORM's CARD OF 'notarylaw08.SegmentGap'. -/
def segmentGapUptoCard : Claim7 := { stood := { row := segmentGapUptoRow, standIns := [], harness := (true, "b8802985d818bf973d10fe2593d37af651c40be52b1be0db7053c32340a04f23"), looks := true }, kinds := [], alts := [], laidByText := true, laidKinds := [.data, .data, .data, .sentinel, .sentinel], laidTests := true, laidLooks := .later }
def SegmentGapUptoCardSaid : Prop := Claim7.holds Tryz.pinned (.plain (OpenSpec.upto segmentGapSpec)) segmentGapUptoCard

/-- THE SECOND FORM's CARD OF 'notarylaw08.SegmentFixed'. -/
def segmentFixedUptoCard : Claim7 := { stood := { row := segmentFixedUptoRow, standIns := [], harness := (true, "b8802985d818bf973d10fe2593d37af651c40be52b1be0db7053c32340a04f23"), looks := true }, kinds := [], alts := [], laidByText := true, laidKinds := [.data, .data, .data, .sentinel, .sentinel], laidTests := true, laidLooks := .later }
def SegmentFixedUptoCardSaid : Prop := Claim7.holds Tryz.pinned (.plain (OpenSpec.upto segmentFixedSpec)) segmentFixedUptoCard

/-- THE SECOND FORM's CARD OF 'notarylaw08.SegmentMemory'. -/
def segmentMemoryUptoCard : Claim7 := { stood := { row := segmentMemoryUptoRow, standIns := [], harness := (true, "b8802985d818bf973d10fe2593d37af651c40be52b1be0db7053c32340a04f23"), looks := true }, kinds := [], alts := [], laidByText := true, laidKinds := [.data, .data, .data, .sentinel, .sentinel], laidTests := true, laidLooks := .later }
def SegmentMemoryUptoCardSaid : Prop := Claim7.holds Tryz.pinned (.plain (OpenSpec.upto segmentMemorySpec)) segmentMemoryUptoCard

/-- THE SECOND FORM's CARD OF 'notarytop.WholeSegment'. -/
def wholeSegmentUptoCard : Claim7 := { stood := { row := wholeSegmentUptoRow, standIns := [], harness := (true, "b8802985d818bf973d10fe2593d37af651c40be52b1be0db7053c32340a04f23"), looks := true }, kinds := [], alts := [], laidByText := true, laidKinds := [.data, .data, .data, .sentinel, .sentinel], laidTests := true, laidLooks := .later }
def WholeSegmentUptoCardSaid : Prop := Claim7.holds Tryz.pinned (.plain (OpenSpec.upto wholeSegmentSpec)) wholeSegmentUptoCard
end Rows
end Go.Proofs.YtpmnnnbkbcpgjaaGreatDoor
