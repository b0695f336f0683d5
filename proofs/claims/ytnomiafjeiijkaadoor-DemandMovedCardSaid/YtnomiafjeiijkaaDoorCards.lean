/-
  DERIVED. GIVEN WITH THE SEED: THE CARDS: each row of YtnomiafjeiijkaaDoorRows.lean that lists a variable, with what it lists TIED to the program's text (the seventh form; the later family's looks); each row that meets fmt, with fmt's text TOLD by the authors' own Lean function (tested against real Go, not proved from fmt's source: count such statements apart). THE CARD IS WHAT COUNTS. Prove the row's statement (the work); the ties are given (YtnomiafjeiijkaaDoorTie.lean); close each card by the builder's one call (the guide's Derived/Test/ToyasCard.lean, 'card_holds'). Laid BY PROGRAM, IN A SANDBOX (cutbox-door.mjs). By AI agents, Wed Nov 11 2026. No macro, syntax, notation, axiom, sorry.
-/
import Derived.Test.YtnomiafjeiijkaaDoorRows
import GoSem.ClaimSeven
namespace Go.Proofs.YtnomiafjeiijkaaDoor
namespace Rows

/-- THE TIED CARD OF 'stirruplaw23.DemandPeaks'. -/
def demandPeaksCard : Claim7 := { stood := { row := demandPeaksRow, standIns := [], harness := (true, "44c5b0455ed4dac35118e9537aff48ec5363b5f91d5086fbcfec36d619d2aa21"), looks := false }, kinds := [], alts := [], laidByText := true, laidKinds := [.data, .data, .data], laidTests := true, laidLooks := .later }
def DemandPeaksCardSaid : Prop := Claim7.holds Tryd.pinned (.plain (OpenSpec.ofChange demandPeaksSpec)) demandPeaksCard

/-- THE TIED CARD OF 'stirruplaw23.DemandMoved'. -/
def demandMovedCard : Claim7 := { stood := { row := demandMovedRow, standIns := [], harness := (true, "44c5b0455ed4dac35118e9537aff48ec5363b5f91d5086fbcfec36d619d2aa21"), looks := false }, kinds := [], alts := [], laidByText := true, laidKinds := [.data, .data, .data], laidTests := true, laidLooks := .later }
def DemandMovedCardSaid : Prop := Claim7.holds Tryd.pinned (.plain (OpenSpec.ofChange demandMovedSpec)) demandMovedCard

/-- THE TIED CARD OF 'stirruplaw23.DemandForms'. -/
def demandFormsCard : Claim7 := { stood := { row := demandFormsRow, standIns := [], harness := (true, "44c5b0455ed4dac35118e9537aff48ec5363b5f91d5086fbcfec36d619d2aa21"), looks := false }, kinds := [], alts := [], laidByText := true, laidKinds := [.data, .data, .data], laidTests := true, laidLooks := .later }
def DemandFormsCardSaid : Prop := Claim7.holds Tryd.pinned (.plain (OpenSpec.ofChange demandFormsSpec)) demandFormsCard

/-- THE TIED CARD OF 'stirruplaw23.DemandHighest'. -/
def demandHighestCard : Claim7 := { stood := { row := demandHighestRow, standIns := [], harness := (true, "44c5b0455ed4dac35118e9537aff48ec5363b5f91d5086fbcfec36d619d2aa21"), looks := false }, kinds := [], alts := [], laidByText := true, laidKinds := [.data, .data, .data], laidTests := true, laidLooks := .later }
def DemandHighestCardSaid : Prop := Claim7.holds Tryd.pinned (.plain (OpenSpec.ofChange demandHighestSpec)) demandHighestCard

/-- THE TIED CARD OF 'stirruplaw23.DemandLines'. -/
def demandLinesCard : Claim7 := { stood := { row := demandLinesRow, standIns := [], harness := (true, "44c5b0455ed4dac35118e9537aff48ec5363b5f91d5086fbcfec36d619d2aa21"), looks := false }, kinds := [], alts := [], laidByText := true, laidKinds := [.data, .data, .data, .data, .pinned], laidTests := true, laidLooks := .later }
def DemandLinesCardSaid : Prop := Claim7.holds Tryd.pinned (.plain (OpenSpec.ofChange demandLinesSpec)) demandLinesCard

/-- THE TIED CARD OF 'stirruplaw23.DemandEnvelopes'. -/
def demandEnvelopesCard : Claim7 := { stood := { row := demandEnvelopesRow, standIns := [], harness := (true, "44c5b0455ed4dac35118e9537aff48ec5363b5f91d5086fbcfec36d619d2aa21"), looks := false }, kinds := [], alts := [], laidByText := true, laidKinds := [.data, .data, .data], laidTests := true, laidLooks := .later }
def DemandEnvelopesCardSaid : Prop := Claim7.holds Tryd.pinned (.plain (OpenSpec.ofChange demandEnvelopesSpec)) demandEnvelopesCard

/-- THE TIED CARD OF 'stirruplaw23.DemandCovers'. -/
def demandCoversCard : Claim7 := { stood := { row := demandCoversRow, standIns := [], harness := (true, "44c5b0455ed4dac35118e9537aff48ec5363b5f91d5086fbcfec36d619d2aa21"), looks := false }, kinds := [], alts := [], laidByText := true, laidKinds := [.data, .data, .data], laidTests := true, laidLooks := .later }
def DemandCoversCardSaid : Prop := Claim7.holds Tryd.pinned (.plain (OpenSpec.ofChange demandCoversSpec)) demandCoversCard

/-- THE SECOND FORM's CARD OF 'stirruplaw23.DemandPeaks'. -/
def demandPeaksUptoCard : Claim7 := { stood := { row := demandPeaksUptoRow, standIns := [], harness := (true, "44c5b0455ed4dac35118e9537aff48ec5363b5f91d5086fbcfec36d619d2aa21"), looks := false }, kinds := [], alts := [], laidByText := true, laidKinds := [.data, .data, .data], laidTests := true, laidLooks := .later }
def DemandPeaksUptoCardSaid : Prop := Claim7.holds Tryd.pinned (.plain (OpenSpec.upto demandPeaksSpec)) demandPeaksUptoCard

/-- THE SECOND FORM's CARD OF 'stirruplaw23.DemandMoved'. -/
def demandMovedUptoCard : Claim7 := { stood := { row := demandMovedUptoRow, standIns := [], harness := (true, "44c5b0455ed4dac35118e9537aff48ec5363b5f91d5086fbcfec36d619d2aa21"), looks := false }, kinds := [], alts := [], laidByText := true, laidKinds := [.data, .data, .data], laidTests := true, laidLooks := .later }
def DemandMovedUptoCardSaid : Prop := Claim7.holds Tryd.pinned (.plain (OpenSpec.upto demandMovedSpec)) demandMovedUptoCard

/-- THE SECOND FORM's CARD OF 'stirruplaw23.DemandForms'. -/
def demandFormsUptoCard : Claim7 := { stood := { row := demandFormsUptoRow, standIns := [], harness := (true, "44c5b0455ed4dac35118e9537aff48ec5363b5f91d5086fbcfec36d619d2aa21"), looks := false }, kinds := [], alts := [], laidByText := true, laidKinds := [.data, .data, .data], laidTests := true, laidLooks := .later }
def DemandFormsUptoCardSaid : Prop := Claim7.holds Tryd.pinned (.plain (OpenSpec.upto demandFormsSpec)) demandFormsUptoCard

/-- THE SECOND FORM's CARD OF 'stirruplaw23.DemandHighest'. -/
def demandHighestUptoCard : Claim7 := { stood := { row := demandHighestUptoRow, standIns := [], harness := (true, "44c5b0455ed4dac35118e9537aff48ec5363b5f91d5086fbcfec36d619d2aa21"), looks := false }, kinds := [], alts := [], laidByText := true, laidKinds := [.data, .data, .data], laidTests := true, laidLooks := .later }
def DemandHighestUptoCardSaid : Prop := Claim7.holds Tryd.pinned (.plain (OpenSpec.upto demandHighestSpec)) demandHighestUptoCard

/-- THE SECOND FORM's CARD OF 'stirruplaw23.DemandLines'. -/
def demandLinesUptoCard : Claim7 := { stood := { row := demandLinesUptoRow, standIns := [], harness := (true, "44c5b0455ed4dac35118e9537aff48ec5363b5f91d5086fbcfec36d619d2aa21"), looks := false }, kinds := [], alts := [], laidByText := true, laidKinds := [.data, .data, .data, .data, .pinned], laidTests := true, laidLooks := .later }
def DemandLinesUptoCardSaid : Prop := Claim7.holds Tryd.pinned (.plain (OpenSpec.upto demandLinesSpec)) demandLinesUptoCard

/-- THE SECOND FORM's CARD OF 'stirruplaw23.DemandEnvelopes'. -/
def demandEnvelopesUptoCard : Claim7 := { stood := { row := demandEnvelopesUptoRow, standIns := [], harness := (true, "44c5b0455ed4dac35118e9537aff48ec5363b5f91d5086fbcfec36d619d2aa21"), looks := false }, kinds := [], alts := [], laidByText := true, laidKinds := [.data, .data, .data], laidTests := true, laidLooks := .later }
def DemandEnvelopesUptoCardSaid : Prop := Claim7.holds Tryd.pinned (.plain (OpenSpec.upto demandEnvelopesSpec)) demandEnvelopesUptoCard

/-- THE SECOND FORM's CARD OF 'stirruplaw23.DemandCovers'. -/
def demandCoversUptoCard : Claim7 := { stood := { row := demandCoversUptoRow, standIns := [], harness := (true, "44c5b0455ed4dac35118e9537aff48ec5363b5f91d5086fbcfec36d619d2aa21"), looks := false }, kinds := [], alts := [], laidByText := true, laidKinds := [.data, .data, .data], laidTests := true, laidLooks := .later }
def DemandCoversUptoCardSaid : Prop := Claim7.holds Tryd.pinned (.plain (OpenSpec.upto demandCoversSpec)) demandCoversUptoCard
end Rows
end Go.Proofs.YtnomiafjeiijkaaDoor
