/-
  DERIVED. GIVEN WITH THE SEED: THE CARDS: each row of YtdegjlhcchimbaaDoorRows.lean that lists a variable, with what it lists TIED to the program's text (the seventh form; the later family's looks); each row that meets fmt, with fmt's text TOLD by the authors' own Lean function (tested against real Go, not proved from fmt's source: count such statements apart). THE CARD IS WHAT COUNTS. Prove the row's statement (the work); the ties are given (YtdegjlhcchimbaaDoorTie.lean); close each card by the builder's one call (the guide's Derived/Test/ToyasCard.lean, 'card_holds'). Laid BY PROGRAM, IN A SANDBOX (cutbox-door.mjs). By AI agents, Wed Nov 11 2026. No macro, syntax, notation, axiom, sorry.
-/
import Derived.Test.YtdegjlhcchimbaaDoorRows
import GoSem.ClaimSeven
namespace Go.Proofs.YtdegjlhcchimbaaDoor
namespace Rows

/-- THE TIED CARD OF 'stirruplaw23.DemandEnvelopes'. -/
def demandEnvelopesCard : Claim7 := { stood := { row := demandEnvelopesRow, standIns := [], harness := (true, "3432f3ca97bb7bacae683eb48b0b6eb919c89edb814666ddf6842b160dcb6647"), looks := false }, kinds := [], alts := [], laidByText := true, laidKinds := [.data, .data, .data], laidTests := true, laidLooks := .later }
def DemandEnvelopesCardSaid : Prop := Claim7.holds Tryd.pinned (.plain (OpenSpec.ofChange demandEnvelopesSpec)) demandEnvelopesCard

/-- THE TIED CARD OF 'stirruplaw23.DemandCovers'. -/
def demandCoversCard : Claim7 := { stood := { row := demandCoversRow, standIns := [], harness := (true, "3432f3ca97bb7bacae683eb48b0b6eb919c89edb814666ddf6842b160dcb6647"), looks := false }, kinds := [], alts := [], laidByText := true, laidKinds := [.data, .data, .data], laidTests := true, laidLooks := .later }
def DemandCoversCardSaid : Prop := Claim7.holds Tryd.pinned (.plain (OpenSpec.ofChange demandCoversSpec)) demandCoversCard

/-- THE SECOND FORM's CARD OF 'stirruplaw23.DemandEnvelopes'. -/
def demandEnvelopesUptoCard : Claim7 := { stood := { row := demandEnvelopesUptoRow, standIns := [], harness := (true, "3432f3ca97bb7bacae683eb48b0b6eb919c89edb814666ddf6842b160dcb6647"), looks := false }, kinds := [], alts := [], laidByText := true, laidKinds := [.data, .data, .data], laidTests := true, laidLooks := .later }
def DemandEnvelopesUptoCardSaid : Prop := Claim7.holds Tryd.pinned (.plain (OpenSpec.upto demandEnvelopesSpec)) demandEnvelopesUptoCard

/-- THE SECOND FORM's CARD OF 'stirruplaw23.DemandCovers'. -/
def demandCoversUptoCard : Claim7 := { stood := { row := demandCoversUptoRow, standIns := [], harness := (true, "3432f3ca97bb7bacae683eb48b0b6eb919c89edb814666ddf6842b160dcb6647"), looks := false }, kinds := [], alts := [], laidByText := true, laidKinds := [.data, .data, .data], laidTests := true, laidLooks := .later }
def DemandCoversUptoCardSaid : Prop := Claim7.holds Tryd.pinned (.plain (OpenSpec.upto demandCoversSpec)) demandCoversUptoCard
end Rows
end Go.Proofs.YtdegjlhcchimbaaDoor
