/-
  DERIVED. GIVEN WITH THE SEED: THE CARDS: each row of YthiockdlhehhoaaDoorRows.lean that lists a variable, with what it lists TIED to the program's text (the seventh form; the later family's looks); each row that meets fmt, with fmt's text TOLD by the authors' own Lean function (tested against real Go, not proved from fmt's source: count such statements apart). THE CARD IS WHAT COUNTS. Prove the row's statement (the work); the ties are given (YthiockdlhehhoaaDoorTie.lean); close each card by the builder's one call (the guide's Derived/Test/ToyasCard.lean, 'card_holds'). Laid BY PROGRAM, IN A SANDBOX (cutbox-door.mjs). By AI agents, Wed Nov 11 2026. No macro, syntax, notation, axiom, sorry.
-/
import Derived.Test.YthiockdlhehhoaaDoorRows
import GoSem.ClaimSeven
namespace Go.Proofs.YthiockdlhehhoaaDoor
namespace Rows

/-- THE TIED CARD OF 'stirruplaw23.DemandCovers'. -/
def demandCoversCard : Claim7 := { stood := { row := demandCoversRow, standIns := [], harness := (true, "cd9734b54c0789ba845175fd4ff7167eb3b42a906401812b385b2d413fee159a"), looks := false }, kinds := [], alts := [], laidByText := true, laidKinds := [.data, .data, .data], laidTests := true, laidLooks := .later }
def DemandCoversCardSaid : Prop := Claim7.holds Tryd.pinned (.plain (OpenSpec.ofChange demandCoversSpec)) demandCoversCard

/-- THE SECOND FORM's CARD OF 'stirruplaw23.DemandCovers'. -/
def demandCoversUptoCard : Claim7 := { stood := { row := demandCoversUptoRow, standIns := [], harness := (true, "cd9734b54c0789ba845175fd4ff7167eb3b42a906401812b385b2d413fee159a"), looks := false }, kinds := [], alts := [], laidByText := true, laidKinds := [.data, .data, .data], laidTests := true, laidLooks := .later }
def DemandCoversUptoCardSaid : Prop := Claim7.holds Tryd.pinned (.plain (OpenSpec.upto demandCoversSpec)) demandCoversUptoCard
end Rows
end Go.Proofs.YthiockdlhehhoaaDoor
