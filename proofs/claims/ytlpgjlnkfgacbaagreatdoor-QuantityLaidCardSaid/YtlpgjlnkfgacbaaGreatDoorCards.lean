/-
  DERIVED. GIVEN WITH THE SEED: THE CARDS: each row of YtlpgjlnkfgacbaaGreatDoorRows.lean that lists a variable, with what it lists TIED to the program's text (the seventh form; the later family's looks); each row that meets fmt, with fmt's text TOLD by the authors' own Lean function (tested against real Go, not proved from fmt's source: count such statements apart). THE CARD IS WHAT COUNTS. Prove the row's statement (the work); the ties are given (YtlpgjlnkfgacbaaGreatDoorTie.lean); close each card by the builder's one call (the guide's Derived/Test/ToyasCard.lean, 'card_holds'). Laid BY PROGRAM, IN A SANDBOX (cutbox-door.mjs). By AI agents, Wed Nov 11 2026. No macro, syntax, notation, axiom, sorry.
-/
import Derived.Test.YtlpgjlnkfgacbaaGreatDoorRows
import GoSem.ClaimSeven
namespace Go.Proofs.YtlpgjlnkfgacbaaGreatDoor
namespace Rows

/-- THE TIED CARD OF 'stirruplaw48.QuantitySame'. -/
def quantitySameCard : Claim7 := { stood := { row := quantitySameRow, standIns := [], harness := (true, "e0ebccd4d0862dbb75f3bb9dd545e6dc682760cd1ec98d00ea6c033a156bab2f"), looks := false }, kinds := [], alts := [], laidByText := true, laidKinds := [.data, .data, .data], laidTests := true, laidLooks := .later }
def QuantitySameCardSaid : Prop := Claim7.holds Tryz.pinned (.plain (OpenSpec.ofChange quantitySameSpec)) quantitySameCard

/-- THE TIED CARD OF 'stirruplaw48.QuantityLaid'. -/
def quantityLaidCard : Claim7 := { stood := { row := quantityLaidRow, standIns := [], harness := (true, "e0ebccd4d0862dbb75f3bb9dd545e6dc682760cd1ec98d00ea6c033a156bab2f"), looks := false }, kinds := [], alts := [], laidByText := true, laidKinds := [.data, .data, .data], laidTests := true, laidLooks := .later }
def QuantityLaidCardSaid : Prop := Claim7.holds Tryz.pinned (.plain (OpenSpec.ofChange quantityLaidSpec)) quantityLaidCard

/-- THE SECOND FORM's CARD OF 'stirruplaw48.QuantitySame'. -/
def quantitySameUptoCard : Claim7 := { stood := { row := quantitySameUptoRow, standIns := [], harness := (true, "e0ebccd4d0862dbb75f3bb9dd545e6dc682760cd1ec98d00ea6c033a156bab2f"), looks := false }, kinds := [], alts := [], laidByText := true, laidKinds := [.data, .data, .data], laidTests := true, laidLooks := .later }
def QuantitySameUptoCardSaid : Prop := Claim7.holds Tryz.pinned (.plain (OpenSpec.upto quantitySameSpec)) quantitySameUptoCard

/-- THE SECOND FORM's CARD OF 'stirruplaw48.QuantityLaid'. -/
def quantityLaidUptoCard : Claim7 := { stood := { row := quantityLaidUptoRow, standIns := [], harness := (true, "e0ebccd4d0862dbb75f3bb9dd545e6dc682760cd1ec98d00ea6c033a156bab2f"), looks := false }, kinds := [], alts := [], laidByText := true, laidKinds := [.data, .data, .data], laidTests := true, laidLooks := .later }
def QuantityLaidUptoCardSaid : Prop := Claim7.holds Tryz.pinned (.plain (OpenSpec.upto quantityLaidSpec)) quantityLaidUptoCard
end Rows
end Go.Proofs.YtlpgjlnkfgacbaaGreatDoor
