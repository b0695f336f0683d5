/-
  DERIVED. GIVEN WITH THE SEED: THE CARDS: each row of YtnbjmckhongidaaGreatDoorRows.lean that lists a variable, with what it lists TIED to the program's text (the seventh form; the later family's looks); each row that meets fmt, with fmt's text TOLD by the authors' own Lean function (tested against real Go, not proved from fmt's source: count such statements apart). THE CARD IS WHAT COUNTS. Prove the row's statement (the work); the ties are given (YtnbjmckhongidaaGreatDoorTie.lean); close each card by the builder's one call (the guide's Derived/Test/ToyasCard.lean, 'card_holds'). Laid BY PROGRAM, IN A SANDBOX (cutbox-door.mjs). By AI agents, Wed Nov 11 2026. No macro, syntax, notation, axiom, sorry.
-/
import Derived.Test.YtnbjmckhongidaaGreatDoorRows
import GoSem.ClaimSeven
namespace Go.Proofs.YtnbjmckhongidaaGreatDoor
namespace Rows

/-- THE TIED CARD OF 'stirruplaw36.BundleTexts'. -/
def bundleTextsCard : Claim7 := { stood := { row := bundleTextsRow, standIns := [], harness := (true, "08f127db9b5de807a19e17233332c931b7033930740217c236365a9b7da94950"), looks := true }, kinds := [], alts := [], laidByText := true, laidKinds := [.data, .data, .data, .data, .sentinel, .sentinel, .pinned], laidTests := true, laidLooks := .later }
def BundleTextsCardSaid : Prop := Claim7.holds Tryz.pinned (.plain (OpenSpec.ofChange bundleTextsSpec)) bundleTextsCard

/-- THE SECOND FORM's CARD OF 'stirruplaw36.BundleTexts'. -/
def bundleTextsUptoCard : Claim7 := { stood := { row := bundleTextsUptoRow, standIns := [], harness := (true, "08f127db9b5de807a19e17233332c931b7033930740217c236365a9b7da94950"), looks := true }, kinds := [], alts := [], laidByText := true, laidKinds := [.data, .data, .data, .data, .sentinel, .sentinel, .pinned], laidTests := true, laidLooks := .later }
def BundleTextsUptoCardSaid : Prop := Claim7.holds Tryz.pinned (.plain (OpenSpec.upto bundleTextsSpec)) bundleTextsUptoCard
end Rows
end Go.Proofs.YtnbjmckhongidaaGreatDoor
