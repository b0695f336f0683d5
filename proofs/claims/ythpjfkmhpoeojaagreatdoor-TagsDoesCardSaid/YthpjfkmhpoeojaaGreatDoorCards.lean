/-
  DERIVED. GIVEN WITH THE SEED: THE CARDS: each row of YthpjfkmhpoeojaaGreatDoorRows.lean that lists a variable, with what it lists TIED to the program's text (the seventh form; the later family's looks); each row that meets fmt, with fmt's text TOLD by the authors' own Lean function (tested against real Go, not proved from fmt's source: count such statements apart). THE CARD IS WHAT COUNTS. Prove the row's statement (the work); the ties are given (YthpjfkmhpoeojaaGreatDoorTie.lean); close each card by the builder's one call (the guide's Derived/Test/ToyasCard.lean, 'card_holds'). Laid BY PROGRAM, IN A SANDBOX (cutbox-door.mjs). By AI agents, Wed Nov 11 2026. No macro, syntax, notation, axiom, sorry.
-/
import Derived.Test.YthpjfkmhpoeojaaGreatDoorRows
import GoSem.ClaimSeven
namespace Go.Proofs.YthpjfkmhpoeojaaGreatDoor
namespace Rows

/-- THE TIED CARD OF 'stirruplaw42.TagsDoes'. -/
def tagsDoesCard : Claim7 := { stood := { row := tagsDoesRow, standIns := [], harness := (true, "d3ff232638dedd68be9a3914dcea3333e17ec44017c4a7610a82661c059e2b2b"), looks := false }, kinds := [], alts := [], laidByText := true, laidKinds := [.data, .data, .data], laidTests := true, laidLooks := .later }
def TagsDoesCardSaid : Prop := Claim7.holds Tryz.pinned (.plain (OpenSpec.ofChange tagsDoesSpec)) tagsDoesCard

/-- THE TIED CARD OF 'stirruplaw42.TagsNone'. -/
def tagsNoneCard : Claim7 := { stood := { row := tagsNoneRow, standIns := [], harness := (true, "d3ff232638dedd68be9a3914dcea3333e17ec44017c4a7610a82661c059e2b2b"), looks := false }, kinds := [], alts := [], laidByText := true, laidKinds := [.data, .data, .data], laidTests := true, laidLooks := .later }
def TagsNoneCardSaid : Prop := Claim7.holds Tryz.pinned (.plain (OpenSpec.ofChange tagsNoneSpec)) tagsNoneCard

/-- THE SECOND FORM's CARD OF 'stirruplaw42.TagsDoes'. -/
def tagsDoesUptoCard : Claim7 := { stood := { row := tagsDoesUptoRow, standIns := [], harness := (true, "d3ff232638dedd68be9a3914dcea3333e17ec44017c4a7610a82661c059e2b2b"), looks := false }, kinds := [], alts := [], laidByText := true, laidKinds := [.data, .data, .data], laidTests := true, laidLooks := .later }
def TagsDoesUptoCardSaid : Prop := Claim7.holds Tryz.pinned (.plain (OpenSpec.upto tagsDoesSpec)) tagsDoesUptoCard

/-- THE SECOND FORM's CARD OF 'stirruplaw42.TagsNone'. -/
def tagsNoneUptoCard : Claim7 := { stood := { row := tagsNoneUptoRow, standIns := [], harness := (true, "d3ff232638dedd68be9a3914dcea3333e17ec44017c4a7610a82661c059e2b2b"), looks := false }, kinds := [], alts := [], laidByText := true, laidKinds := [.data, .data, .data], laidTests := true, laidLooks := .later }
def TagsNoneUptoCardSaid : Prop := Claim7.holds Tryz.pinned (.plain (OpenSpec.upto tagsNoneSpec)) tagsNoneUptoCard
end Rows
end Go.Proofs.YthpjfkmhpoeojaaGreatDoor
