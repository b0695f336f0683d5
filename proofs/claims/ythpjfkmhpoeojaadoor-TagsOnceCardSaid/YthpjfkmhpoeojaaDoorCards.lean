/-
  DERIVED. GIVEN WITH THE SEED: THE CARDS: each row of YthpjfkmhpoeojaaDoorRows.lean that lists a variable, with what it lists TIED to the program's text (the seventh form; the later family's looks); each row that meets fmt, with fmt's text TOLD by the authors' own Lean function (tested against real Go, not proved from fmt's source: count such statements apart). THE CARD IS WHAT COUNTS. Prove the row's statement (the work); the ties are given (YthpjfkmhpoeojaaDoorTie.lean); close each card by the builder's one call (the guide's Derived/Test/ToyasCard.lean, 'card_holds'). Laid BY PROGRAM, IN A SANDBOX (cutbox-door.mjs). By AI agents, Wed Nov 11 2026. No macro, syntax, notation, axiom, sorry.
-/
import Derived.Test.YthpjfkmhpoeojaaDoorRows
import GoSem.ClaimSeven
namespace Go.Proofs.YthpjfkmhpoeojaaDoor
namespace Rows

/-- THE TIED CARD OF 'stirruplaw42.TagsKept'. -/
def tagsKeptCard : Claim7 := { stood := { row := tagsKeptRow, standIns := [], harness := (true, "7fdf411432141b96e444669b2c83061affefca99ce273a09c97f221e4fd1fa4c"), looks := false }, kinds := [], alts := [], laidByText := true, laidKinds := [.data, .data, .data], laidTests := true, laidLooks := .later }
def TagsKeptCardSaid : Prop := Claim7.holds Tryd.pinned (.plain (OpenSpec.ofChange tagsKeptSpec)) tagsKeptCard

/-- THE TIED CARD OF 'stirruplaw42.TagsChecked'. -/
def tagsCheckedCard : Claim7 := { stood := { row := tagsCheckedRow, standIns := [], harness := (true, "7fdf411432141b96e444669b2c83061affefca99ce273a09c97f221e4fd1fa4c"), looks := false }, kinds := [], alts := [], laidByText := true, laidKinds := [.data, .data, .data], laidTests := true, laidLooks := .later }
def TagsCheckedCardSaid : Prop := Claim7.holds Tryd.pinned (.plain (OpenSpec.ofChange tagsCheckedSpec)) tagsCheckedCard

/-- THE TIED CARD OF 'stirruplaw42.TagsOnce'. -/
def tagsOnceCard : Claim7 := { stood := { row := tagsOnceRow, standIns := [], harness := (true, "7fdf411432141b96e444669b2c83061affefca99ce273a09c97f221e4fd1fa4c"), looks := false }, kinds := [], alts := [], laidByText := true, laidKinds := [.data, .data, .data], laidTests := true, laidLooks := .later }
def TagsOnceCardSaid : Prop := Claim7.holds Tryd.pinned (.plain (OpenSpec.ofChange tagsOnceSpec)) tagsOnceCard

/-- THE SECOND FORM's CARD OF 'stirruplaw42.TagsKept'. -/
def tagsKeptUptoCard : Claim7 := { stood := { row := tagsKeptUptoRow, standIns := [], harness := (true, "7fdf411432141b96e444669b2c83061affefca99ce273a09c97f221e4fd1fa4c"), looks := false }, kinds := [], alts := [], laidByText := true, laidKinds := [.data, .data, .data], laidTests := true, laidLooks := .later }
def TagsKeptUptoCardSaid : Prop := Claim7.holds Tryd.pinned (.plain (OpenSpec.upto tagsKeptSpec)) tagsKeptUptoCard

/-- THE SECOND FORM's CARD OF 'stirruplaw42.TagsChecked'. -/
def tagsCheckedUptoCard : Claim7 := { stood := { row := tagsCheckedUptoRow, standIns := [], harness := (true, "7fdf411432141b96e444669b2c83061affefca99ce273a09c97f221e4fd1fa4c"), looks := false }, kinds := [], alts := [], laidByText := true, laidKinds := [.data, .data, .data], laidTests := true, laidLooks := .later }
def TagsCheckedUptoCardSaid : Prop := Claim7.holds Tryd.pinned (.plain (OpenSpec.upto tagsCheckedSpec)) tagsCheckedUptoCard

/-- THE SECOND FORM's CARD OF 'stirruplaw42.TagsOnce'. -/
def tagsOnceUptoCard : Claim7 := { stood := { row := tagsOnceUptoRow, standIns := [], harness := (true, "7fdf411432141b96e444669b2c83061affefca99ce273a09c97f221e4fd1fa4c"), looks := false }, kinds := [], alts := [], laidByText := true, laidKinds := [.data, .data, .data], laidTests := true, laidLooks := .later }
def TagsOnceUptoCardSaid : Prop := Claim7.holds Tryd.pinned (.plain (OpenSpec.upto tagsOnceSpec)) tagsOnceUptoCard
end Rows
end Go.Proofs.YthpjfkmhpoeojaaDoor
