/-
  DERIVED. GIVEN WITH THE SEED: THE CARDS: each row of YtccddakkegelkaaGreatDoorRows.lean that lists a variable, with what it lists TIED to the program's text (the seventh form; the later family's looks); each row that meets fmt, with fmt's text TOLD by the authors' own Lean function (tested against real Go, not proved from fmt's source: count such statements apart). THE CARD IS WHAT COUNTS. Prove the row's statement (the work); the ties are given (YtccddakkegelkaaGreatDoorTie.lean); close each card by the builder's one call (the guide's Derived/Test/ToyasCard.lean, 'card_holds'). Laid BY PROGRAM, IN A SANDBOX (cutbox-door.mjs). By AI agents, Wed Nov 11 2026. No macro, syntax, notation, axiom, sorry.
-/
import Derived.Test.YtccddakkegelkaaGreatDoorRows
import GoSem.ClaimSeven
namespace Go.Proofs.YtccddakkegelkaaGreatDoor
namespace Rows

/-- THE TIED CARD OF 'stirruplaw41.ReviseReaches'. -/
def reviseReachesCard : Claim7 := { stood := { row := reviseReachesRow, standIns := [], harness := (true, "42287a4df8a9373d14a918b13375ac4c2c60e6f98ee162f799c4f07c14a8e371"), looks := false }, kinds := [], alts := [], laidByText := true, laidKinds := [.data, .data, .data, .data, .pinned], laidTests := true, laidLooks := .later }
def ReviseReachesCardSaid : Prop := Claim7.holds Tryz.pinned (.plain (OpenSpec.ofChange reviseReachesSpec)) reviseReachesCard

/-- THE TIED CARD OF 'stirruplaw41.ReviseThrough'. -/
def reviseThroughCard : Claim7 := { stood := { row := reviseThroughRow, standIns := [], harness := (true, "42287a4df8a9373d14a918b13375ac4c2c60e6f98ee162f799c4f07c14a8e371"), looks := false }, kinds := [], alts := [], laidByText := true, laidKinds := [.data, .data, .data, .data, .pinned], laidTests := true, laidLooks := .later }
def ReviseThroughCardSaid : Prop := Claim7.holds Tryz.pinned (.plain (OpenSpec.ofChange reviseThroughSpec)) reviseThroughCard

/-- THE SECOND FORM's CARD OF 'stirruplaw41.ReviseReaches'. -/
def reviseReachesUptoCard : Claim7 := { stood := { row := reviseReachesUptoRow, standIns := [], harness := (true, "42287a4df8a9373d14a918b13375ac4c2c60e6f98ee162f799c4f07c14a8e371"), looks := false }, kinds := [], alts := [], laidByText := true, laidKinds := [.data, .data, .data, .data, .pinned], laidTests := true, laidLooks := .later }
def ReviseReachesUptoCardSaid : Prop := Claim7.holds Tryz.pinned (.plain (OpenSpec.upto reviseReachesSpec)) reviseReachesUptoCard

/-- THE SECOND FORM's CARD OF 'stirruplaw41.ReviseThrough'. -/
def reviseThroughUptoCard : Claim7 := { stood := { row := reviseThroughUptoRow, standIns := [], harness := (true, "42287a4df8a9373d14a918b13375ac4c2c60e6f98ee162f799c4f07c14a8e371"), looks := false }, kinds := [], alts := [], laidByText := true, laidKinds := [.data, .data, .data, .data, .pinned], laidTests := true, laidLooks := .later }
def ReviseThroughUptoCardSaid : Prop := Claim7.holds Tryz.pinned (.plain (OpenSpec.upto reviseThroughSpec)) reviseThroughUptoCard
end Rows
end Go.Proofs.YtccddakkegelkaaGreatDoor
