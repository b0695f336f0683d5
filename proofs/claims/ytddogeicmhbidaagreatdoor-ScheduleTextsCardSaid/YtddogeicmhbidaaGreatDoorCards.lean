/-
  DERIVED. GIVEN WITH THE SEED: THE CARDS: each row of YtddogeicmhbidaaGreatDoorRows.lean that lists a variable, with what it lists TIED to the program's text (the seventh form; the later family's looks); each row that meets fmt, with fmt's text TOLD by the authors' own Lean function (tested against real Go, not proved from fmt's source: count such statements apart). THE CARD IS WHAT COUNTS. Prove the row's statement (the work); the ties are given (YtddogeicmhbidaaGreatDoorTie.lean); close each card by the builder's one call (the guide's Derived/Test/ToyasCard.lean, 'card_holds'). Laid BY PROGRAM, IN A SANDBOX (cutbox-door.mjs). By AI agents, Wed Nov 11 2026. No macro, syntax, notation, axiom, sorry.
-/
import Derived.Test.YtddogeicmhbidaaGreatDoorRows
import GoSem.ClaimSeven
namespace Go.Proofs.YtddogeicmhbidaaGreatDoor
namespace Rows

/-- THE TIED CARD OF 'stirruplaw14.SchedulePieces'. -/
def schedulePiecesCard : Claim7 := { stood := { row := schedulePiecesRow, standIns := [], harness := (true, "6e1c8993f9b0800f5d342fd3b9f5f1269c39c4e1bd6443fcda9529e5ad43b53b"), looks := true }, kinds := [], alts := [], laidByText := true, laidKinds := [.data, .data, .data], laidTests := true, laidLooks := .later }
def SchedulePiecesCardSaid : Prop := Claim7.holds Tryz.pinned (.plain (OpenSpec.ofChange schedulePiecesSpec)) schedulePiecesCard

/-- THE TIED CARD OF 'stirruplaw14.ScheduleTexts'. -/
def scheduleTextsCard : Claim7 := { stood := { row := scheduleTextsRow, standIns := [], harness := (true, "6e1c8993f9b0800f5d342fd3b9f5f1269c39c4e1bd6443fcda9529e5ad43b53b"), looks := true }, kinds := [], alts := [], laidByText := true, laidKinds := [.data, .data, .data, .data, .sentinel, .sentinel, .pinned], laidTests := true, laidLooks := .later }
def ScheduleTextsCardSaid : Prop := Claim7.holds Tryz.pinned (.plain (OpenSpec.ofChange scheduleTextsSpec)) scheduleTextsCard

/-- THE TIED CARD OF 'stirruplaw14.ScheduleBack'. -/
def scheduleBackCard : Claim7 := { stood := { row := scheduleBackRow, standIns := [], harness := (true, "6e1c8993f9b0800f5d342fd3b9f5f1269c39c4e1bd6443fcda9529e5ad43b53b"), looks := true }, kinds := [], alts := [], laidByText := true, laidKinds := [.data, .data, .data, .data, .sentinel, .sentinel, .pinned], laidTests := true, laidLooks := .later }
def ScheduleBackCardSaid : Prop := Claim7.holds Tryz.pinned (.plain (OpenSpec.ofChange scheduleBackSpec)) scheduleBackCard

/-- THE SECOND FORM's CARD OF 'stirruplaw14.SchedulePieces'. -/
def schedulePiecesUptoCard : Claim7 := { stood := { row := schedulePiecesUptoRow, standIns := [], harness := (true, "6e1c8993f9b0800f5d342fd3b9f5f1269c39c4e1bd6443fcda9529e5ad43b53b"), looks := true }, kinds := [], alts := [], laidByText := true, laidKinds := [.data, .data, .data], laidTests := true, laidLooks := .later }
def SchedulePiecesUptoCardSaid : Prop := Claim7.holds Tryz.pinned (.plain (OpenSpec.upto schedulePiecesSpec)) schedulePiecesUptoCard

/-- THE SECOND FORM's CARD OF 'stirruplaw14.ScheduleTexts'. -/
def scheduleTextsUptoCard : Claim7 := { stood := { row := scheduleTextsUptoRow, standIns := [], harness := (true, "6e1c8993f9b0800f5d342fd3b9f5f1269c39c4e1bd6443fcda9529e5ad43b53b"), looks := true }, kinds := [], alts := [], laidByText := true, laidKinds := [.data, .data, .data, .data, .sentinel, .sentinel, .pinned], laidTests := true, laidLooks := .later }
def ScheduleTextsUptoCardSaid : Prop := Claim7.holds Tryz.pinned (.plain (OpenSpec.upto scheduleTextsSpec)) scheduleTextsUptoCard

/-- THE SECOND FORM's CARD OF 'stirruplaw14.ScheduleBack'. -/
def scheduleBackUptoCard : Claim7 := { stood := { row := scheduleBackUptoRow, standIns := [], harness := (true, "6e1c8993f9b0800f5d342fd3b9f5f1269c39c4e1bd6443fcda9529e5ad43b53b"), looks := true }, kinds := [], alts := [], laidByText := true, laidKinds := [.data, .data, .data, .data, .sentinel, .sentinel, .pinned], laidTests := true, laidLooks := .later }
def ScheduleBackUptoCardSaid : Prop := Claim7.holds Tryz.pinned (.plain (OpenSpec.upto scheduleBackSpec)) scheduleBackUptoCard
end Rows
end Go.Proofs.YtddogeicmhbidaaGreatDoor
