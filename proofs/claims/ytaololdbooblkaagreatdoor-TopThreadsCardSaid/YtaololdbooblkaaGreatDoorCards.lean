/-
  DERIVED. GIVEN WITH THE SEED: THE CARDS: each row of YtaololdbooblkaaGreatDoorRows.lean that lists a variable, with what it lists TIED to the program's text (the seventh form; the later family's looks); each row that meets fmt, with fmt's text TOLD by the authors' own Lean function (tested against real Go, not proved from fmt's source: count such statements apart). THE CARD IS WHAT COUNTS. Prove the row's statement (the work); the ties are given (YtaololdbooblkaaGreatDoorTie.lean); close each card by the builder's one call (the guide's Derived/Test/ToyasCard.lean, 'card_holds'). Laid BY PROGRAM, IN A SANDBOX (cutbox-door.mjs). By AI agents, Wed Nov 11 2026. No macro, syntax, notation, axiom, sorry.
-/
import Derived.Test.YtaololdbooblkaaGreatDoorRows
import GoSem.ClaimSeven
namespace Go.Proofs.YtaololdbooblkaaGreatDoor
namespace Rows

/-- THE TIED CARD OF 'stirruptop.TopThreads'. -/
def topThreadsCard : Claim7 := { stood := { row := topThreadsRow, standIns := [], harness := (true, "8d2e836cd85ae474d6f3205636518d0362701c3c25e5ab30ace773b9020b3473"), looks := true }, kinds := [], alts := [], laidByText := true, laidKinds := [.data, .data, .data, .data, .sentinel, .sentinel, .pinned], laidTests := true, laidLooks := .later }
def TopThreadsCardSaid : Prop := Claim7.holds Tryz.pinned (.plain (OpenSpec.ofChange topThreadsSpec)) topThreadsCard

/-- THE TIED CARD OF 'stirruptop.TopSections'. -/
def topSectionsCard : Claim7 := { stood := { row := topSectionsRow, standIns := [], harness := (true, "8d2e836cd85ae474d6f3205636518d0362701c3c25e5ab30ace773b9020b3473"), looks := true }, kinds := [], alts := [], laidByText := true, laidKinds := [.data, .data, .data, .data, .sentinel, .sentinel, .pinned], laidTests := true, laidLooks := .later }
def TopSectionsCardSaid : Prop := Claim7.holds Tryz.pinned (.plain (OpenSpec.ofChange topSectionsSpec)) topSectionsCard

/-- THE TIED CARD OF 'stirruptop.TopWritten'. -/
def topWrittenCard : Claim7 := { stood := { row := topWrittenRow, standIns := [], harness := (true, "8d2e836cd85ae474d6f3205636518d0362701c3c25e5ab30ace773b9020b3473"), looks := true }, kinds := [], alts := [], laidByText := true, laidKinds := [.data, .data, .data, .data, .sentinel, .sentinel, .pinned], laidTests := true, laidLooks := .later }
def TopWrittenCardSaid : Prop := Claim7.holds Tryz.pinned (.plain (OpenSpec.ofChange topWrittenSpec)) topWrittenCard

/-- THE SECOND FORM's CARD OF 'stirruptop.TopThreads'. -/
def topThreadsUptoCard : Claim7 := { stood := { row := topThreadsUptoRow, standIns := [], harness := (true, "8d2e836cd85ae474d6f3205636518d0362701c3c25e5ab30ace773b9020b3473"), looks := true }, kinds := [], alts := [], laidByText := true, laidKinds := [.data, .data, .data, .data, .sentinel, .sentinel, .pinned], laidTests := true, laidLooks := .later }
def TopThreadsUptoCardSaid : Prop := Claim7.holds Tryz.pinned (.plain (OpenSpec.upto topThreadsSpec)) topThreadsUptoCard

/-- THE SECOND FORM's CARD OF 'stirruptop.TopSections'. -/
def topSectionsUptoCard : Claim7 := { stood := { row := topSectionsUptoRow, standIns := [], harness := (true, "8d2e836cd85ae474d6f3205636518d0362701c3c25e5ab30ace773b9020b3473"), looks := true }, kinds := [], alts := [], laidByText := true, laidKinds := [.data, .data, .data, .data, .sentinel, .sentinel, .pinned], laidTests := true, laidLooks := .later }
def TopSectionsUptoCardSaid : Prop := Claim7.holds Tryz.pinned (.plain (OpenSpec.upto topSectionsSpec)) topSectionsUptoCard

/-- THE SECOND FORM's CARD OF 'stirruptop.TopWritten'. -/
def topWrittenUptoCard : Claim7 := { stood := { row := topWrittenUptoRow, standIns := [], harness := (true, "8d2e836cd85ae474d6f3205636518d0362701c3c25e5ab30ace773b9020b3473"), looks := true }, kinds := [], alts := [], laidByText := true, laidKinds := [.data, .data, .data, .data, .sentinel, .sentinel, .pinned], laidTests := true, laidLooks := .later }
def TopWrittenUptoCardSaid : Prop := Claim7.holds Tryz.pinned (.plain (OpenSpec.upto topWrittenSpec)) topWrittenUptoCard
end Rows
end Go.Proofs.YtaololdbooblkaaGreatDoor
