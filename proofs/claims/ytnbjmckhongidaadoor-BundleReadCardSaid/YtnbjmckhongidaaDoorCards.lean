/-
  DERIVED. GIVEN WITH THE SEED: THE CARDS: each row of YtnbjmckhongidaaDoorRows.lean that lists a variable, with what it lists TIED to the program's text (the seventh form; the later family's looks); each row that meets fmt, with fmt's text TOLD by the authors' own Lean function (tested against real Go, not proved from fmt's source: count such statements apart). THE CARD IS WHAT COUNTS. Prove the row's statement (the work); the ties are given (YtnbjmckhongidaaDoorTie.lean); close each card by the builder's one call (the guide's Derived/Test/ToyasCard.lean, 'card_holds'). Laid BY PROGRAM, IN A SANDBOX (cutbox-door.mjs). By AI agents, Wed Nov 11 2026. No macro, syntax, notation, axiom, sorry.
-/
import Derived.Test.YtnbjmckhongidaaDoorRows
import GoSem.ClaimSeven
namespace Go.Proofs.YtnbjmckhongidaaDoor
namespace Rows

/-- THE TIED CARD OF 'stirruplaw36.BundleMakes'. -/
def bundleMakesCard : Claim7 := { stood := { row := bundleMakesRow, standIns := [], harness := (true, "1c88245412a0bfa6eac2fe3ae9b5d875a420fc6f4385e9387f33b1d4d9df87a1"), looks := true }, kinds := [], alts := [], laidByText := true, laidKinds := [.data, .data, .data], laidTests := true, laidLooks := .later }
def BundleMakesCardSaid : Prop := Claim7.holds Tryd.pinned (.plain (OpenSpec.ofChange bundleMakesSpec)) bundleMakesCard

/-- THE TIED CARD OF 'stirruplaw36.BundleMore'. -/
def bundleMoreCard : Claim7 := { stood := { row := bundleMoreRow, standIns := [], harness := (true, "1c88245412a0bfa6eac2fe3ae9b5d875a420fc6f4385e9387f33b1d4d9df87a1"), looks := true }, kinds := [], alts := [], laidByText := true, laidKinds := [.data, .data, .data], laidTests := true, laidLooks := .later }
def BundleMoreCardSaid : Prop := Claim7.holds Tryd.pinned (.plain (OpenSpec.ofChange bundleMoreSpec)) bundleMoreCard

/-- THE TIED CARD OF 'stirruplaw36.BundleAll'. -/
def bundleAllCard : Claim7 := { stood := { row := bundleAllRow, standIns := [], harness := (true, "1c88245412a0bfa6eac2fe3ae9b5d875a420fc6f4385e9387f33b1d4d9df87a1"), looks := true }, kinds := [], alts := [], laidByText := true, laidKinds := [.data, .data, .data], laidTests := true, laidLooks := .later }
def BundleAllCardSaid : Prop := Claim7.holds Tryd.pinned (.plain (OpenSpec.ofChange bundleAllSpec)) bundleAllCard

/-- THE TIED CARD OF 'stirruplaw36.BundleChecks'. -/
def bundleChecksCard : Claim7 := { stood := { row := bundleChecksRow, standIns := [], harness := (true, "1c88245412a0bfa6eac2fe3ae9b5d875a420fc6f4385e9387f33b1d4d9df87a1"), looks := true }, kinds := [], alts := [], laidByText := true, laidKinds := [.data, .data, .data], laidTests := true, laidLooks := .later }
def BundleChecksCardSaid : Prop := Claim7.holds Tryd.pinned (.plain (OpenSpec.ofChange bundleChecksSpec)) bundleChecksCard

/-- THE TIED CARD OF 'stirruplaw36.BundleMissing'. -/
def bundleMissingCard : Claim7 := { stood := { row := bundleMissingRow, standIns := [], harness := (true, "1c88245412a0bfa6eac2fe3ae9b5d875a420fc6f4385e9387f33b1d4d9df87a1"), looks := true }, kinds := [], alts := [], laidByText := true, laidKinds := [.data, .data, .data], laidTests := true, laidLooks := .later }
def BundleMissingCardSaid : Prop := Claim7.holds Tryd.pinned (.plain (OpenSpec.ofChange bundleMissingSpec)) bundleMissingCard

/-- THE TIED CARD OF 'stirruplaw36.BundleRead'. -/
def bundleReadCard : Claim7 := { stood := { row := bundleReadRow, standIns := [], harness := (true, "1c88245412a0bfa6eac2fe3ae9b5d875a420fc6f4385e9387f33b1d4d9df87a1"), looks := true }, kinds := [], alts := [], laidByText := true, laidKinds := [.data, .data, .data, .data, .sentinel, .sentinel, .pinned], laidTests := true, laidLooks := .later }
def BundleReadCardSaid : Prop := Claim7.holds Tryd.pinned (.plain (OpenSpec.ofChange bundleReadSpec)) bundleReadCard

/-- THE SECOND FORM's CARD OF 'stirruplaw36.BundleMakes'. -/
def bundleMakesUptoCard : Claim7 := { stood := { row := bundleMakesUptoRow, standIns := [], harness := (true, "1c88245412a0bfa6eac2fe3ae9b5d875a420fc6f4385e9387f33b1d4d9df87a1"), looks := true }, kinds := [], alts := [], laidByText := true, laidKinds := [.data, .data, .data], laidTests := true, laidLooks := .later }
def BundleMakesUptoCardSaid : Prop := Claim7.holds Tryd.pinned (.plain (OpenSpec.upto bundleMakesSpec)) bundleMakesUptoCard

/-- THE SECOND FORM's CARD OF 'stirruplaw36.BundleMore'. -/
def bundleMoreUptoCard : Claim7 := { stood := { row := bundleMoreUptoRow, standIns := [], harness := (true, "1c88245412a0bfa6eac2fe3ae9b5d875a420fc6f4385e9387f33b1d4d9df87a1"), looks := true }, kinds := [], alts := [], laidByText := true, laidKinds := [.data, .data, .data], laidTests := true, laidLooks := .later }
def BundleMoreUptoCardSaid : Prop := Claim7.holds Tryd.pinned (.plain (OpenSpec.upto bundleMoreSpec)) bundleMoreUptoCard

/-- THE SECOND FORM's CARD OF 'stirruplaw36.BundleAll'. -/
def bundleAllUptoCard : Claim7 := { stood := { row := bundleAllUptoRow, standIns := [], harness := (true, "1c88245412a0bfa6eac2fe3ae9b5d875a420fc6f4385e9387f33b1d4d9df87a1"), looks := true }, kinds := [], alts := [], laidByText := true, laidKinds := [.data, .data, .data], laidTests := true, laidLooks := .later }
def BundleAllUptoCardSaid : Prop := Claim7.holds Tryd.pinned (.plain (OpenSpec.upto bundleAllSpec)) bundleAllUptoCard

/-- THE SECOND FORM's CARD OF 'stirruplaw36.BundleChecks'. -/
def bundleChecksUptoCard : Claim7 := { stood := { row := bundleChecksUptoRow, standIns := [], harness := (true, "1c88245412a0bfa6eac2fe3ae9b5d875a420fc6f4385e9387f33b1d4d9df87a1"), looks := true }, kinds := [], alts := [], laidByText := true, laidKinds := [.data, .data, .data], laidTests := true, laidLooks := .later }
def BundleChecksUptoCardSaid : Prop := Claim7.holds Tryd.pinned (.plain (OpenSpec.upto bundleChecksSpec)) bundleChecksUptoCard

/-- THE SECOND FORM's CARD OF 'stirruplaw36.BundleMissing'. -/
def bundleMissingUptoCard : Claim7 := { stood := { row := bundleMissingUptoRow, standIns := [], harness := (true, "1c88245412a0bfa6eac2fe3ae9b5d875a420fc6f4385e9387f33b1d4d9df87a1"), looks := true }, kinds := [], alts := [], laidByText := true, laidKinds := [.data, .data, .data], laidTests := true, laidLooks := .later }
def BundleMissingUptoCardSaid : Prop := Claim7.holds Tryd.pinned (.plain (OpenSpec.upto bundleMissingSpec)) bundleMissingUptoCard

/-- THE SECOND FORM's CARD OF 'stirruplaw36.BundleRead'. -/
def bundleReadUptoCard : Claim7 := { stood := { row := bundleReadUptoRow, standIns := [], harness := (true, "1c88245412a0bfa6eac2fe3ae9b5d875a420fc6f4385e9387f33b1d4d9df87a1"), looks := true }, kinds := [], alts := [], laidByText := true, laidKinds := [.data, .data, .data, .data, .sentinel, .sentinel, .pinned], laidTests := true, laidLooks := .later }
def BundleReadUptoCardSaid : Prop := Claim7.holds Tryd.pinned (.plain (OpenSpec.upto bundleReadSpec)) bundleReadUptoCard
end Rows
end Go.Proofs.YtnbjmckhongidaaDoor
