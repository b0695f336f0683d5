/-
  DERIVED. GIVEN WITH THE SEED: THE CARDS: each row of YtddogeicmhbidaaDoorRows.lean that lists a variable, with what it lists TIED to the program's text (the seventh form; the later family's looks); each row that meets fmt, with fmt's text TOLD by the authors' own Lean function (tested against real Go, not proved from fmt's source: count such statements apart). THE CARD IS WHAT COUNTS. Prove the row's statement (the work); the ties are given (YtddogeicmhbidaaDoorTie.lean); close each card by the builder's one call (the guide's Derived/Test/ToyasCard.lean, 'card_holds'). Laid BY PROGRAM, IN A SANDBOX (cutbox-door.mjs). By AI agents, Wed Nov 11 2026. No macro, syntax, notation, axiom, sorry.
-/
import Derived.Test.YtddogeicmhbidaaDoorRows
import GoSem.ClaimSeven
namespace Go.Proofs.YtddogeicmhbidaaDoor
namespace Rows

/-- THE TIED CARD OF 'stirruplaw14.ScheduleMerges'. -/
def scheduleMergesCard : Claim7 := { stood := { row := scheduleMergesRow, standIns := [], harness := (true, "979444ab44f941e470009b058e38c724d2c0fe97fe82474970497bb7560e853a"), looks := false }, kinds := [], alts := [], laidByText := true, laidKinds := [.data, .data, .data], laidTests := true, laidLooks := .later }
def ScheduleMergesCardSaid : Prop := Claim7.holds Tryd.pinned (.plain (OpenSpec.ofChange scheduleMergesSpec)) scheduleMergesCard

/-- THE TIED CARD OF 'stirruplaw14.ScheduleCounts'. -/
def scheduleCountsCard : Claim7 := { stood := { row := scheduleCountsRow, standIns := [], harness := (true, "979444ab44f941e470009b058e38c724d2c0fe97fe82474970497bb7560e853a"), looks := false }, kinds := [], alts := [], laidByText := true, laidKinds := [.data, .data, .data], laidTests := true, laidLooks := .later }
def ScheduleCountsCardSaid : Prop := Claim7.holds Tryd.pinned (.plain (OpenSpec.ofChange scheduleCountsSpec)) scheduleCountsCard

/-- THE TIED CARD OF 'stirruplaw14.ScheduleForms'. -/
def scheduleFormsCard : Claim7 := { stood := { row := scheduleFormsRow, standIns := [], harness := (true, "979444ab44f941e470009b058e38c724d2c0fe97fe82474970497bb7560e853a"), looks := false }, kinds := [], alts := [], laidByText := true, laidKinds := [.data, .data, .data], laidTests := true, laidLooks := .later }
def ScheduleFormsCardSaid : Prop := Claim7.holds Tryd.pinned (.plain (OpenSpec.ofChange scheduleFormsSpec)) scheduleFormsCard

/-- THE TIED CARD OF 'stirruplaw14.ScheduleAdds'. -/
def scheduleAddsCard : Claim7 := { stood := { row := scheduleAddsRow, standIns := [], harness := (true, "979444ab44f941e470009b058e38c724d2c0fe97fe82474970497bb7560e853a"), looks := false }, kinds := [], alts := [], laidByText := true, laidKinds := [.data, .data, .data], laidTests := true, laidLooks := .later }
def ScheduleAddsCardSaid : Prop := Claim7.holds Tryd.pinned (.plain (OpenSpec.ofChange scheduleAddsSpec)) scheduleAddsCard

/-- THE SECOND FORM's CARD OF 'stirruplaw14.ScheduleMerges'. -/
def scheduleMergesUptoCard : Claim7 := { stood := { row := scheduleMergesUptoRow, standIns := [], harness := (true, "979444ab44f941e470009b058e38c724d2c0fe97fe82474970497bb7560e853a"), looks := false }, kinds := [], alts := [], laidByText := true, laidKinds := [.data, .data, .data], laidTests := true, laidLooks := .later }
def ScheduleMergesUptoCardSaid : Prop := Claim7.holds Tryd.pinned (.plain (OpenSpec.upto scheduleMergesSpec)) scheduleMergesUptoCard

/-- THE SECOND FORM's CARD OF 'stirruplaw14.ScheduleCounts'. -/
def scheduleCountsUptoCard : Claim7 := { stood := { row := scheduleCountsUptoRow, standIns := [], harness := (true, "979444ab44f941e470009b058e38c724d2c0fe97fe82474970497bb7560e853a"), looks := false }, kinds := [], alts := [], laidByText := true, laidKinds := [.data, .data, .data], laidTests := true, laidLooks := .later }
def ScheduleCountsUptoCardSaid : Prop := Claim7.holds Tryd.pinned (.plain (OpenSpec.upto scheduleCountsSpec)) scheduleCountsUptoCard

/-- THE SECOND FORM's CARD OF 'stirruplaw14.ScheduleForms'. -/
def scheduleFormsUptoCard : Claim7 := { stood := { row := scheduleFormsUptoRow, standIns := [], harness := (true, "979444ab44f941e470009b058e38c724d2c0fe97fe82474970497bb7560e853a"), looks := false }, kinds := [], alts := [], laidByText := true, laidKinds := [.data, .data, .data], laidTests := true, laidLooks := .later }
def ScheduleFormsUptoCardSaid : Prop := Claim7.holds Tryd.pinned (.plain (OpenSpec.upto scheduleFormsSpec)) scheduleFormsUptoCard

/-- THE SECOND FORM's CARD OF 'stirruplaw14.ScheduleAdds'. -/
def scheduleAddsUptoCard : Claim7 := { stood := { row := scheduleAddsUptoRow, standIns := [], harness := (true, "979444ab44f941e470009b058e38c724d2c0fe97fe82474970497bb7560e853a"), looks := false }, kinds := [], alts := [], laidByText := true, laidKinds := [.data, .data, .data], laidTests := true, laidLooks := .later }
def ScheduleAddsUptoCardSaid : Prop := Claim7.holds Tryd.pinned (.plain (OpenSpec.upto scheduleAddsSpec)) scheduleAddsUptoCard
end Rows
end Go.Proofs.YtddogeicmhbidaaDoor
