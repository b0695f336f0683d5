/-
  Part 27 of the proof: functions walked on the abstract machine.
  Conditions: none.
-/
import Derived.Test.YtaololdbooblkaaGreatDoorRows
import Derived.JoinedOf
import Derived.Test.YtaololdbooblkaaGreatDoorX26

namespace Go.Proofs.YtaololdbooblkaaGreatDoor
open Go
theorem topThreads_inPlace:(Rows.topThreadsRow.inPlace == Tryz.pinned.checked.prog.inPlace 3)=true:=by kernel_rfl
end Go.Proofs.YtaololdbooblkaaGreatDoor
