/-
  Part 29 of the proof: functions walked on the abstract machine.
  Conditions: none.
-/
import Derived.Test.YtaololdbooblkaaGreatDoorRows
import Derived.JoinedOf
import Derived.Test.YtaololdbooblkaaGreatDoorX28

namespace Go.Proofs.YtaololdbooblkaaGreatDoor
open Go
theorem topThreads_recurses:(Rows.topThreadsRow.recurses == Tryz.pinned.checked.prog.recurses 3)=true:=by kernel_rfl
end Go.Proofs.YtaololdbooblkaaGreatDoor
