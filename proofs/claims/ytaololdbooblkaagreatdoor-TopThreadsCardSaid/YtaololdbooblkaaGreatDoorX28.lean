/-
  Part 28 of the proof: functions walked on the abstract machine.
  Conditions: none.
-/
import Derived.Test.YtaololdbooblkaaGreatDoorRows
import Derived.JoinedOf
import Derived.Test.YtaololdbooblkaaGreatDoorX27

namespace Go.Proofs.YtaololdbooblkaaGreatDoor
open Go
theorem topThreads_unfollowed:(Rows.topThreadsRow.unfollowed == Tryz.pinned.checked.prog.unfollowed 3)=true:=by kernel_rfl
end Go.Proofs.YtaololdbooblkaaGreatDoor
