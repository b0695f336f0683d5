/-
  Part 30 of the proof: functions walked on the abstract machine.
  Conditions: none.
-/
import Derived.Test.YtaololdbooblkaaGreatDoorRows
import Derived.JoinedOf
import Derived.Test.YtaololdbooblkaaGreatDoorX29

namespace Go.Proofs.YtaololdbooblkaaGreatDoor
open Go
theorem topThreads_named:(Rows.topThreadsRow.named == Tryz.pinned.checked.prog.varsNamed 3)=true:=by kernel_rfl
end Go.Proofs.YtaololdbooblkaaGreatDoor
