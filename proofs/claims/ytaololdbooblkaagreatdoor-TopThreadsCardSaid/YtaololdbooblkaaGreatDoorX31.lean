/-
  Part 31 of the proof: functions walked on the abstract machine.
  Conditions: none.
-/
import Derived.Test.YtaololdbooblkaaGreatDoorX30

namespace Go.Proofs.YtaololdbooblkaaGreatDoor
open Go
theorem topThreads_closed:joinedFacts Tryz.pinned.checked.prog 3 Tryz.f3 Rows.topThreadsSpec Rows.topThreadsRow=true:=by
 unfold joinedFacts
 rw [topThreads_inPlace,topThreads_unfollowed,topThreads_recurses,topThreads_named]
 kernel_rfl
end Go.Proofs.YtaololdbooblkaaGreatDoor
