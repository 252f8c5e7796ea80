/-
  CLOSED FACTS OF THE ROW OF EngineNone, some of them. Conditions: none.
-/
import Derived.Test.YtpihjohdjnmhpaaGreatDoorRows
import Derived.JoinedOf
namespace Go.Proofs.YtpihjohdjnmhpaaGreatDoor
open Go
theorem rowFact24 : (Tryz.pinned.checked.prog.stopsHeard) = true := by kernel_rfl
end Go.Proofs.YtpihjohdjnmhpaaGreatDoor
