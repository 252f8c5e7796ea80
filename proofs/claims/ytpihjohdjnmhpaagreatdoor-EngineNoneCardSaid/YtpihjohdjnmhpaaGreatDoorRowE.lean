/-
  CLOSED FACTS OF THE ROW OF EngineNone, some of them. Conditions: none.
-/
import Derived.Test.YtpihjohdjnmhpaaGreatDoorRows
import Derived.JoinedOf
namespace Go.Proofs.YtpihjohdjnmhpaaGreatDoor
open Go
theorem rowFact11 : ((Rows.engineNoneRow.recurses == Tryz.pinned.checked.prog.recurses 3)) = true := by kernel_rfl
end Go.Proofs.YtpihjohdjnmhpaaGreatDoor
