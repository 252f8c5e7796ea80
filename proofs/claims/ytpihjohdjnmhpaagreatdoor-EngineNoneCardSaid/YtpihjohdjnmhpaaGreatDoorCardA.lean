/-
  CLOSED FACTS OF THE CARD OF EngineNone. Conditions: none.
-/
import Derived.Test.YtpihjohdjnmhpaaGreatDoorCards
import Derived.SevenTiedAt
namespace Go.Proofs.YtpihjohdjnmhpaaGreatDoor
open Go
theorem cardMain : Tryz.pinned.checked.prog.mainIs = some (true, "e36f9edf749d37780297c1cd97a867b8480b56eb61a3e296510e56853d58408b".toList) := by kernel_rfl
end Go.Proofs.YtpihjohdjnmhpaaGreatDoor
