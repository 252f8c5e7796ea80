/-
  CLOSED FACTS OF THE CARD OF EngineNone. Conditions: none.
-/
import Derived.Test.YtpihjohdjnmhpaaGreatDoorCards
import Derived.SevenTiedAt
namespace Go.Proofs.YtpihjohdjnmhpaaGreatDoor
open Go
theorem cardLooks : true = Tryz.pinned.checked.prog.looks [] := by kernel_rfl
end Go.Proofs.YtpihjohdjnmhpaaGreatDoor
