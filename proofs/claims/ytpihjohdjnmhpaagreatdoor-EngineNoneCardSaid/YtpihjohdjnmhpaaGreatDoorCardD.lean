/-
  CLOSED FACTS OF THE CARD OF EngineNone. Conditions: none.
-/
import Derived.Test.YtpihjohdjnmhpaaGreatDoorCards
import Derived.SevenTiedAt
namespace Go.Proofs.YtpihjohdjnmhpaaGreatDoor
open Go
theorem cardWf : Rows.engineNoneRow.wfByText (OpenSpec.ofChange Rows.engineNoneSpec) = true := by kernel_rfl
theorem cardNoUnsafe : Tryz.pinned.checked.prog.headLifts.contains "ownunsafe" = false := by kernel_rfl
theorem cardNoStand : ([24, 26, 3, 9].all fun u => !Tryz.prog.wantsStandIn u) = true := by kernel_rfl
end Go.Proofs.YtpihjohdjnmhpaaGreatDoor
