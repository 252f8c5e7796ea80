/-
  THE CLOSED FACTS OF THE ROW OF EngineNone, all of them. Conditions: none.
-/
import Derived.Test.YtpihjohdjnmhpaaGreatDoorRowA
import Derived.Test.YtpihjohdjnmhpaaGreatDoorRowB
import Derived.Test.YtpihjohdjnmhpaaGreatDoorRowC
import Derived.Test.YtpihjohdjnmhpaaGreatDoorRowD
import Derived.Test.YtpihjohdjnmhpaaGreatDoorRowE
import Derived.Test.YtpihjohdjnmhpaaGreatDoorRowF
import Derived.Test.YtpihjohdjnmhpaaGreatDoorRowG
import Derived.Test.YtpihjohdjnmhpaaGreatDoorRowH
import Derived.Test.YtpihjohdjnmhpaaGreatDoorFacts
namespace Go.Proofs.YtpihjohdjnmhpaaGreatDoor
open Go
theorem andT {a b : Bool} (ha : a = true) (hb : b = true) : (a && b) = true := by rw [ha, hb]; rfl
theorem laidOut2 : laidOutB Tryz.pinned.checked.prog = true := laidOut
theorem rowClosed : joinedFacts Tryz.pinned.checked.prog 3 Tryz.f3 Rows.engineNoneSpec Rows.engineNoneRow = true := by
  unfold joinedFacts
  simp only [rowFact0, laidOut2, rowFact2, rowFact3, rowFact4, rowFact5, rowFact6, rowFact7, rowFact8, rowFact9, rowFact10, rowFact11, rowFact12, rowFact13, rowFact14, rowFact15, rowFact16, rowFact17, rowFact18, rowFact19, rowFact20, rowFact21, rowFact22, rowFact23, rowFact24, rowFact25, rowFact26, rowFact27, rowFact29, rowFact30, rowFact31, Bool.and_true]
  kernel_rfl
end Go.Proofs.YtpihjohdjnmhpaaGreatDoor
