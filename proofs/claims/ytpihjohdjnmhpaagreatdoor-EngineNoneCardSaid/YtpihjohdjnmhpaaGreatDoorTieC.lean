/-
  THE PROGRAM's TIE: the statement that lays the variables ends. Conditions: none.
-/
import Derived.Test.YtpihjohdjnmhpaaGreatDoorLst
import Derived.KernelRfl
namespace Go.Proofs.YtpihjohdjnmhpaaGreatDoor
open Go
theorem tieDone : ∀ os tape, varsDone Tryz.prog 400 (varsId Tryz.prog) os tape = true := fun _ _ => by kernel_rfl
end Go.Proofs.YtpihjohdjnmhpaaGreatDoor
