/-
  THE PROGRAM's TIE: behind that statement the handle is the listed one. Conditions: none.
-/
import Derived.Test.YtpihjohdjnmhpaaGreatDoorLst
import Derived.KernelRfl
namespace Go.Proofs.YtpihjohdjnmhpaaGreatDoor
open Go
theorem tieHandle : ∀ os tape, (lst.filter fun x => x.2.handleName?.isSome).all (handleAtB Tryz.prog (varsWorld Tryz.prog 400 (varsId Tryz.prog) os tape).memory) = true := fun _ _ => by kernel_rfl
end Go.Proofs.YtpihjohdjnmhpaaGreatDoor
