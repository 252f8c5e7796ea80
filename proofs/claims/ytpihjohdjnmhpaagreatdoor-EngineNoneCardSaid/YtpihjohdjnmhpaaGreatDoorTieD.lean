/-
  THE PROGRAM's TIE: behind that statement the variables read as listed. Conditions: none.
-/
import Derived.Test.YtpihjohdjnmhpaaGreatDoorLst
import Derived.KernelRfl
namespace Go.Proofs.YtpihjohdjnmhpaaGreatDoor
open Go
theorem tieRead : ∀ os tape, (DataW.laidRun Tryz.prog (varsWorld Tryz.prog 400 (varsId Tryz.prog) os tape).memory 8 ((lst.filter fun x => x.2.handleName?.isNone).map (·.1))).map (·.1) = some (lst.filter fun x => x.2.handleName?.isNone) := fun _ _ => by kernel_rfl
end Go.Proofs.YtpihjohdjnmhpaaGreatDoor
