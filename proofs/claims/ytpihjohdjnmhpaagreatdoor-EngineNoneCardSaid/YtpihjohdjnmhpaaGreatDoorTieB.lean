/-
  THE PROGRAM's TIE: the listed variables are laid by the statement that the translator bears. Conditions: none.
-/
import Derived.Test.YtpihjohdjnmhpaaGreatDoorLst
import Derived.KernelRfl
namespace Go.Proofs.YtpihjohdjnmhpaaGreatDoor
open Go
theorem tieNamed : varsNamedLaterB Tryz.prog (varsId Tryz.prog) lst = true := by kernel_rfl
end Go.Proofs.YtpihjohdjnmhpaaGreatDoor
