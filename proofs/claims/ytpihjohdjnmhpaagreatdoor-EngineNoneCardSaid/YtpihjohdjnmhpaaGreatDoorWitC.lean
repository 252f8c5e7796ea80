/-
  A WITNESS: its arguments are of their types. Conditions: none.
-/
import Derived.Test.YtpihjohdjnmhpaaGreatDoorWit
import Derived.KernelRfl
namespace Go.Proofs.YtpihjohdjnmhpaaGreatDoor
open Go
theorem witOk : ∀ os, Input.okWideB Tryz.prog (wworld os) 3 ⟨#[], wargs, []⟩ = true := fun _ => by kernel_rfl
end Go.Proofs.YtpihjohdjnmhpaaGreatDoor
