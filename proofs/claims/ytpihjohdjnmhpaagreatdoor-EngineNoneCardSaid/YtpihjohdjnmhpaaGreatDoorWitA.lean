/-
  A WITNESS: its variables are as declared. Conditions: none.
-/
import Derived.Test.YtpihjohdjnmhpaaGreatDoorWit
import Derived.KernelRfl
namespace Go.Proofs.YtpihjohdjnmhpaaGreatDoor
open Go
theorem witVars : ∀ os, (wworld os).variablesRefB Tryz.prog = true := fun _ => by kernel_rfl
end Go.Proofs.YtpihjohdjnmhpaaGreatDoor
