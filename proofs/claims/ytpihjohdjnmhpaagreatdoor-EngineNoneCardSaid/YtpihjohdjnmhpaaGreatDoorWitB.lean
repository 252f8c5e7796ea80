/-
  A WITNESS: its tables are the program's. Conditions: none.
-/
import Derived.Test.YtpihjohdjnmhpaaGreatDoorWit
import Derived.KernelRfl
namespace Go.Proofs.YtpihjohdjnmhpaaGreatDoor
open Go
theorem witRows : ∀ os, ((wworld os).heap.toList.drop Tryz.prog.globals.size).take ((begin Tryz.prog (fun _ _ => 0) default).world.heap.size - Tryz.prog.globals.size) =
      (begin Tryz.prog (fun _ _ => 0) default).world.heap.toList.drop Tryz.prog.globals.size := fun _ => by kernel_rfl
end Go.Proofs.YtpihjohdjnmhpaaGreatDoor
