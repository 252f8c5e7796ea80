/-
  A WITNESS: its arguments can be read. Conditions: none.
-/
import Derived.Test.YtpihjohdjnmhpaaGreatDoorWit
import Derived.KernelRfl
namespace Go.Proofs.YtpihjohdjnmhpaaGreatDoor
open Go
theorem witPre : ∀ (os : Os) (H : Type) (enc : TypeId × Value → H), Rows.engineNoneSpec.preB enc Tryz.prog Tryz.f3 [] false (wworld os).memory wargs 8 = true := fun _ _ _ => by kernel_rfl
end Go.Proofs.YtpihjohdjnmhpaaGreatDoor
