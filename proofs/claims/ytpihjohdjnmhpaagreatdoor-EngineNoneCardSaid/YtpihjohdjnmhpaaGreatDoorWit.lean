/-
  A START OF THE WITNESS: its arguments; no statement. Conditions: none.
-/
import Derived.Test.YtpihjohdjnmhpaaGreatDoorLst
import Derived.LaidMore
import Derived.LaidLaws
namespace Go.Proofs.YtpihjohdjnmhpaaGreatDoor
open Go
noncomputable def wargs : Array Value := #[.agg #[.int .i64 0, .int .i64 0, .int .i64 0, .int .i64 0, .slice none 0 0], .agg #[.int .i64 0, .int .i64 0, .int .i64 0, .string .empty, .int .i64 0], .int .i64 0, .string .empty]
noncomputable def wworld (os : Os) : World := (World.doorLaid Tryz.prog 400 os).forCall (fun _ _ => 0) ⟨#[], wargs, []⟩
end Go.Proofs.YtpihjohdjnmhpaaGreatDoor
