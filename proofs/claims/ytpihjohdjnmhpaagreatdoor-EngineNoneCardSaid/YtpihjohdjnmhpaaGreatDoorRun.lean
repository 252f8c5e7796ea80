/-
  THE EVALUATOR COMES TO true AT EngineNone, whatever the four arguments hold (they are handed about alone) and whatever strconv.ErrSyntax holds. Conditions: none.
-/
import Derived.Test.YtpihjohdjnmhpaaGreatDoorProg
import Derived.Test.YtpihjohdjnmhpaaGreatDoorAmD
import Derived.KernelRfl
namespace Go.Proofs.YtpihjohdjnmhpaaGreatDoor
open Go Go.Am
/-- the state in which the call begins: one variable is known to lie there, and is never written -/
noncomputable def start : AS := ⟨PT.set .lf 5 (.ro (PT.set .lf 0 (.chan (some 0))) 1), 6, .lf, 0⟩
/-- the arguments: nothing is known of them but how many cells they have -/
noncomputable def given : List Value := [.agg #[.chan (some 1), .chan (some 2), .chan (some 3), .chan (some 4), .chan (some 5)], .agg #[.chan (some 6), .chan (some 7), .chan (some 8), .chan (some 9), .chan (some 10)], .chan (some 11), .chan (some 12)]
noncomputable def yes : Outs (Value × AS) → Bool
  | some [(.bool true, _)] => true
  | _ => false
theorem run : yes (callN (envOf Tryz.prog [5]) [101, 472, 296] 300 (.fn 3 given) start) = true := by kernel_rfl
end Go.Proofs.YtpihjohdjnmhpaaGreatDoor
