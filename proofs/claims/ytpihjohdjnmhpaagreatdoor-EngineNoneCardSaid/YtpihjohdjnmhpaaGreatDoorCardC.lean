/-
  CLOSED FACT OF THE CARD OF EngineNone: no body of the whole translation starts a goroutine. Conditions: none.
-/
import Derived.Test.YtpihjohdjnmhpaaGreatDoorCards
import Derived.SevenTiedAt
namespace Go.Proofs.YtpihjohdjnmhpaaGreatDoor
open Go
theorem noneGoes : Tryz.pinned.checked.prog.funcs.any Func.goes = false := by kernel_rfl
theorem goes_of_none {P : Program} (h : P.funcs.any Func.goes = false) (f : FuncId) : P.goes f = false := by
  have h1 : ∀ g : FuncId, (P.funcs[g]?).any Func.goes = false := fun g => by
    cases hg : P.funcs[g]? with
    | none => rfl
    | some fn =>
      have hm : fn ∈ P.funcs := Array.mem_of_getElem? hg
      cases hf : Func.goes fn with
      | false => simpa using hf
      | true =>
        have : P.funcs.any Func.goes = true := Array.any_eq_true'.2 ⟨fn, hm, hf⟩
        rw [h] at this; cases this
  unfold Program.goes
  rw [h, Bool.and_false, Bool.or_false]
  simp [h1]
theorem cardGoes : false = Rows.engineNoneRow.goesBy Tryz.pinned.checked.prog := by
  have hs : Rows.engineNoneRow.start = .entering := rfl
  unfold OpenClaim.goesBy Program.goesAt Program.goesFrom
  rw [hs]
  cases Tryz.pinned.checked.prog.funcNamed Rows.engineNoneRow.func with
  | none => rfl
  | some f => simp [goes_of_none noneGoes f]
end Go.Proofs.YtpihjohdjnmhpaaGreatDoor
