/-
  THE PROGRAM's TIE, six closed facts of nine: the translation's words, the listed names. Conditions: none.
-/
import Derived.Test.YtpihjohdjnmhpaaGreatDoorLst
import Derived.KernelRfl
namespace Go.Proofs.YtpihjohdjnmhpaaGreatDoor
open Go
theorem tieWord : Tryz.prog.worded (varsWordLater true) = true := by kernel_rfl
theorem tieWordNot : Tryz.prog.worded (varsWordLater !true) = false := by kernel_rfl
theorem tieRoot : Tryz.prog.worded rootWordLater = true := by kernel_rfl
theorem tieKinds : lst.map (fun x => Tryz.prog.kindOfLater x.1) = [LaidKind.data, .data, .data, .sentinel, .sentinel, .handle].map some := by kernel_rfl
theorem tieVars : (Tryz.prog.funcNamed "gosem.cut.vars").isSome = true := by kernel_rfl
end Go.Proofs.YtpihjohdjnmhpaaGreatDoor
