/-
  CLOSED FACTS OF THE ROW OF EngineNone, some of them. Conditions: none.
-/
import Derived.Test.YtpihjohdjnmhpaaGreatDoorRows
import Derived.JoinedOf
namespace Go.Proofs.YtpihjohdjnmhpaaGreatDoor
open Go
theorem rowFact0 : (Rows.engineNoneRow.wf (OpenSpec.ofChange Rows.engineNoneSpec)) = true := by kernel_rfl
theorem rowFact3 : (Tryz.f3.params.all (Tryz.pinned.checked.prog.readableRec ·)) = true := by kernel_rfl
theorem rowFact4 : (namedTie Tryz.pinned.checked.prog Rows.engineNoneRow.named Rows.engineNoneSpec.vars) = true := by kernel_rfl
theorem rowFact5 : ((Rows.engineNoneRow.stops == [])) = true := by kernel_rfl
theorem rowFact6 : ((Tryz.pinned.checked.prog.stops == [])) = true := by kernel_rfl
theorem rowFact7 : ((Rows.engineNoneRow.knobs == [])) = true := by kernel_rfl
theorem rowFact8 : ((Tryz.pinned.checked.prog.stopKnobs == [])) = true := by kernel_rfl
theorem rowFact13 : ((Rows.engineNoneRow.maps == (Tryz.f3.params.toList ++ Rows.engineNoneSpec.plain.varTypes Tryz.pinned.checked.prog).any (Tryz.pinned.checked.prog.mapsRec ·))) = true := by kernel_rfl
theorem rowFact14 : ((Rows.engineNoneRow.ifaces == (Tryz.f3.params.toList ++ Rows.engineNoneSpec.plain.varTypes Tryz.pinned.checked.prog).any (Tryz.pinned.checked.prog.ifacesRec ·))) = true := by kernel_rfl
theorem rowFact15 : ((Rows.engineNoneRow.mapsOut == Tryz.pinned.checked.prog.mapsAmong Tryz.f3.resultTypes.toList)) = true := by kernel_rfl
theorem rowFact16 : ((Rows.engineNoneRow.loops == (Tryz.f3.params.toList ++ Rows.engineNoneSpec.plain.varTypes Tryz.pinned.checked.prog).any (Tryz.pinned.checked.prog.loopsFrom ·))) = true := by kernel_rfl
theorem rowFact17 : ((Rows.engineNoneRow.wideKeys == (Tryz.f3.params.toList ++ Rows.engineNoneSpec.plain.varTypes Tryz.pinned.checked.prog ++ Tryz.f3.resultTypes.toList).any (Tryz.pinned.checked.prog.wideKeysFrom ·))) = true := by kernel_rfl
theorem rowFact18 : (Rows.engineNoneSpec.vars.all (Tryz.pinned.checked.prog.varReadable ·)) = true := by kernel_rfl
theorem rowFact19 : (Tryz.f3.resultTypes.all (fun t => Tryz.pinned.checked.prog.readableRec t && decide (t < Tryz.pinned.checked.prog.types.size))) = true := by kernel_rfl
theorem rowFact20 : ((Rows.engineNoneRow.ifacesOut == Tryz.f3.resultTypes.toList.any (Tryz.pinned.checked.prog.ifacesRec ·))) = true := by kernel_rfl
theorem rowFact21 : ((Rows.engineNoneRow.loopsOut == Tryz.f3.resultTypes.toList.any (Tryz.pinned.checked.prog.loopsFrom ·))) = true := by kernel_rfl
theorem rowFact22 : ((Rows.engineNoneRow.plainKeys == Tryz.pinned.checked.prog.plainKeys)) = true := by kernel_rfl
theorem rowFact23 : (Rows.engineNoneRow.shortTexts.isNone) = true := by kernel_rfl
theorem rowFact26 : ((Rows.engineNoneRow.lifted == Tryz.pinned.checked.prog.liftsFinal)) = true := by kernel_rfl
theorem rowFact27 : ((Tryz.pinned.checked.prog.make == some Rows.engineNoneRow.make)) = true := by kernel_rfl
theorem rowFact28 : ((Rows.engineNoneRow.kinds == (if Rows.engineNoneRow.domain.isEmpty then [] else Tryz.f3.params.toList.map fun t => match Tryz.pinned.checked.prog.underlying t with | some (.int k) => some k | _ => none))) = true := by kernel_rfl
theorem rowFact29 : ((Rows.engineNoneRow.pinned == Rows.engineNoneRow.pinnedBy)) = true := by kernel_rfl
theorem rowFact30 : ((Rows.engineNoneRow.veiled == (Tryz.f3.params.toList ++ Rows.engineNoneSpec.plain.varTypes Tryz.pinned.checked.prog ++ Tryz.f3.resultTypes.toList).any (Tryz.pinned.checked.prog.veiledRec ·))) = true := by kernel_rfl
theorem rowFact31 : (Rows.engineNoneRow.veiledFits Tryz.pinned.checked.prog Tryz.f3.params.toList (Tryz.f3.params.toList ++ Rows.engineNoneSpec.plain.varTypes Tryz.pinned.checked.prog ++ Tryz.f3.resultTypes.toList)) = true := by kernel_rfl
end Go.Proofs.YtpihjohdjnmhpaaGreatDoor
