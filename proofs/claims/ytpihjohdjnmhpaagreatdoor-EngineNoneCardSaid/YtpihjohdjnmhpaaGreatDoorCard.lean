/-
  THE TIED CARD OF EngineNone: for every input the call returns true, and each argument reads behind it as before; what the listed package-level variables hold is tied to the program's text. Conditions: those of the given card.
-/
import Derived.Test.YtpihjohdjnmhpaaGreatDoorProof
import Derived.Test.YtpihjohdjnmhpaaGreatDoorCards
import Derived.Test.YtpihjohdjnmhpaaGreatDoorTieA
import Derived.Test.YtpihjohdjnmhpaaGreatDoorTieB
import Derived.Test.YtpihjohdjnmhpaaGreatDoorTieC
import Derived.Test.YtpihjohdjnmhpaaGreatDoorTieD
import Derived.Test.YtpihjohdjnmhpaaGreatDoorTieE
import Derived.Test.YtpihjohdjnmhpaaGreatDoorTieF
import Derived.Test.YtpihjohdjnmhpaaGreatDoorCardA
import Derived.Test.YtpihjohdjnmhpaaGreatDoorCardB
import Derived.Test.YtpihjohdjnmhpaaGreatDoorCardC
import Derived.Test.YtpihjohdjnmhpaaGreatDoorCardD
import Derived.SevenTiedAt
namespace Go.Proofs.YtpihjohdjnmhpaaGreatDoor
open Go

theorem tieProg : Tryz.prog.laidByTextLater lst [.data, .data, .data, .sentinel, .sentinel, .handle] true :=
  Program.laidByTextLater_by_run_h 400 8 tieWord tieWordNot tieRoot tieKinds tieVars tieNamed tieDone tieRead tiePlaces tieHandle
theorem tieRow : Rows.engineNoneRow.laidByTextAt .later Tryz.pinned [.data, .data, .data, .sentinel, .sentinel, .handle] true :=
  OpenClaim.laidByTextAt_later rfl rfl tieProg cardNoUnsafe
theorem engineNone_holds : Rows.EngineNoneCardSaid :=
  Claim7.holds_tied_plain_at .later [] [.data, .data, .data, .sentinel, .sentinel, .handle] true (true, "e36f9edf749d37780297c1cd97a867b8480b56eb61a3e296510e56853d58408b") true
    holds_row (fun _ h => by cases h) cardWf (fun _ h => by cases h) tieRow rfl ⟨rfl, rfl⟩ cardMain rfl
    (fun f fn hf hfn => by
      obtain rfl : f = 3 := Option.some.inj ((show Tryz.prog.funcNamed "freshet/freshetlaw27.EngineNone" = some 3 by kernel_rfl).symm.trans hf) |>.symm
      obtain rfl : fn = Tryz.f3 := (Option.some.inj (Tryz.func3.symm.trans hfn)).symm
      exact ⟨cardLooks, fun j t ht => by
        rw [Tryz.params3] at ht
        have hm : t ∈ [24, 26, 3, 9] := by simpa using Array.mem_of_getElem? ht
        exact (show Tryz.prog.wantsStandIn t = false by simpa using List.all_eq_true.1 cardNoStand t hm)⟩)
    cardGoes
#print axioms engineNone_holds
end Go.Proofs.YtpihjohdjnmhpaaGreatDoor
