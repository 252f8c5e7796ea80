/-
  WHAT THE ROW's PROOF OF EngineNone LEANS ON: the arguments' cells, the variable's cell, readings that stay. Conditions: the listed package-level variables read as the row lists them.
-/
import Derived.Test.YtpihjohdjnmhpaaGreatDoorCall
import Derived.Test.YtpihjohdjnmhpaaGreatDoorWitA
import Derived.Test.YtpihjohdjnmhpaaGreatDoorWitB
import Derived.Test.YtpihjohdjnmhpaaGreatDoorWitC
import Derived.Test.YtpihjohdjnmhpaaGreatDoorWitD
import Derived.Test.YtpihjohdjnmhpaaGreatDoorWitE
import Derived.Test.YtpihjohdjnmhpaaGreatDoorTieD
import Derived.Test.YtpihjohdjnmhpaaGreatDoorTieE
import Derived.Test.YtpihjohdjnmhpaaGreatDoorTieF
import Derived.ProofKit
import Derived.LaidMore
import Derived.OpenShut
import Derived.Stop.Joined
import Derived.Carry
namespace Go.Proofs.YtpihjohdjnmhpaaGreatDoor
set_option maxRecDepth 100000
open Go Go.Am Go.ChangeShapes Go.WideShapes Go.ChangeAt Go.WideMaps Go.WideElems Go.RowKit

theorem own : ownKnob Tryz.prog.godebug = none := by kernel_rfl
theorem laidOut : laidOutB Tryz.prog = true := by kernel_rfl
theorem gErr : Tryz.prog.globalNamed "strconv.ErrSyntax" = some 5 := by kernel_rfl
theorem tErr : (Tryz.prog.globals[5]?).map (·.type) = some 303 := by kernel_rfl
theorem readable : ([24, 26, 3, 9].all fun t => Tryz.prog.readableRec t && decide (t < Tryz.prog.types.size)) = true := by kernel_rfl
theorem isStruct : ([24, 26].all fun t => (match Tryz.prog.underlying t with | some (.struct _) => true | _ => false) && decide (Tryz.prog.cellsOf t = 5)) = true := by kernel_rfl
theorem isPlain : ([3, 9].all fun t => (match Tryz.prog.underlying t with | some (.int _) => true | some .string => true | _ => false)) = true := by kernel_rfl
theorem isIface : (match Tryz.prog.underlying 303 with | some (.interface _) => true | _ => false) = true := by kernel_rfl
theorem lstPlain : (lst.filter fun x => x.2.handleName?.isNone) = [("internal/strconv.uint64pow10", Rows.laid_internal_strconv_uint64pow10), ("math/bits.deBruijn32tab", Rows.laid_math_bits_deBruijn32tab), ("math/bits.deBruijn64tab", Rows.laid_math_bits_deBruijn64tab), ("strconv.ErrSyntax", Rows.laid_strconv_ErrSyntax), ("strconv.ErrRange", Rows.laid_strconv_ErrRange)] := by kernel_rfl
theorem lstHandle : (lst.filter fun x => x.2.handleName?.isSome) = [("errors.errorType", Rows.laid_errors_errorType)] := by kernel_rfl

theorem door_heap (P : Program) (n : Nat) (os : Os) (tape : Tape) (a : Array Value) : ((World.doorLaid P n os).forCall tape ⟨#[], a, []⟩).memory.heap = (varsWorld P n (varsId P) os (fun _ _ => 0)).memory.heap := by
  simp [World.forCall, World.doorLaid, World.memory, Input.heap]
/-- the door's own heap meets the condition -/
theorem door_met (os : Os) : laidMetH Tryz.prog lst (wworld os).memory := by
  have m := laidMet_of_run' 8 (tieRead os (fun _ _ => 0)) (tiePlaces os (fun _ _ => 0))
  have h : laidMetH Tryz.prog lst (varsWorld Tryz.prog 400 (varsId Tryz.prog) os (fun _ _ => 0)).memory := laidMetH_of_parts m (tieHandle os (fun _ _ => 0))
  exact h.of_heap (door_heap Tryz.prog 400 os (fun _ _ => 0) wargs).symm
/-- what the condition gives: the variable's cell -/
theorem has_var {W : World} (h : laidMetH Tryz.prog lst W) : HasVar W := by
  have hm : laidMet Tryz.prog (lst.filter fun x => x.2.handleName?.isNone) W := by
    unfold laidMetH at h
    rw [lstHandle] at h
    exact h.1
  rw [lstPlain] at hm
  obtain ⟨ps, ⟨_, _, _, _, _, _, _, _, _, _, ⟨_, _, _, _, _, _, _, _, _, _, ⟨_, _, _, _, _, _, _, _, _, _, ⟨g, t, cs, fuel, p, q, hg, ht, hv, hd, _, _⟩, _⟩, _⟩, _⟩, _, _⟩ := hm
  obtain rfl := Option.some.inj (gErr.symm.trans hg)
  obtain rfl := Option.some.inj (tErr.symm.trans ht)
  have hheap : ∃ e fr, W.heap[5]? = some (.cells cs e fr) := by
    unfold World.var? at hv
    rw [gErr] at hv
    simp only [Option.bind_some] at hv
    split at hv
    · rename_i cs' e fr hc
      cases hv
      exact ⟨e, fr, hc⟩
    · cases hv
  obtain ⟨e, fr, hc⟩ := hheap
  have hi := isIface
  cases hu : Tryz.prog.underlying 303 with
  | none => rw [hu] at hi; cases hi
  | some d =>
    cases d <;> rw [hu] at hi <;> first | (cases hi; done) | skip
    rename_i ms
    cases fuel with
    | zero => cases hd
    | succ fuel =>
      have key : ∃ x : Value, cs.toList = [x] ∧ x.oneCell' = true := by
        unfold DataW.trod at hd
        rw [hu] at hd
        generalize cs.toList = l at hd
        split at hd
        all_goals first
          | (rename_i heq _; cases heq; done)
          | skip
        all_goals first
          | exact ⟨_, rfl, rfl⟩
          | (simp at *; done)
      obtain ⟨x, hx, ho⟩ := key
      refine ⟨cs, e, fr, hc, by rw [← Array.length_toList, hx]; rfl, x, ?_, ho⟩
      rw [← Array.getElem?_toList, hx]; rfl
theorem one_of_ok {W : World} {base : Nat} {t : TypeId} {v : Value} (h : Cell.okWide Tryz.prog W .any base t v) : v.oneCell' = true := by
  unfold Cell.okWide at h
  split at h
  all_goals first
    | rfl
    | skip
  unfold Cell.ok at h
  split at h <;> first | rfl | exact h.elim
theorem agg_of_ok {W : World} {base : Nat} {t : TypeId} {v : Value} (ht : t ∈ [24, 26]) (h : Value.okWide Tryz.prog W .any base t v) : ∃ cs, v = .agg cs ∧ cs.size = 5 ∧ ∀ x ∈ cs.toList, x.oneCell' = true := by
  have hs := List.all_eq_true.1 isStruct t ht
  simp only [Bool.and_eq_true, decide_eq_true_eq] at hs
  unfold Value.okWide at h
  cases hu : Tryz.prog.underlying t with
  | none => rw [hu] at hs; cases hs.1
  | some d =>
    cases d <;> rw [hu] at hs <;> first | (cases hs.1; done) | skip
    rw [hu] at h
    obtain ⟨cs, rfl, hsz, ts, _, _, hall⟩ := h
    refine ⟨cs, rfl, hsz.trans hs.2, fun x hx => ?_⟩
    obtain ⟨i, hi, rfl⟩ := List.mem_iff_getElem.1 hx
    obtain ⟨u, _, hc⟩ := hall i cs.toList[i] (by rw [← Array.getElem?_toList, List.getElem?_eq_getElem hi])
    exact one_of_ok hc
theorem plain_of_ok {W : World} {base : Nat} {t : TypeId} {v : Value} (ht : t ∈ [3, 9]) (h : Value.okWide Tryz.prog W .any base t v) : v.oneCell' = true := by
  have hs := List.all_eq_true.1 isPlain t ht
  unfold Value.okWide at h
  cases hu : Tryz.prog.underlying t with
  | none => rw [hu] at hs; cases hs
  | some d => cases d <;> rw [hu] at hs h <;> first | (cases hs; done) | exact one_of_ok h
/-- readings stay, where nothing that was there is turned -/
theorem trodAll_below {H : Type} {enc : TypeId × Value → H} {W W' : World} (hb : Below W.heap.size W W') : ∀ {ts : List TypeId} {vs : List Value} {ds : List (DataW H)} {ps : List MemPlace}, (∀ t ∈ ts, Tryz.prog.readableRec t = true ∧ t < Tryz.prog.types.size) →
    DataW.TrodAll enc Tryz.prog W 0 (fun _ => true) true ts vs ds ps → (∀ x ∈ ps, x.block < W.heap.size) → DataW.TrodAll enc Tryz.prog W' 0 (fun b => decide (b < W.heap.size)) true ts vs ds ps
  | [], [], [], ps, _, h, _ => h
  | [], [], _ :: _, _, _, h, _ => h.elim
  | [], _ :: _, _, _, _, h, _ => h.elim
  | _ :: _, [], _, _, _, h, _ => h.elim
  | _ :: _, _ :: _, [], _, _, h, _ => h.elim
  | t :: ts, v :: vs, d :: ds, ps, ht, h, hlt => by
    obtain ⟨p, q, h1, h2, rfl⟩ := h
    obtain ⟨r1, r2⟩ := ht t (by simp)
    exact ⟨p, q, Below.trod laidOut r1 r2 h1 hb fun x hx => hlt x (List.mem_append_left _ hx), trodAll_below hb (fun t ht' => ht t (by simp [ht'])) h2 fun x hx => hlt x (List.mem_append_right _ hx), rfl⟩

end Go.Proofs.YtpihjohdjnmhpaaGreatDoor
