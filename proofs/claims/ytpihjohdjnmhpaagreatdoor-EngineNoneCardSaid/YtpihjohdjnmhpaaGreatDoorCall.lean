/-
  EngineNone RETURNS true AND TURNS NOTHING THAT WAS THERE, whatever its four arguments hold, whatever the tape. Conditions: the variable strconv.ErrSyntax is one cell of memory that holds one value; the arguments are of their types.
-/
import Derived.Test.YtpihjohdjnmhpaaGreatDoorRun
import Derived.Test.YtpihjohdjnmhpaaGreatDoorRows
import Derived.Below
namespace Go.Proofs.YtpihjohdjnmhpaaGreatDoor
open Go Go.Am Go.RowKit

theorem follows : Tryz.prog.follows .mixedOrders = true := by kernel_rfl
theorem hasBody : Tryz.f3.body.isSome = true := by kernel_rfl
/-- one block is known to lie where it lies -/
def lies : Am.Loc := fun i => if i = 5 then some (5, 1) else none
theorem lies_some {i c n : Nat} (h : lies i = some (c, n)) : i = 5 ∧ c = 5 ∧ n = 1 := by
  unfold lies at h
  split at h
  · cases h; exact ⟨‹_›, rfl, rfl⟩
  · cases h
theorem start_heap {i : Nat} {o : AObj} (h : start.heap.get i = some o) : i = 5 ∧ o = .ro (PT.set .lf 0 (.chan (some 0))) 1 := by
  have h1 : (PT.set .lf 5 (.ro (PT.set .lf 0 (.chan (some 0))) 1)).get i = some o := h
  rw [PT.get_set] at h1
  split at h1
  · cases h1; exact ⟨‹_›, rfl⟩
  · rw [PT.get_lf] at h1; cases h1
theorem start_five : start.heap.get 5 = some (.ro (PT.set .lf 0 (.chan (some 0))) 1) := by
  show (PT.set PT.lf 5 (AObj.ro (PT.set .lf 0 (.chan (some 0))) 1)).get 5 = _
  exact PT.get_set_self _ _ _
/-- what is asked of memory: the variable's cell -/
def HasVar (W : World) : Prop := ∃ cs e fr, W.heap[5]? = some (.cells cs e fr) ∧ cs.size = 1 ∧ ∃ x : Value, cs[0]? = some x ∧ x.oneCell' = true
theorem start_rel {W : World} (h : HasVar W) : Rel lies start W := by
  obtain ⟨cs, e, fr, hc, hs, x, hx, ho⟩ := h
  refine ⟨fun i c n hi => ?_, fun i o hi => ?_, fun i j c n m hi hj hij => ?_, fun i t k e g hg => ?_, fun i o c n hi hM => ?_, fun i c n hi => ?_⟩
  · obtain ⟨rfl, rfl, rfl⟩ := lies_some hi
    exact ⟨by show 5 < 6; omega, (Array.getElem?_eq_some_iff.1 hc).1⟩
  · obtain ⟨rfl, _⟩ := start_heap hi; show 5 < 6; omega
  · exact absurd ((lies_some hi).1.trans (lies_some hj).1.symm) hij
  · obtain ⟨_, h2⟩ := start_heap hg; cases h2
  · obtain ⟨rfl, rfl⟩ := start_heap hi
    obtain ⟨_, rfl, rfl⟩ := lies_some hM
    refine ⟨_, hc, .ro _ cs e fr hs fun j v hj hv => ?_⟩
    rw [PT.get_set, PT.get_lf] at hv
    split at hv
    · subst_vars
      cases hv
      exact ⟨x, hx, .top _ _ ho, ho⟩
    · cases hv
  · obtain ⟨rfl, _⟩ := lies_some hi
    exact ⟨_, start_five⟩
theorem start_glob : GlobOk (envOf Tryz.prog [5]) lies := by
  intro g hg
  have h1 : g ∈ [5] := hg
  simp at h1
  subst h1
  exact ⟨1, rfl⟩
theorem yes_some {o : Outs (Value × AS)} (h : yes o = true) : ∃ S, o = some [(.bool true, S)] := by
  unfold yes at h
  split at h
  · exact ⟨_, rfl⟩
  · cases h
theorem given_args {M : Am.Loc} {v0 v1 v2 v3 : Value} {c0 c1 : Array Value} (h0 : v0 = .agg c0) (s0 : c0.size = 5) (o0 : ∀ x ∈ c0.toList, x.oneCell' = true) (h1 : v1 = .agg c1) (s1 : c1.size = 5) (o1 : ∀ x ∈ c1.toList, x.oneCell' = true)
    (h2 : v2.oneCell' = true) (h3 : v3.oneCell' = true) : VRL M given [v0, v1, v2, v3] := by
  have key : ∀ (c : Array Value) (ks : List Nat), c.size = ks.length → (∀ x ∈ c.toList, x.oneCell' = true) → VRL M (ks.map fun k => .chan (some k)) c.toList := by
    intro c ks hs ho
    refine VRL.of_get (by simp [hs]) fun i v w hv hw => ?_
    simp only [List.getElem?_map, Option.map_eq_some_iff] at hv
    obtain ⟨k, _, rfl⟩ := hv
    exact .top _ _ (ho w (List.mem_of_getElem? hw))
  subst h0 h1
  exact .cons _ _ _ _ (.agg _ _ (key c0 [1, 2, 3, 4, 5] s0 o0) o0) (.cons _ _ _ _ (.agg _ _ (key c1 [6, 7, 8, 9, 10] s1 o1) o1) (.cons _ _ _ _ (.top _ _ h2) (.cons _ _ _ _ (.top _ _ h3) .nil)))
theorem calls {W : World} (hv : HasVar W) {args : List Value} (ha : VRL lies given args) : Calls Tryz.prog 3 args.toArray W fun e W' => e = .returned (.bool true) ∧ Below W.heap.size W W' := by
  obtain ⟨S, hS⟩ := yes_some run
  obtain ⟨c, hc⟩ := Option.isSome_iff_exists.1 hasBody
  have h := calls_of_eval (E := envOf Tryz.prog [5]) (envOf_ok _ _ follows) [101, 472, 296] (f := 3) (fn := Tryz.f3) (c := c) Tryz.func3 hc hS (start_rel hv) start_glob ha
  refine Calls.mono h fun e W' he => ?_
  cases e with
  | returned v' =>
    obtain ⟨v, S', M', hm, hst, hvv⟩ := he
    have := List.mem_singleton.1 hm
    cases this
    refine ⟨by rw [hvv.bool_inv], hst.os, hst.tape, hst.output, hst.size, fun k hk => ?_⟩
    by_cases h5 : k = 5
    · subst h5; exact (hst.ro 5 _ _ start_five).2 5 1 rfl
    · exact hst.frame k hk fun i n hi => h5 (lies_some hi).2.1
  | panicked => exact he.elim
  | outgrown => exact he.elim
end Go.Proofs.YtpihjohdjnmhpaaGreatDoor
