/-
  THE ROW OF EngineNone: for every input the call returns true, and each argument reads behind it as before. Conditions: the listed package-level variables read as the row lists them.
-/
import Derived.Test.YtpihjohdjnmhpaaGreatDoorFacts
import Derived.Test.YtpihjohdjnmhpaaGreatDoorRow
namespace Go.Proofs.YtpihjohdjnmhpaaGreatDoor
open Go Go.Am Go.ChangeShapes Go.WideShapes Go.ChangeAt Go.WideMaps Go.WideElems Go.RowKit

set_option maxRecDepth 100000 in
theorem lifted (os : Os) (started : os.Started) (H : Type) (enc : TypeId × Value → H) :
    ReturnsInHanded {} Tryz.checked os 3 .any (fun w args => (Rows.engineNoneSpec.pre enc Tryz.prog Tryz.f3 [] false w args ∧ laidMetH Tryz.prog lst w) ∧ sizedMet enc Tryz.prog Tryz.f3 (OpenSpec.ofChange Rows.engineNoneSpec) false w args)
      (Rows.engineNoneSpec.post enc Tryz.prog Tryz.f3 false true false false) := by
  refine returnsInHanded_of_change_and (C := Tryz.checked) (X := fun w _ => laidMetH Tryz.prog lst w) (fun _ _ _ hh h => h.of_heap hh) own started (by kernel_rfl) Tryz.func3
    (ChangeSpec.witness_shaped (enc := enc) (C := Tryz.checked) (os := os) (X := fun w _ => laidMetH Tryz.prog lst w) false (World.doorLaid Tryz.prog 400 os) wargs 8 rfl (World.shaped_of_RefB (witVars os) (witRows os)) (witOk os) (witPre os H enc) (witSized os H enc) (door_met os)) ?_
  intro W base args ds gs before hval0 hW _ _ hL _
  have hval : ∀ (j : Nat) t v, Tryz.f3.params[j]? = some t → args[j]? = some v → Value.okWide Tryz.prog W .any base t v := hval0
  have hW' := hW
  obtain ⟨p, q, hA0, hV, rfl, hfz, hnd⟩ := hW
  have hA : DataW.TrodAll enc Tryz.prog W 0 (fun _ => true) true Tryz.f3.params.toList args.toList ds p := hA0
  have hlt := hW'.lt
  obtain ⟨rfl, rfl⟩ := trodVars_none hV
  rw [Tryz.params3] at hval
  have hA4 : DataW.TrodAll enc Tryz.prog W 0 (fun _ => true) true [24, 26, 3, 9] args.toList ds p := by have := hA; rw [Tryz.params3] at this; exact this
  obtain ⟨v0, r0, d0, e0, p0, q0, hv0, rfl, rfl, h0, t0⟩ := trodAll_cons hA4
  obtain ⟨v1, r1, d1, e1, p1, q1, rfl, rfl, rfl, h1, t1⟩ := trodAll_cons t0
  obtain ⟨v2, r2, d2, e2, p2, q2, rfl, rfl, rfl, h2, t2⟩ := trodAll_cons t1
  obtain ⟨v3, r3, d3, e3, p3, q3, rfl, rfl, rfl, h3, t3⟩ := trodAll_cons t2
  have hr3 : r3 = [] ∧ e3 = [] := by
    cases r3 <;> cases e3 <;> first | exact ⟨rfl, rfl⟩ | exact t3.elim
  obtain ⟨rfl, rfl⟩ := hr3
  have hargs : args = #[v0, v1, v2, v3] := by apply Array.toList_inj.1; rw [hv0]
  subst hargs
  obtain ⟨c0, a0, s0, o0⟩ := agg_of_ok (by simp) (hval 0 24 v0 rfl rfl)
  obtain ⟨c1, a1, s1, o1⟩ := agg_of_ok (by simp) (hval 1 26 v1 rfl rfl)
  have o2 := plain_of_ok (by simp) (hval 2 3 v2 rfl rfl)
  have o3 := plain_of_ok (by simp) (hval 3 9 v3 rfl rfl)
  refine (calls (has_var hL) (given_args a0 s0 o0 a1 s1 o1 o2 o3)).mono fun e W' ⟨he, hb⟩ => ⟨_, he, ?_⟩
  have hread : ∀ t ∈ Tryz.f3.params.toList, Tryz.prog.readableRec t = true ∧ t < Tryz.prog.types.size := by
    intro t ht
    have := List.all_eq_true.1 readable t (by rw [Tryz.params3] at ht; exact ht)
    simpa using this
  have hlt' : ∀ x ∈ (p0 ++ (p1 ++ (p2 ++ (p3 ++ q3)))), x.block < W.heap.size := fun x hx => hlt x (by simpa using hx)
  refine ⟨[d0, d1, d2, d3], [], _, [], p0 ++ (p1 ++ (p2 ++ (p3 ++ q3))), [], hW', ?_, ?_, ?_, hb.frame _, fun h => by cases h⟩
  · exact trodAll_mk1 (shut_bool Tryz.underlying4 true)
  · exact trodAll_below hb hread hA hlt'
  · rfl
theorem holds_row : Rows.EngineNoneSaid :=
  OpenClaim.holds_of_wide 3 Tryz.f3 rfl rfl rfl rfl rfl rfl rfl ⟨rfl, rfl, rfl, rfl, rfl⟩ rfl rfl rfl rfl rfl (by kernel_rfl) Tryz.func3 rowClosed
    (of_decide_eq_true (by kernel_rfl)) (by unfold Func.isWrapper; first | (rw [if_pos (by decide +kernel)]; kernel_rfl) | (rw [if_neg (by decide +kernel)]; exact ⟨rfl, rfl⟩))
    (fun os started H enc _ => lifted os started H enc)
#print axioms holds_row
end Go.Proofs.YtpihjohdjnmhpaaGreatDoor
