/-
  WHAT THE EVALUATOR SAYS OF A REGION, in whatever order it is done, IS WHAT THE MODEL DOES. Conditions: the tables of the evaluator are the program's; the calls come to what the evaluator says.
-/
import Derived.Test.YtpihjohdjnmhpaaGreatDoorAmB
import Derived.AtR
import Derived.Orders
set_option autoImplicit false
set_option linter.unusedSectionVars false
set_option linter.unusedVariables false
set_option linter.unusedSimpArgs false
namespace Go.Am

/-! ## what a call comes to -/
/-- the frame above a deferred call does not panic -/
def Calm (kind : CallKind) (cs : List Frame) : Prop := kind = .normal ∨ (kind = .deferred ∧ ∃ c cs', cs = c :: cs' ∧ c.mode = .returning)
structure Leaves (P : Program) (fr : Frame) (f : FuncId) (kind : CallKind) (v : Value) (w : World) : Prop where
  mode : fr.mode = .returning
  defers : fr.defers = []
  kind : fr.kind = kind
  fn : fr.fn = f
  res : ∃ fn, P.funcs[f]? = some fn ∧ (results fn fr.tmps).run P w = .ok v w
def Goes (P : Program) : Next → World → (Value → World → Prop) → Prop
  | .value v, w, Post => Post v w
  | .skip, w, Post => Post undef w
  | .enter f args, w, Post => ∀ (kind : CallKind) (cs : List Frame), Calm kind cs →
      ∃ v w' fr, Post v w' ∧ Steps P (lone (Frame.enter P f args kind) cs w) (lone fr cs w') ∧ Leaves P fr f kind v w'
  | .round l f tmps asg body, w, Post => ∀ (c : Frame) (cs : List Frame),
      ∃ v w', Post v w' ∧ Steps P (lone (Frame.round l f tmps asg body .normal) (c :: cs) w) (lone (c.finish v) cs w')
  | _, _, _ => False
theorem Goes.mono {P : Program} {n : Next} {w : World} {Q Q' : Value → World → Prop} (h : Goes P n w Q) (hq : ∀ v w, Q v w → Q' v w) : Goes P n w Q' := by
  cases n <;> simp only [Goes] at h ⊢
  case value => exact hq _ _ h
  case skip => exact hq _ _ h
  case enter => exact fun k cs hc => let ⟨v, w', fr, h1, h2⟩ := h k cs hc; ⟨v, w', fr, hq _ _ h1, h2⟩
  case round => exact fun c cs => let ⟨v, w', h1, h2⟩ := h c cs; ⟨v, w', hq _ _ h1, h2⟩
def CallR (P : Program) (w : World) (s : Sem Next) (Post : Value → World → Prop) : Prop := ∃ n w1, s.run P w = .ok n w1 ∧ Goes P n w1 Post
theorem CallR.mono {P : Program} {w : World} {s : Sem Next} {Q Q' : Value → World → Prop} (h : CallR P w s Q) (hq : ∀ v w, Q v w → Q' v w) : CallR P w s Q' :=
  let ⟨n, w1, h1, h2⟩ := h; ⟨n, w1, h1, h2.mono hq⟩
inductive WhoR (M : Loc) : Who → Sem Next → Prop
  | fn (f : FuncId) (args args' : List Value) (h : VRL M args args') : WhoR M (.fn f args) (callFunc f args'.toArray)
  | yield (l c n : Nat) (args args' : List Value) (hM : M l = some (c, n)) (h : VRL M args args') : WhoR M (.yield l args) (Instr.yield c args'.toArray)
theorem WhoR.mono {M M' : Loc} (hle : M.le M') {a : Who} {s : Sem Next} (h : WhoR M a s) : WhoR M' a s := by
  cases h with
  | fn f a b h => exact .fn f a b (h.mono hle)
  | yield l c n a b hM h => exact .yield l c n a b (hle _ _ hM) (h.mono hle)
/-- what is owed of a call that came to one of outs -/
def After (M : Loc) (S : AS) (w : World) (outs : List (Value × AS)) (v' : Value) (w' : World) : Prop := ∃ v S' M', (v, S') ∈ outs ∧ Step M S w M' S' w' ∧ VR M' v v'
/-- the package-level variables lie at their own blocks -/
def GlobOk (E : Env) (M : Loc) : Prop := ∀ g, g ∈ E.ng → ∃ n, M g = some (g, n)
theorem GlobOk.mono {E : Env} {M M' : Loc} (hle : M.le M') (h : GlobOk E M) : GlobOk E M' := fun g hg => let ⟨n, hn⟩ := h g hg; ⟨n, hle _ _ hn⟩
def CallS (E : Env) (R : CallF) : Prop :=
  ∀ (who : Who) (S : AS) (outs : List (Value × AS)), R who S = some outs → ∀ (M : Loc) (w : World) (s : Sem Next), Rel M S w → GlobOk E M → WhoR M who s → CallR E.P w s (After M S w outs)

theorem bindL_some {α β : Type} {l : List α} {f : α → Outs β} {r : List β} (h : bindL l f = some r) : ∀ a ∈ l, ∃ r', f a = some r' ∧ ∀ x ∈ r', x ∈ r := by
  induction l generalizing r with
  | nil => intro a ha; cases ha
  | cons x l ih =>
    simp only [bindL] at h
    split at h
    · cases h
    · rename_i r1 hr1
      split at h
      · cases h
      · rename_i r2 hr2
        cases h
        intro a ha
        cases ha with
        | head => exact ⟨r1, hr1, fun x hx => List.mem_append_left _ hx⟩
        | tail _ ha => obtain ⟨r', h1, h2⟩ := ih hr2 a ha; exact ⟨r', h1, fun x hx => List.mem_append_right _ (h2 x hx)⟩
theorem Outs.bind_some {α β : Type} {x : Outs α} {f : α → Outs β} {r : List β} (h : Outs.bind x f = some r) : ∃ l, x = some l ∧ ∀ a ∈ l, ∃ r', f a = some r' ∧ ∀ x ∈ r', x ∈ r := by
  unfold Outs.bind at h
  split at h
  · cases h
  · rename_i a
    exact ⟨[a], rfl, fun b hb => by
      cases hb with
      | head => exact ⟨r, h, fun _ hx => hx⟩
      | tail _ hb => cases hb⟩
  · exact ⟨_, rfl, bindL_some h⟩

/-! ## steps -/
theorem leave_normal {P : Program} {fr c : Frame} {cs : List Frame} {w : World} {v : Value} {f : FuncId} (h : Leaves P fr f .normal v w) : step P (lone fr (c :: cs) w) = .next (lone (c.finish v) cs w) := by
  obtain ⟨hm, hd, hk, hfn, fn, hf, hr⟩ := h
  rw [← hfn] at hf
  exact step_lone_go (by simp [stepG, unwind, doReturn, hm, hd, hk, hf, hr])
theorem leave_deferred {P : Program} {fr c : Frame} {cs : List Frame} {w : World} {v : Value} {f : FuncId} (h : Leaves P fr f .deferred v w) (hc : c.mode = .returning) : step P (lone fr (c :: cs) w) = .next (lone c cs w) := by
  obtain ⟨hm, hd, hk, hfn, fn, hf, hr⟩ := h
  rw [← hfn] at hf
  exact step_lone_go (by simp [stepG, unwind, doReturn, hm, hd, hk, hf, hr, hc])
/-- a step that does s in the frame fr -/
theorem apply_goes {P : Program} {fr0 fr : Frame} {cs : List Frame} {w0 w w1 : World} {s : Sem Next} {n : Next} {Post : Value → World → Prop}
    (h0 : (stepG P true { frame := fr0, callers := cs, status := .running, dying := none } w0).bare = (stepG.apply P true fr cs none s w).bare)
    (hk : ∀ d r sv k, fr.todo ≠ .call d true r sv :: k) (hr : s.run P w = .ok n w1) (hg : Goes P n w1 Post) :
    ∃ v w', Post v w' ∧ Steps P (lone fr0 cs w0) (lone (fr.finish v) cs w') := by
  have hkind : (match fr.todo with | .call _ true _ _ :: _ => CallKind.wrapped | _ => .normal) = .normal := by
    split
    · rename_i h; exact absurd h (hk _ _ _ _)
    · rfl
  cases n <;> simp only [Goes] at hg
  case value v => exact ⟨v, w1, hg, .one (step_lone_go (by rw [h0]; simp [stepG.apply, hr]))⟩
  case skip => exact ⟨undef, w1, hg, .one (step_lone_go (by rw [h0]; simp [stepG.apply, hr]))⟩
  case enter f args =>
    obtain ⟨v, w', fr', hp, hs, hl⟩ := hg .normal (fr :: cs) (.inl rfl)
    refine ⟨v, w', hp, Steps.head (step_lone_go (by rw [h0]; simp only [stepG.apply, hr, Sem.runT_eq, if_true, GStep.bare_after, GStep.bare_go, hkind])) (hs.trans (.one (leave_normal hl)))⟩
  case round l f tmps asg body =>
    obtain ⟨v, w', hp, hs⟩ := hg fr cs
    exact ⟨v, w', hp, Steps.head (step_lone_go (by rw [h0]; simp only [stepG.apply, hr, Sem.runT_eq, if_true, GStep.bare_after, GStep.bare_go, hkind])) hs⟩

/-! ## who is called -/
section
variable {E : Env} {β : Type} (hE : EnvOk E)
include hE
theorem methK_S {M : Loc} {S : AS} {w : World} (hR : Rel M S w) {t : TypeId} {v v' : Value} (hv : VR M v v') {name : String} {kk : FuncId → Value → Option β} {r : β} (h : methK E S t v name kk = some r) :
    ∃ f u u', kk f u = some r ∧ VR M u u' ∧ ∀ rest : Array Value, (callMethod (.iface t v') name rest).run E.P w = (callFunc f (#[u'] ++ rest)).run E.P w := by
  have key : ∀ {f : FuncId} {p : Bool}, methOf E t name = some (f, p) → ∃ i m, E.P.info? t = some i ∧ i.methods.find? (·.name == name) = some m ∧ m.path.toList = [] ∧ m.func = some (f, p) := by
    intro f p hm
    unfold methOf at hm
    split at hm
    · cases hm
    · rename_i i hi
      split at hm
      · cases hm
      · rename_i m hf
        split at hm
        · rename_i hp; exact ⟨i, m, hE.ty _ _ hi, hf, hp, hm⟩
        · cases hm
  have run : ∀ {f : FuncId} {p : Bool} {u' : Value}, methOf E t name = some (f, p) → (∀ nm, (receiverAt t (.val v') p nm).run E.P w = .ok u' w) →
      ∀ rest : Array Value, (callMethod (.iface t v') name rest).run E.P w = (callFunc f (#[u'] ++ rest)).run E.P w := by
    intro f p u' hm hrec rest
    obtain ⟨i, m, hi, hf, hp, hfn⟩ := key hm
    have hmr : ∀ fuel, (method (fuel + 1) t v' name).run E.P w = .ok (f, u') w := by
      intro fuel
      have hpa : m.path = #[] := by apply Array.toList_inj.1; rw [hp]
      simp only [method, typeInfo, Sem.run_bind, program, Sem.run, hi, Result.andThen_ok, Sem.run_pure, hf, hp, follow, hfn, hrec]
    have hfu : ∃ fu, E.P.types.size + Made.depth = fu + 1 := ⟨_, (Nat.succ_pred_eq_of_pos (by unfold Made.depth; omega)).symm⟩
    obtain ⟨fu, hfu⟩ := hfu
    simp only [callMethod, Sem.run_bind, program, Sem.run, Result.andThen_ok, hfu, hmr]
  unfold methK at h
  split at h
  · rename_i f hm
    split at h
    · rename_i e hd
      refine ⟨f, v, v', h, hv, run hm fun nm => ?_⟩
      simp [receiverAt, run_underlying (hE.und hd), Place.get]
    · cases h
  · rename_i f hm
    split at h
    · rename_i e hd
      obtain ⟨u, u', c, off, hk, hu, hp, hl⟩ := loadV_val hE hR hv h
      refine ⟨f, u, u', hk, hu, run hm fun nm => ?_⟩
      subst hp
      cases nm with
      | none => simp [receiverAt, run_underlying (hE.und hd), Place.get, asAddr, hl]
      | some nm =>
        have hw : Builtin.ssaWrapNilChk_ #[t] t #[.pointer (some ⟨c, off, none⟩), strVal "", strVal nm] = pure (.pointer (some ⟨c, off, none⟩)) := rfl
        simp [receiverAt, run_underlying (hE.und hd), Place.get, asAddr, hl, hw]
    · rename_i d hnp hd
      refine ⟨f, v, v', h, hv, run hm fun nm => ?_⟩
      cases d <;> first | (exact (hnp _ rfl).elim) | simp [receiverAt, run_underlying (hE.und hd), Place.get]
    · cases h
  · cases h

theorem whoK_S {M : Loc} {S : AS} {w : World} (hR : Rel M S w) {fn gn : Fn} (hf : FnR M fn gn) {cap args args' : List Value} {cap' : Array Value} (hc : VRL M cap cap'.toList) (ha : VRL M args args')
    {kk : Who → Option β} {r : β} (h : whoK E S fn cap args kk = some r) :
    ∃ who s, kk who = some r ∧ WhoR M who s ∧ (invoke (.fn gn cap') args'.toArray).run E.P w = s.run E.P w := by
  unfold whoK at h
  split at h
  · rename_i f
    cases hf
    rw [appK_eq] at h
    refine ⟨_, _, h, .fn f _ _ (ha.append hc), ?_⟩
    simp only [invoke]
    congr 2
    apply Array.toList_inj.1
    simp
  · rename_i l
    cases hf with
    | yield _ c n hM => exact ⟨_, _, h, .yield l c n _ _ hM ha, rfl⟩
  · rename_i name
    cases hf
    split at h
    · rename_i t v rest
      cases ha with
      | cons _ w0 _ m hv ht =>
        obtain ⟨u, hu, rfl⟩ := hv.iface_inv
        obtain ⟨f, x, x', h1, h2, h3⟩ := methK_S hE hR hu h
        refine ⟨_, _, h1, .fn f _ (x' :: m) (.cons _ _ _ _ h2 ht), ?_⟩
        have : (Value.iface t u :: m).toArray.extract 1 (Value.iface t u :: m).toArray.size = m.toArray := by simp
        have h4 := h3 m.toArray
        simp only [invoke, List.getElem?_toArray, List.getElem?_cons_zero, this, h4]
        congr 2
        apply Array.toList_inj.1
        simp
    · cases h
  · cases h
theorem whoV_S {M : Loc} {S : AS} {w : World} (hR : Rel M S w) {f f' : Value} (hf : VR M f f') {args args' : List Value} (ha : VRL M args args')
    {kk : Who → Option β} {r : β} (h : whoV E S f args kk = some r) :
    ∃ who s, kk who = some r ∧ WhoR M who s ∧ (do let d ← Deferred.ofValue f' args'.toArray; invoke d.target d.args : Sem Next).run E.P w = s.run E.P w := by
  unfold whoV at h
  split at h
  · rename_i fn first cap
    obtain ⟨g, b, d, hfn, h1, h2, rfl⟩ := hf.func_inv
    rw [appK_eq] at h
    obtain ⟨who, s, g1, g2, g3⟩ := whoK_S hE hR hfn h2 (h1.append ha) h
    refine ⟨who, s, g1, g2, ?_⟩
    rw [← g3]
    simp only [Deferred.ofValue, Sem.run_bind, Sem.run_pure, Result.andThen_ok]
    congr 2
    apply Array.toList_inj.1
    simp
  · cases h
end
end Go.Am

namespace Go.Am

/-! ## slots -/
noncomputable def setDst (sz : Nat) (t : PT Value) (d : Option Tmp) (v : Value) : PT Value := match d with
  | none => t
  | some d => if d < sz then t.set d v else t
theorem setD_eq {β : Type} (sz : Nat) (d : Option Tmp) (t : PT Value) (v : Value) (k : PT Value → β) : (setD sz d).f t v k = k (setDst sz t d v) := by
  cases d with
  | none => rfl
  | some d =>
    have h1 : setDst sz t (some d) v = if d < sz then t.set d v else t := rfl
    rw [h1]
    unfold setD
    cases h : Nat.ble (Nat.succ d) sz with
    | true =>
      have : d < sz := ble_true.1 h
      rw [if_pos this]; simp only [h]; exact setW_succ _ _ _ _
    | false =>
      have : ¬ d < sz := fun h' => by rw [ble_true.2 (show Nat.succ d ≤ sz from h')] at h; cases h
      rw [if_neg this]; simp only [h]
theorem setDst_get {sz : Nat} {t : PT Value} {d : Tmp} {v : Value} {i : Nat} : (setDst sz t (some d) v).get i = if i = d ∧ d < sz then some v else t.get i := by
  have h1 : setDst sz t (some d) v = if d < sz then t.set d v else t := rfl
  rw [h1]
  split
  · rename_i h; rw [PT.get_set]; split
    · rename_i h1; rw [if_pos ⟨h1, h⟩]
    · rename_i h1; rw [if_neg (fun h2 => h1 h2.1)]
  · rename_i h; rw [if_neg (fun h2 => h h2.2)]
theorem getD_set (a : Array Value) (d i : Nat) (v : Value) : (a.setIfInBounds d v).getD i undef = if i = d ∧ d < a.size then v else a.getD i undef := by
  simp only [Array.getD_eq_getD_getElem?, Array.getElem?_setIfInBounds]
  by_cases h1 : d = i
  · subst h1
    by_cases h2 : d < a.size
    · simp [h2]
    · simp [h2]
  · simp [h1, Ne.symm h1]
theorem TmR.set {M : Loc} {sz : Nat} {t : PT Value} {a : Act} (h : TmR M sz t a.tmps) {v v' : Value} (hv : VR M v v') (d : Option Tmp) : TmR M sz (setDst sz t d v) (a.put d v').tmps := by
  cases d with
  | none => exact h
  | some d =>
    refine ⟨by simp [Act.put, h.1], fun i => ?_⟩
    simp only [Act.put]
    rw [getD_set, setDst_get, h.1]
    split
    · exact hv
    · exact h.2 i
theorem VR.undef (M : Loc) : VR M undefV undef := .tuple _ _ .nil
theorem TmR.ev {M : Loc} {sz : Nat} {t : PT Value} {a : Act} {E : Env} (hg : GlobOk E M) (h : TmR M sz t a.tmps) (x : Operand) : VR M (evA E.ng t x) (a.eval x) := by
  cases x with
  | tmp n => exact h.2 n
  | const v =>
    simp only [evA, Act.eval]
    split
    · rename_i hv; exact VR.of_gnd hv
    · exact .any _ _ _ _
  | global g =>
    simp only [evA, Act.eval]
    split
    · rename_i hv
      obtain ⟨n, hn⟩ := hg g ((memb_iff _ _).1 hv)
      exact .ptr _ _ _ _ hn
    · exact .any _ _ _ _
  | func f => exact .func _ _ _ _ _ _ (.func f) .nil .nil

/-! ## the next entry of a map -/
theorem filterB_eq (f : MapEntry → Bool) (l : List MapEntry) : filterB f l = l.filter f := by
  induction l with
  | nil => rfl
  | cons e l ih =>
    simp only [filterB, ifB_eq, List.filter_cons, ih]
theorem LR.filter {M : Loc} {p : MapEntry → Bool} {a b : List MapEntry} (h : LR (EntR M) a b) (hp : ∀ x y : MapEntry, x.born = y.born → p x = p y) : LR (EntR M) (a.filter p) (b.filter p) := by
  induction h with
  | nil => exact .nil
  | cons x y l m hx _ ih =>
    have := hp x y hx.2.2.symm
    simp only [List.filter_cons, this]
    split
    · exact .cons _ _ _ _ hx ih
    · exact ih
theorem LR.mem {M : Loc} {a b : List MapEntry} (h : LR (EntR M) a b) {y : MapEntry} (hy : y ∈ b) : ∃ x ∈ a, EntR M x y := by
  induction h with
  | nil => cases hy
  | cons x z l m hx _ ih =>
    cases hy with
    | head => exact ⟨x, by simp, hx⟩
    | tail _ hy => obtain ⟨u, h1, h2⟩ := ih hy; exact ⟨u, by simp [h1], h2⟩
theorem allGe_eq (last : Nat) (l : List MapEntry) : allGe last l = l.all (fun e => decide (e.born ≥ last)) := by
  induction l with
  | nil => rfl
  | cons e l ih =>
    simp only [allGe, List.all_cons, ih]
    congr 1
    cases h : Nat.ble last e.born with
    | true => simp; exact ble_true.1 h
    | false => simp; rcases Nat.lt_or_ge e.born last with h1 | h1
               · exact h1
               · rw [ble_true.2 h1] at h; cases h
theorem LR.all {M : Loc} {p : MapEntry → Bool} {a b : List MapEntry} (h : LR (EntR M) a b) (hp : ∀ x y : MapEntry, x.born = y.born → p x = p y) : a.all p = b.all p := by
  induction h with
  | nil => rfl
  | cons x y l m hx _ ih => simp only [List.all_cons, ih, hp x y hx.2.2.symm]

theorem aNext_S {P : Program} {S : AS} {M : Loc} {w : World} (hR : Rel M S w) {it it' : Value} (hit : VR M it it') {l : List (Value × AS)} (h : aNext S it = some l) (ty : TypeId) :
    ∃ v S', (v, S') ∈ l ∧ ∃ v' w', (Instr.next it' false ty).run P w = .ok v' w' ∧ Step M S w M S' w' ∧ VR M v v' := by
  unfold aNext at h
  split at h
  case h_2 => cases h
  rename_i r
  obtain ⟨_, c, n, hM, rfl⟩ := hit.ptr_inv
  split at h
  · rename_i a b d hg
    obtain ⟨p, hp, ho⟩ := hR.obj _ _ _ _ hg hM
    cases ho with
    | iter0 _ _ _ seen' hs =>
      cases h
      refine ⟨_, _, List.mem_singleton.2 rfl, .tuple #[.bool false], w, ?_, Step.refl hR, .tuple _ _ (.cons _ _ _ _ (.bool _) .nil)⟩
      simp [Instr.next, Sem.run, getObj, hp]
  · rename_i m since seen last hg
    obtain ⟨p, hp, ho⟩ := hR.obj _ _ _ _ hg hM
    cases ho with
    | iter _ c2 n2 _ _ _ seen' hM2 hs =>
      split at h
      case h_2 => cases h
      rename_i es clock hmo
      have hget := mapOf_some hmo
      obtain ⟨es', hc, hl⟩ := hR.map hget hM2
      rw [ifB_eq] at h
      split at h
      · cases h
      rename_i hdead
      -- the entries that are left
      have hcont : ∀ e : MapEntry, (!(memb e.born seen)) = !seen'.contains e.born := by
        intro e
        congr 1
        rw [Bool.eq_iff_iff, memb_iff, ← hs]
        simp
      have hdead' : (!seen'.isEmpty && !es'.isEmpty && es'.all (fun e => decide (e.born ≥ last))) = false := by
        have h1 : nextDead last seen es = false := by simpa using hdead
        cases hs' : seen' with
        | mk sl => cases sl with
          | nil => simp
          | cons a sl =>
            have hne : seen ≠ [] := by rw [← hs, hs']; simp
            cases hse : seen with
            | nil => exact absurd hse hne
            | cons q seen2 =>
              cases hes : es with
              | nil =>
                rw [hes] at hl
                have : es'.toList = [] := by
                  generalize es'.toList = z at hl
                  cases hl; rfl
                have : es' = #[] := by apply Array.toList_inj.1; simpa using this
                simp [this]
              | cons e0 es2 =>
                rw [hse, hes] at h1
                simp only [nextDead] at h1
                rw [← hes, allGe_eq] at h1
                have h2 := hl.all (p := fun e => decide (e.born ≥ last)) (fun x y hxy => by simp only [hxy])
                rw [h1] at h2
                have h3 : es'.all (fun e => decide (e.born ≥ last)) = false := by
                  rw [← Array.all_toList]; exact h2.symm
                rw [h3]; simp
      dsimp only at h
      rw [filterB_eq, filterB_eq] at h
      have hfil : es.filter (fun e => !(memb e.born seen)) = es.filter (fun e => !seen'.contains e.born) := by congr 1; funext e; exact hcont e
      rw [hfil] at h
      have hleft := hl.filter (p := fun e => !seen'.contains e.born) (fun x y hxy => by simp only [hxy])
      generalize hA : es.filter (fun e => !seen'.contains e.born) = left at h hleft
      have hold := hleft.filter (p := fun e => decide (e.born < since)) (fun x y hxy => by simp only [hxy])
      have hble : (fun e : MapEntry => Nat.ble (Nat.succ e.born) since) = fun e => decide (e.born < since) := by
        funext e
        cases hb : Nat.ble (Nat.succ e.born) since with
        | true => simp; exact ble_true.1 hb
        | false => simp; rcases Nat.lt_or_ge e.born since with h1 | h1
                   · rw [ble_true.2 (show Nat.succ e.born ≤ since from h1)] at hb; cases hb
                   · exact h1
      rw [hble] at h
      generalize hB : left.filter (fun e => decide (e.born < since)) = old at h hold
      -- what h says
      obtain ⟨l1, hb1, hl1⟩ : ∃ l1, bindL left (nextStep r m since seen clock S) = some l1 ∧ l = ifB old.isEmpty ((.tuple #[.bool false], S) :: l1) l1 := by
        unfold consO at h
        split at h
        · cases h
        · rename_i l1 hb; cases h; exact ⟨l1, hb, rfl⟩
      -- the machine's side
      have hfilc : (es'.filter fun e => !seen'.contains e.born).toList = es'.toList.filter fun e => !seen'.contains e.born := by simp
      generalize hC : (es'.filter fun e => !seen'.contains e.born) = left' at hfilc
      rw [← hfilc] at hleft hold
      have hnext := (show Instr.next (.pointer (some ⟨c, 0, none⟩)) false ty = (getObj c >>= _) from rfl)
      have hgo1 : (getObj c).run P w = .ok (.mapIter (some c2) since seen' last) w := by simp [getObj, Sem.run, hp]
      have hgo2 : (getObj c2).run P w = .ok (.map es' clock) w := by simp [getObj, Sem.run, hc]
      generalize hcand : ((if (left'.filter (fun e => decide (e.born < since))).isEmpty then #[none] else #[]) ++ ((left'.filter (fun e => decide (e.born < since))) ++ (left'.filter (fun e => decide (e.born ≥ since)))).map some : Array (Option MapEntry)) = cand
      have hrun : ∀ (i : Nat) (w1 : World), (choose (.mapNext cand.size)).run P w = .ok i w1 →
          (Instr.next (.pointer (some ⟨c, 0, none⟩)) false ty).run P w = (match cand[i]? with
            | some (some e) => (do setObj c (.mapIter (some c2) since (seen'.push e.born) clock); pure (.tuple #[.bool true, e.key, e.val]) : Sem Value)
            | some none => (pure (.tuple #[.bool false]) : Sem Value)
            | none => stuck "Next: no such candidate").run P w1 := by
        intro i w1 hi
        rw [hnext]
        simp only [Sem.run_bind, hgo1, hgo2, Result.andThen_ok, hdead', hC, hcand, hi, Bool.false_eq_true, if_false]
        rfl
      have hne : 0 < cand.size := by
        rw [← hcand]
        by_cases he : (left'.filter (fun e => decide (e.born < since))).isEmpty
        · rw [if_pos he]; simp only [Array.size_append, List.size_toArray, List.length_cons]; omega
        · have : 0 < (left'.filter (fun e => decide (e.born < since))).size := by
            rcases Nat.eq_zero_or_pos (left'.filter (fun e => decide (e.born < since))).size with h0 | h0
            · exact absurd (by simpa [Array.isEmpty] using h0) he
            · exact h0
          simp only [Array.size_append, Array.size_map]; omega
      obtain ⟨i, w1, hi, hlt, hw1⟩ : ∃ i w1, (choose (.mapNext cand.size)).run P w = .ok i w1 ∧ i < cand.size ∧ (w1 = w ∨ w1 = { w with drawn := w.drawn + 1 }) := by
        by_cases hf : cand.size ≤ 1
        · exact ⟨0, w, by simp [choose, Sem.run, Question.forced, hf], hne, .inl rfl⟩
        · exact ⟨w.tape w.drawn (.mapNext cand.size) % cand.size, { w with drawn := w.drawn + 1 }, by simp [choose, Sem.run, Question.forced, hf, Question.cut], Nat.mod_lt _ hne, .inr rfl⟩
      have hR1 : Rel M S w1 := by rcases hw1 with rfl | rfl; exact hR; exact hR.drawn _
      have hst1 : Step M S w M S w1 := by rcases hw1 with rfl | rfl; exact Step.refl hR; exact (Step.refl hR).drawn _
      have hh1 : w1.heap = w.heap := by rcases hw1 with rfl | rfl <;> rfl
      have hrun := hrun i w1 hi
      cases hce : cand[i]? with
      | none => rw [Array.getElem?_eq_getElem hlt] at hce; cases hce
      | some x =>
        rw [hce] at hrun
        have hmem : x ∈ cand := Array.mem_of_getElem? hce
        rw [← hcand] at hmem
        cases x with
        | none =>
          have hemp : (left'.filter (fun e => decide (e.born < since))).isEmpty = true := by
            by_cases he : (left'.filter (fun e => decide (e.born < since))).isEmpty
            · exact he
            · simp [he] at hmem
          have hemp' : old.isEmpty = true := by
            have h1 : left'.toList.filter (fun e => decide (e.born < since)) = [] := by
              have : (left'.filter (fun e => decide (e.born < since))).toList = left'.toList.filter (fun e => decide (e.born < since)) := by simp
              rw [← this]
              simpa [Array.isEmpty] using hemp
            rw [h1] at hold
            have hlen := hold.length
            cases old with
            | nil => rfl
            | cons => simp at hlen
          refine ⟨.tuple #[.bool false], S, by rw [hl1, hemp', ifB_true]; simp, .tuple #[.bool false], w1, by rw [hrun]; rfl, hst1, .tuple _ _ (.cons _ _ _ _ (.bool _) .nil)⟩
        | some e =>
          have he : e ∈ left'.toList := by
            rcases Array.mem_append.1 hmem with h1 | h1
            · split at h1 <;> simp at h1
            · obtain ⟨e', h2, h3⟩ := Array.mem_map.1 h1
              cases h3
              rcases Array.mem_append.1 h2 with h4 | h4 <;> exact Array.mem_toList_iff.2 (Array.mem_filter.1 h4).1
          obtain ⟨x, hx1, hx2⟩ := hleft.mem he
          obtain ⟨r', hr1, hr2⟩ := bindL_some hb1 x hx1
          unfold nextStep at hr1
          rw [AS.put_eq] at hr1
          cases hr1
          have hobj : ObjR M S.fams r n (.iter (some m) since (x.born :: seen) clock) (.mapIter (some c2) since (seen'.push e.born) clock) :=
            .iter m c2 n2 since clock _ _ hM2 (by rw [Array.toList_push, List.reverse_append, hs, hx2.2.2]; rfl)
          have hst2 := hR1.put (o' := .iter (some m) since (x.born :: seen) clock) hg hM trivial trivial hobj
          refine ⟨_, _, by
            rw [hl1, ifB_eq]
            have := hr2 _ (List.mem_singleton.2 rfl)
            split
            · exact List.mem_cons_of_mem _ this
            · exact this, .tuple #[.bool true, e.key, e.val], _, ?_, hst1.trans hst2, .tuple _ _ (.cons _ _ _ _ (.bool _) (.cons _ _ _ _ hx2.1 (.cons _ _ _ _ hx2.2.1 .nil)))⟩
          rw [hrun]
          have hset : (setObj c (.mapIter (some c2) since (seen'.push e.born) clock)).run P w1 = .ok () { w1 with heap := w1.heap.setIfInBounds c (.mapIter (some c2) since (seen'.push e.born) clock) } := by
            have : w1.heap[c]? = some (.mapIter (some c2) since seen' last) := by rw [hh1]; exact hp
            simp [setObj, Sem.run, this]
          simp only [Sem.run_bind, hset, Result.andThen_ok, Sem.run_pure]
  · cases h
end Go.Am

namespace Go.Am

/-! ## one operation of a region -/
theorem op_apply {P : Program} {b : Frame} {a : Act} {ops : Array Oper} {i : Nat} {rest : List Nat} {k : List Item} {cs : List Frame} {w w1 : World} {o : Oper} {n : Next} {Post : Value → World → Prop}
    (ho : ops[i]? = some o) (hw : Region.wanted o (yielded ops a.tmps) = true) (hd : ∀ c, o.op ≠ .defer c) (hr : (execOp a.eval o).run P w = .ok n w1) (hg : Goes P n w1 Post) :
    ∃ v w', Post v w' ∧ Steps P (lone (b.atR a (.inRegion ops (i :: rest) :: k)) cs w) (lone (b.atR (a.put o.dst v) (.inRegion ops rest :: k)) cs w') := by
  obtain ⟨v, w', h1, h2⟩ := apply_goes (P := P) (fr0 := b.atR a (.inRegion ops (i :: rest) :: k)) (fr := b.atR a (.inRegion ops (i :: rest) :: k)) (cs := cs) (w0 := w) (w := w) (s := o.semAt b.roundOf a.eval) (n := n) (w1 := w1) (Post := Post)
    (by rw [stepGR_op ho hw]) (by intro d r sv k' h; simp [Frame.atR] at h) (by rw [Oper.semAt_eq _ _ _ hd]; exact hr) hg
  refine ⟨v, w', h1, ?_⟩
  rw [Frame.finish_atR, ho] at h2
  exact h2
theorem op_defer {P : Program} {b : Frame} {a : Act} {ops : Array Oper} {i : Nat} {rest : List Nat} {k : List Item} {cs : List Frame} {w w1 : World} {o : Oper} {d : Deferred}
    (ho : ops[i]? = some o) (hw : Region.wanted o (yielded ops a.tmps) = true) (hb : b.roundOf = none) (hr : (execOp a.eval o).run P w = .ok (.defer d) w1) :
    Steps P (lone (b.atR a (.inRegion ops (i :: rest) :: k)) cs w) (lone (b.atR (Act.put ⟨a.tmps, d :: a.defers⟩ o.dst undef) (.inRegion ops rest :: k)) cs w1) := by
  have hs : (stepG P true { frame := b.atR a (.inRegion ops (i :: rest) :: k), callers := cs, status := .running, dying := none } w) = stepG.apply P true (b.atR a (.inRegion ops (i :: rest) :: k)) cs none (execOp a.eval o) w := by
    rw [stepGR_op ho hw, hb]; rfl
  have hf : ({ b.atR a (.inRegion ops (i :: rest) :: k) with defers := d :: (b.atR a (.inRegion ops (i :: rest) :: k)).defers } : Frame).finish undef = b.atR (Act.put ⟨a.tmps, d :: a.defers⟩ o.dst undef) (.inRegion ops rest :: k) := by
    have := Frame.finish_atR b ⟨a.tmps, d :: a.defers⟩ ops i rest k undef
    rw [ho] at this
    exact this
  rw [← hf]
  exact .one (step_lone_go (by rw [hs]; simp [stepG.apply, hr]))
theorem op_recover {P : Program} {b : Frame} {a : Act} {ops : Array Oper} {i : Nat} {rest : List Nat} {k : List Item} {cs : List Frame} {w w1 : World} {o : Oper}
    (ho : ops[i]? = some o) (hw : Region.wanted o (yielded ops a.tmps) = true) (hd : ∀ c, o.op ≠ .defer c) (hb : b.roundOf = none) (hc : Calm b.kind cs) (hr : (execOp a.eval o).run P w = .ok .recover w1) :
    Steps P (lone (b.atR a (.inRegion ops (i :: rest) :: k)) cs w) (lone (b.atR (a.put o.dst .nilIface) (.inRegion ops rest :: k)) cs w1) := by
  have hs : (stepG P true { frame := b.atR a (.inRegion ops (i :: rest) :: k), callers := cs, status := .running, dying := none } w) = stepG.apply P true (b.atR a (.inRegion ops (i :: rest) :: k)) cs none (execOp a.eval o) w := by
    rw [stepGR_op ho hw, Oper.semAt_eq _ _ _ hd]
  have hf := Frame.finish_atR b a ops i rest k .nilIface
  rw [ho] at hf
  have hf' : (b.atR a (.inRegion ops (i :: rest) :: k)).finish .nilIface = b.atR (a.put o.dst .nilIface) (.inRegion ops rest :: k) := hf
  rw [← hf']
  have hro : (b.atR a (.inRegion ops (i :: rest) :: k)).roundOf = none := hb
  have htr : tryRecover (b.atR a (.inRegion ops (i :: rest) :: k)) cs = none := by
    have hk : (b.atR a (.inRegion ops (i :: rest) :: k)).kind = b.kind := rfl
    rcases hc with h | ⟨h, c, cs', rfl, hm⟩
    · unfold tryRecover; rw [hk, h]
    · unfold tryRecover; rw [hk, h]; simp [hm]
  exact .one (step_lone_go (by rw [hs]; simp [stepG.apply, hr, hro, htr]))

/-- what is owed of an operation, calls and all -/
def OperS (E : Env) (sz : Nat) (rnd : Bool) (f : OpsF) (o : Oper) : Prop :=
  ∀ (R : CallF), CallS E R → ∀ (t : PT Value) (ds : List Deferred) (S : AS) (kk : K3) (outs : List Out), f R t ds S kk = some outs →
    ∀ (M : Loc) (w : World) (a : Act) (b : Frame) (ops : Array Oper) (i : Nat) (rest : List Nat) (k : List Item) (cs : List Frame),
    Rel M S w → GlobOk E M → (∀ x ∈ o.op.operands, VR M (evA E.ng t x) (a.eval x)) → LR (DefR M) ds a.defers → Calm b.kind cs → b.roundOf.isSome = rnd → ops[i]? = some o → Region.wanted o (yielded ops a.tmps) = true →
    ∃ v ds' S' outs', kk (setDst sz t o.dst v) ds' S' = some outs' ∧ (∀ x ∈ outs', x ∈ outs) ∧
      ∃ v' defs' w' M', Steps E.P (lone (b.atR a (.inRegion ops (i :: rest) :: k)) cs w) (lone (b.atR (Act.put ⟨a.tmps, defs'⟩ o.dst v') (.inRegion ops rest :: k)) cs w') ∧
        Step M S w M' S' w' ∧ VR M' v v' ∧ LR (DefR M') ds' defs'
section
variable {E : Env} (hE : EnvOk E) (sz : Nat) (rnd : Bool)
include hE
omit hE in
theorem noO_S (o : Oper) : OperS E sz rnd noO.f o := fun _ _ _ _ _ _ _ h => by cases h
theorem LRdef_mono {M M' : Loc} (hle : M.le M') {a b : List Deferred} (h : LR (DefR M) a b) : LR (DefR M') a b := h.mono fun _ _ => DefR.mono hle
/-- an operation that is no call -/
theorem plain_S {o : Oper} {f : OpF (List Out)} (hf : OpS E f o.op) (hd : ∀ c, o.op ≠ .defer c) :
    OperS E sz rnd (fun _ t ds S kk => f t S fun v S => (setD (β := OO) sz o.dst).f t v fun t => kk t ds S) o := by
  intro R hRc t ds S kk outs h M w a b ops i rest k cs hR hG hρ hds hcalm hro ho hw
  obtain ⟨v, S', h1, n, v', w', M', h2, h3, h4, h5⟩ := hf t S _ outs h M w a.eval hR hρ o rfl
  rw [setD_eq] at h1
  have hg : Goes E.P n w' (fun v w => v = v' ∧ w = w') := by
    cases h3 with
    | value v => exact ⟨rfl, rfl⟩
    | skip => exact ⟨rfl, rfl⟩
  obtain ⟨u, w2, ⟨rfl, rfl⟩, hs⟩ := op_apply (b := b) (rest := rest) (k := k) (cs := cs) ho hw hd h2 hg
  exact ⟨v, ds, S', outs, h1, fun _ hx => hx, u, a.defers, w2, M', hs, h4, h5, LRdef_mono hE h4.le hds⟩
/-- an operation that is a call -/
theorem called_S {o : Oper} {R : CallF} (hRc : CallS E R) {t : PT Value} {ds : List Deferred} {S : AS} {kk : K3} {outs : List Out} {who : Who} {s : Sem Next}
    (h : Outs.bind (R who S) (fun x => (setD (β := OO) sz o.dst).f t x.1 fun t => kk t ds x.2) = some outs)
    {M : Loc} {w : World} {a : Act} {b : Frame} {ops : Array Oper} {i : Nat} {rest : List Nat} {k : List Item} {cs : List Frame}
    (hR : Rel M S w) (hG : GlobOk E M) (hds : LR (DefR M) ds a.defers) (ho : ops[i]? = some o) (hw : Region.wanted o (yielded ops a.tmps) = true) (hd : ∀ c, o.op ≠ .defer c) (hwho : WhoR M who s)
    (hs : (execOp a.eval o).run E.P w = s.run E.P w) :
    ∃ v ds' S' outs', kk (setDst sz t o.dst v) ds' S' = some outs' ∧ (∀ x ∈ outs', x ∈ outs) ∧
      ∃ v' defs' w' M', Steps E.P (lone (b.atR a (.inRegion ops (i :: rest) :: k)) cs w) (lone (b.atR (Act.put ⟨a.tmps, defs'⟩ o.dst v') (.inRegion ops rest :: k)) cs w') ∧
        Step M S w M' S' w' ∧ VR M' v v' ∧ LR (DefR M') ds' defs' := by
  obtain ⟨l, hl, hall⟩ := Outs.bind_some h
  obtain ⟨n, w1, hrun, hg⟩ := hRc who S l hl M w s hR hG hwho
  rw [← hs] at hrun
  obtain ⟨v', w', ⟨v, S', M', hm, hst, hv⟩, hsteps⟩ := op_apply (b := b) (rest := rest) (k := k) (cs := cs) ho hw hd hrun hg
  obtain ⟨outs', h1, h2⟩ := hall _ hm
  rw [setD_eq] at h1
  exact ⟨v, ds, S', outs', h1, h2, v', a.defers, w', M', hsteps, hst, hv, LRdef_mono hE hst.le hds⟩
theorem callArgs {args : Array Operand} {t : PT Value} {M : Loc} {ρ : Operand → Value} (h : ∀ x ∈ args, VR M (evA E.ng t x) (ρ x)) : VRL M (args.toList.map (evA E.ng t)) (args.map ρ).toList := by
  have := VRL.of_map (M := M) hE (ng := E.ng) (t := t) (ρ := ρ) args.toList (fun x hx => h x (by simpa using hx))
  simpa using this
theorem callV_S (o : Oper) (f : Operand) (args : Array Operand) (at_ : Array TypeId) (ho' : o.op = .call { callee := .value f, args, argTypes := at_ }) : OperS E sz rnd (callV E sz f args.toList o.dst).f o := by
  intro R hRc t ds S kk outs h M w a b ops i rest k cs hR hG hρ hds hcalm hro ho hw
  have h1 : (evW (β := OO) E.ng f).f t (fun fv => (evsW (β := OO) E.ng args.toList).f t fun as => whoV E S fv as fun wh => Outs.bind (R wh S) fun x => (setD (β := OO) sz o.dst).f t x.1 fun t => kk t ds x.2) = some outs := h
  rw [evW_eq, evsW_eq] at h1
  have hop : ∀ x, x = f ∨ x ∈ args → VR M (evA E.ng t x) (a.eval x) := fun x hx => hρ x (by rw [ho']; simp [Op.operands, Call.operands]; exact hx)
  obtain ⟨who, s, g1, g2, g3⟩ := whoV_S hE hR (hop f (.inl rfl)) (callArgs hE fun x hx => hop x (.inr hx)) h1
  refine called_S hE sz hRc g1 hR hG hds ho hw (by rw [ho']; simp) g2 ?_
  rw [Array.toArray_toList] at g3
  rw [← g3]
  unfold execOp; rw [ho']
  simp only [resolve]
theorem callI_S (o : Oper) (r : Operand) (name : String) (args : Array Operand) (at_ : Array TypeId) (ho' : o.op = .call { callee := .invoke r name, args, argTypes := at_ }) : OperS E sz rnd (callI E sz r name args.toList o.dst).f o := by
  intro R hRc t ds S kk outs h M w a b ops i rest k cs hR hG hρ hds hcalm hro ho hw
  have h1 : (evW (β := OO) E.ng r).f t (fun rv => (evsW (β := OO) E.ng args.toList).f t fun as => invokeV E S rv name as fun wh => Outs.bind (R wh S) fun x => (setD (β := OO) sz o.dst).f t x.1 fun t => kk t ds x.2) = some outs := h
  rw [evW_eq, evsW_eq] at h1
  have hop : ∀ x, x = r ∨ x ∈ args → VR M (evA E.ng t x) (a.eval x) := fun x hx => hρ x (by rw [ho']; simp [Op.operands, Call.operands]; exact hx)
  have hr := hop r (.inl rfl)
  unfold invokeV at h1
  split at h1
  · rename_i ty v hv
    rw [hv] at hr
    obtain ⟨u, hu, he⟩ := hr.iface_inv
    obtain ⟨f, x, x', g1, g2, g3⟩ := methK_S hE hR hu h1
    refine called_S hE sz hRc g1 hR hG hds ho hw (by rw [ho']; intro c hc; cases hc) (.fn f _ (x' :: (args.map a.eval).toList) (.cons _ _ _ _ g2 (callArgs hE fun x hx => hop x (.inr hx)))) ?_
    have : (x' :: (args.map a.eval).toList).toArray = #[x'] ++ args.map a.eval := by apply Array.toList_inj.1; rw [Array.toList_append]; rfl
    rw [this, ← g3]
    unfold execOp; rw [ho']
    have e1 : (#[Value.iface ty u] ++ args.map a.eval)[0]? = some (.iface ty u) := by rw [Array.getElem?_append_left (Nat.zero_lt_one)]; rfl
    have e2 : (#[Value.iface ty u] ++ args.map a.eval).extract 1 (#[Value.iface ty u] ++ args.map a.eval).size = args.map a.eval := by
      apply Array.toList_inj.1; simp [List.take_of_length_le]
    simp only [resolve, he, Sem.run_bind, Sem.run_pure, Result.andThen_ok, invoke, e1, e2]
  · cases h1
theorem callRec_S (o : Oper) (args : Array Operand) (at_ : Array TypeId) (ho' : o.op = .call { callee := .builtin .recover, args, argTypes := at_ }) : OperS E sz rnd (callR sz rnd o.dst).f o := by
  cases rnd with
  | true => exact noO_S sz true o
  | false =>
    intro R hRc t ds S kk outs h M w a b ops i rest k cs hR hG hρ hds hcalm hro ho hw
    have h1 : (setD (β := OO) sz o.dst).f t .nilIface (fun t => kk t ds S) = some outs := h
    rw [setD_eq] at h1
    have hb : b.roundOf = none := by cases hbb : b.roundOf with | none => rfl | some x => rw [hbb] at hro; cases hro
    have hrun : (execOp a.eval o).run E.P w = .ok .recover w := by
      unfold execOp; rw [ho']; simp [resolve, invoke, builtin]
    exact ⟨.nilIface, ds, S, outs, h1, fun _ hx => hx, .nilIface, a.defers, w, M, op_recover ho hw (by rw [ho']; simp) hb hcalm hrun, Step.refl hR, .nilIface, hds⟩
theorem callW_S (o : Oper) (c : Call) (ho' : o.op = .call c) : OperS E sz rnd (callW E sz rnd c o.dst).f o := by
  obtain ⟨callee, args, at_⟩ := c
  unfold callW
  simp only
  split
  · rename_i f; exact callV_S hE sz rnd o f args at_ ho'
  · rename_i r name; exact callI_S hE sz rnd o r name args at_ ho'
  · exact callRec_S hE sz rnd o args at_ ho'
  · rename_i bi hne
    intro R hRc t ds S kk outs h M w a b ops i rest k cs hR hG hρ hds hcalm hro ho hw
    have h1 : (evsW (β := OO) E.ng args.toList).f t (fun as => (biW (β := List Out) E bi at_).f S as fun v S => (setD (β := OO) sz o.dst).f t v fun t => kk t ds S) = some outs := h
    rw [evsW_eq] at h1
    have hop : ∀ x, x ∈ args → VR M (evA E.ng t x) (a.eval x) := fun x hx => hρ x (by rw [ho']; simp [Op.operands, Call.operands]; exact hx)
    obtain ⟨v, S', g1, v', w', M', g2, g3, g4⟩ := callB_S hE bi args at_ t S _ outs h1 M w a.eval hR hop o ho'
    rw [setD_eq] at g1
    obtain ⟨u, w2, ⟨rfl, rfl⟩, hs⟩ := op_apply (b := b) (rest := rest) (k := k) (cs := cs) ho hw (by rw [ho']; simp) g2 (Post := fun v w => v = v' ∧ w = w') ⟨rfl, rfl⟩
    exact ⟨v, ds, S', outs, g1, fun _ hx => hx, u, a.defers, w2, M', hs, g3, g4, LRdef_mono hE g3.le hds⟩
theorem deferW_S (o : Oper) (c : Call) (ho' : o.op = .defer c) : OperS E sz rnd (deferW E sz rnd c o.dst).f o := by
  obtain ⟨callee, args, at_⟩ := c
  unfold deferW
  split
  · rename_i f hcal
    have hcal' : callee = .value f := hcal
    subst hcal'
    intro R hRc t ds S kk outs h M w a b ops i rest k cs hR hG hρ hds hcalm hro ho hw
    have h1 : (evW (β := OO) E.ng f).f t (fun fv => (evsW (β := OO) E.ng args.toList).f t fun as => deferK fv as fun d => (setD (β := OO) sz o.dst).f t undefV fun t => kk t (d :: ds) S) = some outs := h
    rw [evW_eq, evsW_eq] at h1
    have hop : ∀ x, x = f ∨ x ∈ args → VR M (evA E.ng t x) (a.eval x) := fun x hx => hρ x (by rw [ho']; simp [Op.operands, Call.operands]; exact hx)
    have hb : b.roundOf = none := by cases hbb : b.roundOf with | none => rfl | some x => rw [hbb] at hro; cases hro
    unfold deferK at h1
    split at h1
    · rename_i fn first cap hv
      have hf := hop f (.inl rfl)
      rw [hv] at hf
      obtain ⟨g, b1, d1, hfn, h2, h3, he⟩ := hf.func_inv
      simp only [setD_eq] at h1
      have hrun : (execOp a.eval o).run E.P w = .ok (.defer ⟨.fn g d1, b1 ++ args.map a.eval⟩) w := by
        unfold execOp; rw [ho']; simp [resolve, Deferred.ofValue, he]
      refine ⟨_, _, S, outs, h1, fun _ hx => hx, undef, _, w, M, op_defer ho hw hb hrun, Step.refl hR, VR.undef M, .cons _ _ _ _ ⟨.fn _ _ _ _ hfn h3, ?_⟩ hds⟩
      have := h2.append (callArgs hE (args := args) fun x hx => hop x (.inr hx))
      simpa using this
    · cases h1
  · exact noO_S sz _ o
theorem nextW_S (o : Oper) (it : Operand) (ho' : o.op = .next it false) : OperS E sz rnd (nextW E sz it o.dst).f o := by
  intro R hRc t ds S kk outs h M w a b ops i rest k cs hR hG hρ hds hcalm hro ho hw
  have h1 : (evW (β := OO) E.ng it).f t (fun v => Outs.bind (aNext S v) fun x => (setD (β := OO) sz o.dst).f t x.1 fun t => kk t ds x.2) = some outs := h
  rw [evW_eq] at h1
  obtain ⟨l, hl, hall⟩ := Outs.bind_some h1
  obtain ⟨v, S', hm, v', w', hrun, hst, hv⟩ := aNext_S (P := E.P) hR (hρ it (by rw [ho']; simp [Op.operands])) hl o.type
  obtain ⟨outs', g1, g2⟩ := hall _ hm
  rw [setD_eq] at g1
  have hx : (execOp a.eval o).run E.P w = .ok (.value v') w' := by
    unfold execOp; rw [ho']; simp [hrun]
  obtain ⟨u, w2, ⟨rfl, rfl⟩, hs⟩ := op_apply (b := b) (rest := rest) (k := k) (cs := cs) ho hw (by rw [ho']; simp) hx (Post := fun v w => v = v' ∧ w = w') ⟨rfl, rfl⟩
  exact ⟨v, ds, S', outs', g1, g2, u, a.defers, w2, M, hs, hst, hv, hds⟩
theorem operW_S (o : Oper) : OperS E sz rnd (operW E sz rnd o).f o := by
  unfold operW
  split
  · rename_i c h; exact callW_S hE sz rnd o c h
  · rename_i c h; exact deferW_S hE sz rnd o c h
  · rename_i it h; exact nextW_S hE sz rnd o it h
  · rename_i op h1 h2 h3
    exact plain_S hE sz rnd (opW_S hE o.op) h2
end
end Go.Am

namespace Go.Am

/-! ## guards -/
theorem wantedW_S {ops : Array Oper} {o : Oper} {gd : Nat × Bool} (hg : o.guard = some gd) {t : PT Value} {a : Act} {M : Loc}
    (hv : ∀ d, guardSlot ops.toList gd.1 = some d → VR M ((t.get d).getD undefV) (a.tmps.getD d undef)) {y n : Unit → OO} {outs : List Out}
    (h : (wantedW (some gd) ops.toList).f t y n = some outs) :
    (y () = some outs ∧ Region.wanted o (yielded ops a.tmps) = true) ∨ (n () = some outs ∧ Region.wanted o (yielded ops a.tmps) = false) := by
  obtain ⟨j, want⟩ := gd
  have hslot : (ops[j]?).bind (·.dst) = guardSlot ops.toList j := by
    unfold guardSlot
    rw [listGet_eq]
    simp only [Array.getElem?_toList]
    cases ops[j]? <;> rfl
  unfold wantedW at h
  simp only at h
  cases hgs : guardSlot ops.toList j with
  | none =>
    rw [hgs] at h
    right
    refine ⟨h, ?_⟩
    simp only [Region.wanted, hg, yielded, hslot, hgs, Option.bind_none]
    rfl
  | some d =>
    rw [hgs] at h
    have hvd := hv d hgs
    have h1 : (getW (β := OO) (Nat.succ d) d).f t n (fun v => isB want v (y ()) (n ())) = some outs := h
    rw [getW_eq _ _ _ _ _ (Nat.lt_succ_self d)] at h1
    have hy : yielded ops a.tmps j = match a.tmps[d]? with | some (.bool b) => some b | _ => none := by
      simp only [yielded, hslot, hgs, Option.bind_some]
      cases a.tmps[d]? with
      | none => rfl
      | some v => cases v <;> rfl
    have hnot : ∀ z, a.tmps.getD d undef = z → (∀ b, z ≠ .bool b) → Region.wanted o (yielded ops a.tmps) = false := by
      intro z hz hz2
      simp only [Region.wanted, hg, hy]
      have : (match a.tmps[d]? with | some (Value.bool b) => some b | _ => none) = (none : Option Bool) := by
        split
        · rename_i b hb
          rw [Array.getD_eq_getD_getElem?, hb] at hz
          exact absurd hz.symm (hz2 b)
        · rfl
      rw [this]; rfl
    have hbool : ∀ b, a.tmps.getD d undef = .bool b → yielded ops a.tmps j = some b := by
      intro b hb
      rw [hy]
      rw [Array.getD_eq_getD_getElem?] at hb
      cases hq : a.tmps[d]? with
      | none => rw [hq] at hb; simp [undef] at hb
      | some v => rw [hq] at hb; simp at hb; subst hb; rfl
    cases hgt : t.get d with
    | none =>
      rw [hgt] at h1 hvd
      obtain ⟨b, _, hb⟩ := VR.tuple_inv hvd
      exact .inr ⟨h1, hnot _ hb (by intro c hc; cases hc)⟩
    | some v =>
      rw [hgt] at h1 hvd
      simp only [isB, Option.getD_some] at h1 hvd
      cases v <;> simp only [reduceCtorEq] at h1
      case bool b =>
        have hb := hbool b hvd.bool_inv
        cases b <;> cases want
        · exact .inl ⟨h1, by simp [Region.wanted, hg, hb]⟩
        · exact .inr ⟨h1, by simp [Region.wanted, hg, hb]⟩
        · exact .inr ⟨h1, by simp [Region.wanted, hg, hb]⟩
        · exact .inl ⟨h1, by simp [Region.wanted, hg, hb]⟩
      case tuple q =>
        obtain ⟨b, _, hb⟩ := VR.tuple_inv hvd
        exact .inr ⟨h1, hnot _ hb (by intro c hc; cases hc)⟩

/-! ## regions in the order of the text -/
structure StR (E : Env) (sz : Nat) (M : Loc) (t : PT Value) (ds : List Deferred) (S : AS) (a : Act) (w : World) : Prop where
  rel : Rel M S w
  glob : GlobOk E M
  tm : TmR M sz t a.tmps
  ds : LR (DefR M) ds a.defers
theorem put_at (a : Act) (ds : List Deferred) (d : Option Tmp) (v : Value) : (Act.put ⟨a.tmps, ds⟩ d v).tmps = (a.put d v).tmps ∧ (Act.put ⟨a.tmps, ds⟩ d v).defers = ds := by
  cases d <;> exact ⟨rfl, rfl⟩
theorem put_defers (a : Act) (d : Option Tmp) (v : Value) : (a.put d v).defers = a.defers := by
  cases d <;> rfl
section
variable {E : Env} (hE : EnvOk E) (sz : Nat) (rnd : Bool)
include hE
theorem step_skipped {P : Program} {b : Frame} {a : Act} {ops : Array Oper} {i : Nat} {rest : List Nat} {k : List Item} {cs : List Frame} {w : World} {o : Oper} (ho : ops[i]? = some o)
    (hw : Region.wanted o (yielded ops a.tmps) = false) : Steps P (lone (b.atR a (.inRegion ops (i :: rest) :: k)) cs w) (lone (b.atR (a.put o.dst undef) (.inRegion ops rest :: k)) cs w) := by
  have := stepR_op_skip (P := P) (b := b) (a := a) (k := k) (cs := cs) (w := w) (ops := ops) (i := i) (rest := rest) (by simp [ho, hw])
  rw [ho] at this
  exact .one this
theorem opsW_S (ops : Array Oper) {R : CallF} (hRc : CallS E R) {b : Frame} {k : List Item} {cs : List Frame} (hcalm : Calm b.kind cs) (hro : b.roundOf.isSome = rnd) :
    ∀ (l : List Oper) (n : Nat), l = ops.toList.drop n → ∀ (t : PT Value) (ds : List Deferred) (S : AS) (kk : K3) (outs : List Out), (opsW E sz rnd ops.toList l).f R t ds S kk = some outs →
    ∀ (M : Loc) (w : World) (a : Act), StR E sz M t ds S a w →
    ∃ t' ds' S' outs', kk t' ds' S' = some outs' ∧ (∀ x ∈ outs', x ∈ outs) ∧ ∃ a' w' M',
      Steps E.P (lone (b.atR a (.inRegion ops (List.range' n l.length) :: k)) cs w) (lone (b.atR a' (.inRegion ops [] :: k)) cs w') ∧ Step M S w M' S' w' ∧ StR E sz M' t' ds' S' a' w' := by
  intro l
  induction l with
  | nil =>
    intro n hl t ds S kk outs h M w a hst
    exact ⟨t, ds, S, outs, h, fun _ hx => hx, a, w, M, .refl _ _, Step.refl hst.rel, hst⟩
  | cons o l ih =>
    intro n hl t ds S kk outs h M w a hst
    have hon : ops[n]? = some o := by
      have : (ops.toList.drop n)[0]? = some o := by rw [← hl]; rfl
      simpa using this
    have hl' : l = ops.toList.drop (n + 1) := by
      have : (ops.toList.drop n).tail = l := by rw [← hl]; rfl
      rw [← this]; simp
    -- the operation is done
    have done : ∀ (outs0 : List Out), (∀ x ∈ outs0, x ∈ outs) → (operW E sz rnd o).f R t ds S (fun t ds S => (opsW E sz rnd ops.toList l).f R t ds S kk) = some outs0 → Region.wanted o (yielded ops a.tmps) = true →
        ∃ t' ds' S' outs', kk t' ds' S' = some outs' ∧ (∀ x ∈ outs', x ∈ outs) ∧ ∃ a' w' M',
          Steps E.P (lone (b.atR a (.inRegion ops (List.range' n (o :: l).length) :: k)) cs w) (lone (b.atR a' (.inRegion ops [] :: k)) cs w') ∧ Step M S w M' S' w' ∧ StR E sz M' t' ds' S' a' w' := by
      intro outs0 hsub h0 hw
      obtain ⟨v, ds1, S1, outs1, h1, h2, v', defs', w1, M1, hs1, hst1, hv, hd1⟩ := operW_S hE sz rnd o R hRc t ds S _ outs0 h0 M w a b ops n (List.range' (n + 1) l.length) k cs hst.rel hst.glob
        (fun x _ => hst.tm.ev hst.glob x) hst.ds hcalm hro hon hw
      obtain ⟨e1, e2⟩ := put_at a defs' o.dst v'
      have hst' : StR E sz M1 (setDst sz t o.dst v) ds1 S1 (Act.put ⟨a.tmps, defs'⟩ o.dst v') w1 :=
        ⟨hst1.rel, hst.glob.mono hst1.le, by rw [e1]; exact (hst.tm.mono hst1.le).set hv o.dst, by rw [e2]; exact hd1⟩
      obtain ⟨t', ds', S', outs', g1, g2, a', w', M', g3, g4, g5⟩ := ih (n + 1) hl' _ _ _ _ _ h1 M1 w1 _ hst'
      exact ⟨t', ds', S', outs', g1, fun x hx => hsub x (h2 x (g2 x hx)), a', w', M', hs1.trans g3, hst1.trans g4, g5⟩
    have hgo : (match o.guard with
      | none => (operW E sz rnd o).f R t ds S (fun t ds S => (opsW E sz rnd ops.toList l).f R t ds S kk) = some outs
      | some gd => (wantedW (some gd) ops.toList).f t (fun _ => (operW E sz rnd o).f R t ds S (fun t ds S => (opsW E sz rnd ops.toList l).f R t ds S kk))
          (fun _ => (setD (β := OO) sz o.dst).f t undefV fun t => (opsW E sz rnd ops.toList l).f R t ds S kk) = some outs) := by
      have h0 : (opsW E sz rnd ops.toList (o :: l)) = (match operW E sz rnd o, opsW E sz rnd ops.toList l with
        | ⟨f⟩, ⟨g⟩ => match o.guard with
          | none => ⟨fun R t ds S kk => f R t ds S fun t ds S => g R t ds S kk⟩
          | some gd => match wantedW (some gd) ops.toList, setD (β := OO) sz o.dst with
            | ⟨w⟩, ⟨d⟩ => ⟨fun R t ds S kk => w t (fun _ => f R t ds S fun t ds S => g R t ds S kk) (fun _ => d t undefV fun t => g R t ds S kk)⟩) := rfl
      rw [h0] at h
      cases hg : o.guard with
      | none => rw [hg] at h; exact h
      | some gd => rw [hg] at h; exact h
    cases hg : o.guard with
    | none =>
      rw [hg] at hgo
      exact done outs (fun _ hx => hx) hgo (by simp [Region.wanted, hg])
    | some gd =>
      rw [hg] at hgo
      rcases wantedW_S hg (fun d _ => hst.tm.2 d) hgo with ⟨h1, h2⟩ | ⟨h1, h2⟩
      · exact done outs (fun _ hx => hx) h1 h2
      · simp only [setD_eq] at h1
        have hst' : StR E sz M (setDst sz t o.dst undefV) ds S (a.put o.dst undef) w := ⟨hst.rel, hst.glob, hst.tm.set (VR.undef M) o.dst, by rw [put_defers]; exact hst.ds⟩
        obtain ⟨t', ds', S', outs', g1, g2, a', w', M', g3, g4, g5⟩ := ih (n + 1) hl' _ _ _ _ _ h1 M w _ hst'
        exact ⟨t', ds', S', outs', g1, g2, a', w', M', (step_skipped hE hon h2).trans g3, g4, g5⟩
end
end Go.Am

namespace Go.Am

/-! ## operations that may float -/
def FloatRes (E : Env) (op : Op) (t : PT Value) (id : Nat) (o : AObj) (v : Value) : Prop :=
  ∀ (M : Loc) (w : World) (ρ : Operand → Value), M id = none → (∀ x ∈ op.operands, VR M (evA E.ng t x) (ρ x)) → ∀ oo : Oper, oo.op = op →
    ∃ p n v', (execOp ρ oo).run E.P w = .ok (.value v') { w with heap := w.heap.push p } ∧ (∀ fams, ObjR (M.add id w.heap.size n) fams id n o p) ∧ VR (M.add id w.heap.size n) v v'
/-- what is owed of an operation that makes a new block and does no more -/
def OpFl (E : Env) (f : OpF (Value × AS)) (op : Op) : Prop :=
  ∀ (t : PT Value) (S : AS) (v : Value) (S' : AS), f t S pairK = some (v, S') → ∃ o, o.plain ∧ S' = S.add o ∧ FloatRes E op t S.next o v
theorem cells_new {M : Loc} {l l' : List Value} (hl : VRL M l l') (h1 : ∀ x ∈ l', x.oneCell' = true) (e : TypeId) {id : Nat} (w : World) (hM : M id = none) (fams : PT Fam) :
    ObjR (M.add id w.heap.size l.length) fams id l.length (.cells (PT.lf.write 0 l) l.length e 0) (.cells l'.toArray e (0, 0)) :=
  .cells0 _ _ _ 0 0 (by simp [hl.length]) rfl ((Fits.new hl h1).mono (Loc.le_add hM))
theorem add_inj {S : AS} {o o' : AObj} (h : S.add o = S.add o') : o = o' := by
  have h1 : (S.add o).heap.get S.next = (S.add o').heap.get S.next := by rw [h]
  simp only [AS.add, PT.get_set_self, Option.some.injEq] at h1
  exact h1
section
variable {E : Env} (hE : EnvOk E)
include hE
theorem alloc_F (t : TypeId) : OpFl E (allocW E t).f (.alloc t) := by
  intro tm S v S' h
  unfold allocW at h
  split at h
  · cases h
  · rename_i zl hz
    obtain ⟨i, z, hi, hzi, hg, hc, heq, hv, h1⟩ := zero_cells hE hz
    rw [fromList_eq] at h
    simp only [AS.alloc_eq, pairK, Option.some.injEq, Prod.mk.injEq] at h
    obtain ⟨rfl, rfl⟩ := h
    refine ⟨.cells _ _ _ 0, trivial, rfl, fun M w ρ hM hρ o ho => ⟨.cells zl.toArray t (0, 0), zl.length, .pointer (some ⟨w.heap.size, 0, none⟩), ?_, fun fams => cells_new (hv M) h1 t w hM fams, .ptr _ _ _ _ (Loc.add_self _ _ _ _)⟩⟩
    unfold execOp; rw [ho]
    simp [Instr.alloc, zeroValue, typeInfo, hi, hzi, newVar, newRow, ← heq]
theorem box_F (t : TypeId) (x : Operand) : OpFl E (boxW E t x).f (.box t x) := by
  intro tm S v S' h
  unfold boxW at h
  rw [un1_f] at h
  split at h
  · rename_i c hc
    unfold newCells at h
    rw [fromList_eq, AS.alloc_eq] at h
    simp only [pairK, Option.some.injEq, Prod.mk.injEq] at h
    obtain ⟨rfl, rfl⟩ := h
    refine ⟨.cells _ _ _ 0, trivial, rfl, fun M w ρ hM hρ o ho => ?_⟩
    have hx := hρ x (by simp [Op.operands])
    obtain ⟨hv, h1⟩ := hx.cells hc
    refine ⟨.cells (ρ x).cells t (0, 0), c.length, .pointer (some ⟨w.heap.size, 0, none⟩), ?_, fun fams => ?_, .ptr _ _ _ _ (Loc.add_self _ _ _ _)⟩
    · unfold execOp; rw [ho]
      simp [Instr.box, newVar, newRow]
    · have := cells_new hv h1 t w hM fams
      simpa using this
  · cases h
omit hE in
theorem makeMap_F (t : TypeId) (rs : Option Operand) : OpFl E (makeMapW rs).f (.makeMap t rs) := by
  intro tm S v S' h
  unfold makeMapW at h
  split at h
  · simp only [AS.alloc_eq, pairK, Option.some.injEq, Prod.mk.injEq] at h
    obtain ⟨rfl, rfl⟩ := h
    refine ⟨.map [] 0, trivial, rfl, fun M w ρ hM hρ o ho => ⟨.map #[] 0, 0, .map (some w.heap.size), ?_, fun fams => .map _ _ _ .nil, .map _ _ _ (Loc.add_self _ _ _ _)⟩⟩
    unfold execOp; rw [ho]
    simp [Instr.makeMap]
  · cases h
omit hE in
theorem fillW_some {β : Type} {place : Nat → Option (Nat × Nat)} {n : Nat} {tm : PT Value} : ∀ {parts : List (Nat × Operand)} {t : PT Value} {k : PT Value → Option β} {r : β},
    (fillW E place n parts).f tm t k = some r → ∃ t', k t' = some r
  | [], t, k, r, h => ⟨t, h⟩
  | (i, x) :: l, t, k, r, h => by
    unfold fillW at h
    split at h
    · cases h
    · rename_i off size hpi
      split at h
      · cases h
      · have h' : ((match cellsO (evA E.ng tm x) with | some c => ifB (Nat.beq c.length size) (writeK t off c fun t => (fillW E place n l).f tm t k) none | none => none) : Option β) = some r := by
          have := evW_eq (β := Option β) E.ng x tm (fun v => (match cellsO v with | some c => ifB (Nat.beq c.length size) (writeK t off c fun t => (fillW E place n l).f tm t k) none | none => none))
          rw [← this, ← h]; rfl
        clear h
        split at h'
        · rw [ifB_eq] at h'
          split at h'
          · rw [writeK_to] at h'
            exact fillW_some h'
          · cases h'
        · cases h'
theorem buildSlice_F (t : TypeId) (len : Nat) (parts : Array (Nat × Operand)) : OpFl E (buildSliceW E t len parts.toList).f (.buildSlice t len parts) := by
  intro tm S v S' h
  unfold buildSliceW at h
  split at h
  · cases h
  · rename_i e he
    have hund := hE.und (elemOf_some he)
    split at h
    · rename_i z hz hle
      split at h
      · cases h
      · rename_i hzl
        simp only [Bool.and_eq_true, beq_true, ble_true] at hzl
        obtain ⟨zi, zv, hzi, hzz, hzg, hc, heq, hv, h1⟩ := zero_cells hE hz
        rw [fromList_eq] at h
        have h' : ((fillW (β := Value × AS) E (slotOf (E.cells e)) (repl z len).length parts.toList).f tm (PT.lf.write 0 (repl z len)) fun tr => S.alloc (.cells tr (repl z len).length e 0) fun b S => pairK (.slice (some ⟨b, 0, none⟩) len (E.cells e)) S) = some (v, S') := h
        clear h
        obtain ⟨t0, ht0⟩ := fillW_some h'
        rw [AS.alloc_eq] at ht0
        simp only [pairK, Option.some.injEq, Prod.mk.injEq] at ht0
        obtain ⟨rfl, rfl⟩ := ht0
        refine ⟨.cells t0 (repl z len).length e 0, trivial, rfl, fun M w ρ hM hρ o ho => ?_⟩
        have hp : ∀ p ∈ parts.toList, VR M (evA E.ng tm p.2) (ρ p.2) := fun p hp => hρ p.2 (by simp [Op.operands]; exact ⟨p.1, by simpa using hp⟩)
        have hzs : zv.cells.size = E.cells e := by rw [← Array.length_toList, heq]; exact hzl.1
        have hz1 : E.cells e ≠ 0 := by omega
        have hrows : ((Array.range (len * E.cells e)).map (zv.cells[· % zv.cells.size]!)).toList = repl z len := by
          have := repl_rows zv.cells len (by omega)
          rw [heq] at this
          rw [← this, hzs]
        have hlen : (repl z len).length = len * E.cells e := by rw [repl_length, hzl.1]
        have hfit : Fits M (PT.lf.write 0 (repl z len)) (repl z len).length ((Array.range (len * E.cells e)).map (zv.cells[· % zv.cells.size]!)) := by
          have := Fits.new (M := M) ((hv M).repl len) (fun x hx => h1 x (mem_repl hx))
          rw [← hrows] at this
          rw [← hrows]
          exact this
        obtain ⟨t', cs', g1, g2, g3, g4⟩ := fill_S (place' := fun i => some (i * E.cells e, E.cells e)) (fun i p hpl => hpl) hp hfit (by rw [← Array.length_toList, hrows]) h'
        rw [AS.alloc_eq] at g1
        simp only [pairK, Option.some.injEq, Prod.mk.injEq] at g1
        have := add_inj g1.2
        injection this with e1
        subst e1
        refine ⟨.cells cs' e (0, 0), (repl z len).length, .slice (some ⟨w.heap.size, 0, none⟩) len len, ?_, fun fams => .cells0 _ _ _ 0 0 g4 rfl (g3.mono (Loc.le_add hM)),
          .slice _ _ _ _ _ _ _ _ (Loc.add_self _ _ _ _) (Nat.le_refl _) (by rw [hlen]; omega) (.inl rfl)⟩
        have hle' : len * E.cells e ≤ 100000 := ble_true.1 hle
        have hzrun : (zeroValue e).run E.P w = .ok zv w := by simp [zeroValue, typeInfo, hzi, hzz]
        unfold execOp; rw [ho]
        have hgt : ¬ (len * E.cells e > 2 ^ 24) := by omega
        simp only [Instr.buildSlice, Sem.run_bind, run_underlying hund, Result.andThen_ok, hE.size hz1 w, if_neg hgt]
        by_cases h0 : len * E.cells e = 0
        · have hl0 : len = 0 := by
            rcases Nat.mul_eq_zero.1 h0 with h | h
            · exact h
            · omega
          subst hl0
          have hr0 : ∀ q : Array Value, (Array.range (0 * E.cells e)).map (fun i => q[i % q.size]!) = #[] := by intro q; simp
          rw [hr0] at g2
          rw [if_pos h0]
          simp only [Sem.run_pure, Result.andThen_ok, hr0, parts_map, g2, newRow, Sem.run_bind, run_newObj]
        · rw [if_neg h0]
          simp only [Sem.run_bind, hzrun, Sem.run_pure, Result.andThen_ok, parts_map, g2, newRow, run_newObj]
    · cases h
theorem makeSlice_F (t : TypeId) (l c : Operand) : OpFl E (makeSliceW E t l c).f (.makeSlice t l c) := by
  intro tm S v S' h
  unfold makeSliceW at h
  rw [un2_f] at h
  generalize hal : evA E.ng tm l = al at *
  generalize hac : evA E.ng tm c = ac at *
  unfold aMakeSlice at h
  split at h
  · rename_i e k1 n k2 m he
    have hund := hE.und (elemOf_some he)
    split at h
    · cases h
    · rename_i z hz
      rw [ifB_eq] at h
      split at h
      · rename_i hok
        simp only [Bool.and_eq_true, beq_true, ble_true] at hok
        obtain ⟨⟨⟨⟨hlc, hb⟩, hcells⟩, hzl⟩, hz1⟩ := hok
        obtain ⟨zi, zv, hzi, hzz, hzg, hcc, heq, hv, h1⟩ := zero_cells hE hz
        rw [fromList_eq, AS.alloc_eq] at h
        simp only [pairK, Option.some.injEq, Prod.mk.injEq] at h
        obtain ⟨rfl, rfl⟩ := h
        refine ⟨.cells _ _ _ 0, trivial, rfl, fun M w ρ hM hρ o ho => ?_⟩
        have hl := hρ l (by simp [Op.operands])
        have hc := hρ c (by simp [Op.operands])
        rw [hal] at hl
        rw [hac] at hc
        have fin : ∀ {v' : Value} {w' : World}, (Instr.makeSlice t (ρ l) (ρ c)).run E.P w = .ok v' w' → (execOp ρ o).run E.P w = .ok (.value v') w' := by
          intro v' w' h
          unfold execOp; rw [ho]; simp [h]
        generalize ρ l = l' at *
        generalize ρ c = c' at *
        have hl' := hl.int_inv
        have hc' := hc.int_inv
        have hzs : zv.cells.size = E.cells e := by rw [← Array.length_toList, heq]; exact hzl
        have hne : E.cells e ≠ 0 := by omega
        obtain ⟨i, hi, his, hib⟩ := hE.info hne
        rw [hzi] at hi; cases hi
        have hrows : ((Array.range (m * E.cells e)).map (zv.cells[· % zv.cells.size]!)).toList = repl z m := by
          have := repl_rows zv.cells m (by omega)
          rw [heq] at this
          rw [← this, hzs]
        have hlen : (repl z m).length = m * E.cells e := by rw [repl_length, hzl]
        have hcells' : m * E.cells e ≤ 100000 := hcells
        have hm : m ≤ 100000 := by
          have : m * 1 ≤ m * E.cells e := Nat.mul_le_mul_left _ (by omega)
          omega
        refine ⟨.cells (repl z m).toArray e (0, 0), (repl z m).length, .slice (some ⟨w.heap.size, 0, none⟩) n m, fin ?_, fun fams => cells_new ((hv M).repl m) (fun x hx => h1 x (mem_repl hx)) e w hM fams,
          .slice _ _ _ _ _ _ _ _ (Loc.add_self _ _ _ _) hlc (by rw [hlen]; omega) (.inl rfl)⟩
        have hzrun : (zeroValue e).run E.P w = .ok zv w := by simp [zeroValue, typeInfo, hzi, hzz]
        have hw1 : IntKind.i64.wrap (Int.ofNat n) = (n : Int) := by rw [IntKind.wrap_i64, Int.ofNat_eq_natCast]; omega
        have hw2 : IntKind.i64.wrap (Int.ofNat m) = (m : Int) := by rw [IntKind.wrap_i64, Int.ofNat_eq_natCast]; omega
        have hbb : m * E.bytes e ≤ 1000000000 := hb
        have hprod : (zi.bytes : Int) * (m : Int) ≤ 1000000000 := by
          rw [hib]
          have h3 : ((m * E.bytes e : Nat) : Int) ≤ ((1000000000 : Nat) : Int) := Int.ofNat_le.2 hbb
          rw [Int.natCast_mul] at h3
          rw [Int.mul_comm]
          exact h3
        have hp48 : (2 : Int) ^ 48 = 281474976710656 := by simp only [Int.reducePow]
        have c1 : decide ((m : Int) < 0) = false := decide_eq_false (by omega)
        have c2 : decide ((zi.bytes : Int) * (m : Int) > 2 ^ 48) = false := decide_eq_false (by rw [hp48]; omega)
        have c3 : decide ((n : Int) < 0) = false := decide_eq_false (by omega)
        have c4 : decide ((n : Int) > (m : Int)) = false := decide_eq_false (by omega)
        simp only [Instr.makeSlice, Sem.run_bind, run_underlying hund, Result.andThen_ok, hl', hc', asInt, asIntOf, Sem.run_pure, typeInfo, run_program, hzi, hw1, hw2, c1, c2, c3, c4, Bool.or_false, Bool.false_eq_true, if_false]
        simp only [run_askRoom, Result.andThen_ok, hE.size hne w, Int.toNat_natCast]
        have hrw : (repl z m).toArray = (Array.range (m * E.cells e)).map (zv.cells[· % zv.cells.size]!) := by rw [← hrows]
        by_cases h0 : m * E.cells e = 0
        · rw [if_pos h0]
          have hr0 : ∀ q : Array Value, (Array.range (m * E.cells e)).map (fun i => q[i % q.size]!) = #[] := by intro q; rw [h0]; simp
          rw [hrw]
          simp only [Sem.run_pure, Sem.run_bind, Result.andThen_ok, hr0, newRow, run_newObj]
        · rw [if_neg h0, hrw]
          simp only [Sem.run_bind, hzrun, Sem.run_pure, Result.andThen_ok, newRow, run_newObj]
      · cases h
  · cases h
theorem float_F (op : Op) (h : clsOf E op = .float) : OpFl E (runW E op).f op := by
  unfold clsOf at h
  split at h
  all_goals first
    | (cases h; done)
    | skip
  · split at h <;> cases h
  · split at h <;> cases h
  · exact alloc_F hE _
  · exact box_F hE _ _
  · exact buildSlice_F hE _ _ _
  · exact makeMap_F _ _
  · exact makeSlice_F hE _ _ _
  · split at h <;> cases h

/-! ## operations that leave the state alone -/
theorem conv_P {β : Type} (src dst : TypeId) (x : Operand) (hcl : clsOf E (.convert src dst x) = .pure ∨ clsOf E (.convert src dst x) = .read) : OpP E (convW (β := β) E src dst x).f (.convert src dst x) := by
  intro tm S kk r hf M w ρ hR hρ o ho
  have hx := hρ x (by simp [Op.operands])
  have fin : ∀ {v' : Value} {w' : World}, (convert src dst (ρ x)).run E.P w = .ok v' w' → (execOp ρ o).run E.P w = .ok (.value v') w' := by
    intro v' w' h
    unfold execOp; rw [ho]
    simp [h]
  have h1 : (convW (β := β) E src dst x).f tm S kk = aConvert E (cvOf E src dst) S (evA E.ng tm x) kk := by
    have := un1_f (E := E) (β := β) x (fun S v kk => aConvert E (cvOf E src dst) S v kk) tm S kk
    rw [← this]; rfl
  rw [h1] at hf
  simp only [clsOf] at hcl
  unfold aConvert at hf
  split at hf
  · rename_i k j n hc hv
    rw [hv] at hx
    have hp := hx.int_inv
    obtain ⟨⟨j', hs⟩, hd⟩ := cv_ints hE hc
    rw [fI_eq, wrapF_eq] at hf
    refine ⟨_, _, hf, fin (w' := w) (v' := .int k (k.wrap n)) ?_, .int _ _⟩
    simp [convert, run_underlying (hE.und hs), run_underlying (hE.und hd), hp, Conv.intToInt]
  · rename_i s hc hv
    rw [hv] at hx
    have hp := hx.string_inv
    obtain ⟨hs, hd⟩ := cv_str hE hc
    refine ⟨_, _, hf, fin (w' := w) (v' := .string s) ?_, .string _⟩
    simp [convert, run_underlying (hE.und hs), run_underlying (hE.und hd), hp]
  · rename_i e s hc hv; rw [hc] at hcl; rcases hcl with h | h <;> cases h
  · rename_i n c' hc hv
    rw [hv] at hx
    obtain ⟨rfl, rfl, hp⟩ := hx.slice0_inv
    obtain ⟨e, hs, hd, he⟩ := cv_toStr hE hc
    simp only at hf
    refine ⟨_, .string (mkStr []), hf, fin (w' := w) ?_, .string _⟩
    simp [convert, run_underlying (hE.und hs), run_underlying (hE.und hd), run_underlying (hE.und he), hp, Conv.bytesToString]
    rfl
  · rename_i a n sz hc hv
    rw [hv] at hx
    obtain ⟨e, hs, hd, he⟩ := cv_toStr hE hc
    obtain ⟨vs, vs', hk, hvv, h1, hsrc⟩ := srcK_some hf hR hx
    obtain ⟨ns, rfl, hk'⟩ := valBytesK_some hk
    have hvs := hvv.ints
    rcases hsrc.src with ⟨a', m, cap, hp, hle, hcell⟩ | ⟨hp, _⟩ | ⟨s, hp, _⟩
    · refine ⟨_, .string (mkStr (ns.map UInt8.ofNat)), hk', fin (w' := w) ?_, .string _⟩
      have hm : m = n := by
        obtain ⟨b, off, sp⟩ := a
        obtain ⟨_, c, N, o', cap', hM, g1, g2, g3, hp'⟩ := hx.slice_inv
        rw [hp] at hp'; cases hp'; rfl
      subst hm
      have hrun : (loadCells a' m).run E.P w = .ok vs'.toArray w := by
        have h3 := run_loadCells_list (P := E.P) w a' vs' hcell
        rwa [hsrc.len, Nat.mul_one] at h3
      rw [hvs] at hrun
      have : (ns.map fun n => Value.int .u8 (.ofNat n)) = ((ns.map fun n => (Int.ofNat n)).map (Value.int .u8)) := by simp
      rw [this] at hrun
      have h2 := run_bytesToString w a' m cap _ hrun
      rw [foldl_push] at h2
      rw [hp, run_convert_bytes_string w src dst e (some a') m cap (hE.und hs) (hE.und he) (hE.und hd), h2]
      simp
    · cases a; rw [hp] at hx; cases hx
    · cases a; rw [hp] at hx; cases hx
  · rename_i b off hc hv; rw [hc] at hcl; rcases hcl with h | h <;> cases h
  · rename_i u b hc hv; rw [hc] at hcl; rcases hcl with h | h <;> cases h
  · cases hf
end
end Go.Am

namespace Go.Am
def BiP {β : Type} (E : Env) (f : BiF β) (b : Builtin) (argTypes : Array TypeId) : Prop :=
  ∀ (S : AS) (l : List Value) (kk : Value → AS → Option β) (r : β), f S l kk = some r →
    ∀ (M : Loc) (w : World) (l' : List Value), Rel M S w → VRL M l l' → ∀ (type : TypeId) (consts : Array Bool),
    ∃ v v', kk v S = some r ∧ (builtin b argTypes type consts l'.toArray).run E.P w = .ok (.value v') w ∧ VR M v v'
section
variable {E : Env} {β : Type} (hE : EnvOk E)
include hE
theorem len_P (a : Array TypeId) {t : TypeId} (ht : a[0]? = some t) : BiP (β := β) E (fun S l kk => oneV l fun x => aLen E t S x fun v => kk v S) .len a := by
  intro S l kk r h0 M w l' hR hl ty consts
  obtain ⟨x, rfl, h⟩ := oneV_some h0
  obtain ⟨y, rfl, hx⟩ := hl.single_inv
  have fin : ∀ {v' : Value}, (Builtin.len_ a ty #[y]).run E.P w = .ok v' w → (builtin .len a ty consts [y].toArray).run E.P w = .ok (.value v') w := by
    intro v' h
    simp [builtin, h]
  cases hd : E.und t with
  | none => simp [aLen, hd] at h
  | some d =>
    cases d <;> simp only [aLen, hd, reduceCtorEq] at h
    case string =>
      split at h
      · rename_i s
        rw [fN_eq] at h
        have hp := hx.string_inv
        exact ⟨_, goInt s.size, h, fin (by simp [Builtin.len_, ht, run_underlying (hE.und hd), hp]), .int _ _⟩
      · cases h
    case slice e =>
      split at h
      · rename_i a0 n c
        obtain ⟨a', c', hp⟩ : ∃ a' c', y = .slice a' n c' := by
          cases hx with
          | slice0 => exact ⟨_, _, rfl⟩
          | slice => exact ⟨_, _, rfl⟩
        exact ⟨_, goInt n, h, fin (by simp [Builtin.len_, ht, run_underlying (hE.und hd), hp]), .int _ _⟩
      · cases h
    case array n e =>
      exact ⟨_, goInt n, h, fin (by simp [Builtin.len_, ht, run_underlying (hE.und hd)]), .int _ _⟩
    case map k e =>
      split at h
      · rename_i es hes
        rw [fN_eq] at h
        obtain ⟨es', hl, hm⟩ := mapEs_S hE hR hx hes
        have hlen : es.length = es'.size := by rw [hl.length, Array.length_toList]
        refine ⟨_, goInt es'.size, h, fin ?_, by rw [hlen]; exact .int _ _⟩
        rcases hm with ⟨hp, rfl⟩ | ⟨c, clock, hp, hc⟩
        · simp [Builtin.len_, ht, run_underlying (hE.und hd), hp]
        · simp [Builtin.len_, ht, run_underlying (hE.und hd), hp, run_getMap hc]
      · cases h
omit hE in
theorem min_P (a : Array TypeId) : BiP (β := β) E (fun S l kk => two l fun a b => minmax ltI a b fun v => kk v S) .min a := by
  intro S l kk r h0 M w l' hR hl ty consts
  obtain ⟨x, y, rfl, h⟩ := two_some h0
  obtain ⟨x', y', rfl, hx, hy⟩ := hl.two
  unfold minmax at h
  split at h
  · rename_i k z j u
    have hx' := hx.int_inv
    have hy' := hy.int_inv
    rw [ifB_eq] at h
    split at h
    · rename_i hk
      have := (kindEq_iff _ _).1 hk; subst this
      rw [ltI_eq, ifB_eq] at h
      refine ⟨.int k (if u < z then u else z), .int k (if u < z then u else z), ?_, ?_, .int _ _⟩
      · split at h
        · rename_i hlt; rw [if_pos (of_decide_eq_true hlt)]; exact h
        · rename_i hlt; rw [if_neg (fun e => hlt (decide_eq_true e))]; exact h
      · simp [builtin, Builtin.min_, Builtin.min2, hx', hy']
    · cases h
  · cases h
omit hE in
theorem max_P (a : Array TypeId) : BiP (β := β) E (fun S l kk => two l fun a b => minmax gtI a b fun v => kk v S) .max a := by
  intro S l kk r h0 M w l' hR hl ty consts
  obtain ⟨x, y, rfl, h⟩ := two_some h0
  obtain ⟨x', y', rfl, hx, hy⟩ := hl.two
  unfold minmax at h
  split at h
  · rename_i k z j u
    have hx' := hx.int_inv
    have hy' := hy.int_inv
    rw [ifB_eq] at h
    split at h
    · rename_i hk
      have := (kindEq_iff _ _).1 hk; subst this
      unfold gtI at h
      rw [ltI_eq, ifB_eq] at h
      refine ⟨.int k (if u > z then u else z), .int k (if u > z then u else z), ?_, ?_, .int _ _⟩
      · split at h
        · rename_i hlt; rw [if_pos (of_decide_eq_true hlt)]; exact h
        · rename_i hlt; rw [if_neg (fun e => hlt (decide_eq_true e))]; exact h
      · simp [builtin, Builtin.max_, Builtin.max2, hx', hy']
    · cases h
  · cases h
theorem noB_P (b : Builtin) (a : Array TypeId) : BiP (β := β) E noB.f b a := fun _ _ _ _ h => by cases h
theorem noW_P (op : Op) : OpP (β := β) E noW.f op := fun _ _ _ _ h => by cases h
theorem biW_P (b : Builtin) (a : Array TypeId) (hb : b = .len ∨ b = .min ∨ b = .max) : BiP E (biW (β := β) E b a).f b a := by
  rcases hb with rfl | rfl | rfl <;> simp only [biW]
  · split
    · rename_i t ht; exact len_P hE a ht
    · exact noB_P hE _ _
  · exact min_P a
  · exact max_P a
/-- what leaves the state alone -/
theorem pr_P (op : Op) (h : clsOf E op = .pure ∨ clsOf E op = .read) : OpP E (runW (β := β) E op).f op := by
  have hb : ∀ (b : Builtin) (args : Array Operand) (at_ : Array TypeId), op = .call { callee := .builtin b, args, argTypes := at_ } → (b = .len ∨ b = .min ∨ b = .max) → OpP E (runW (β := β) E op).f op := by
    rintro b args at_ rfl hb t S kk r hf M w ρ hR hρ o ho
    have h1 : (evsW (β := Option β) E.ng args.toList).f t (fun l => (biW (β := β) E b at_).f S l kk) = some r := hf
    rw [evsW_eq] at h1
    obtain ⟨v, v', g1, g2, g3⟩ := biW_P hE b at_ hb S _ kk r h1 M w (args.toList.map ρ) hR (VRL.of_map hE _ fun x hx => hρ x (by simp [Op.operands, Call.operands]; simpa using hx)) o.type (args.map fun | .const _ => true | _ => false)
    refine ⟨v, v', g1, ?_, g3⟩
    unfold execOp
    rw [ho]
    have : (args.toList.map ρ).toArray = args.map ρ := by rw [← Array.toList_map]
    rw [this] at g2
    simp only [resolve, Sem.run_bind, Sem.run_pure, Result.andThen_ok, invoke]
    exact g2
  cases op
  case call c =>
    obtain ⟨callee, args, at_⟩ := c
    cases callee
    case builtin b =>
      refine hb b args at_ rfl ?_
      cases b <;> simp [clsOf] at h ⊢
    all_goals simp [clsOf] at h
  case move x => exact move_P x
  case assign x => exact assign_P x
  case pick c a b => exact pick_P c a b
  case build t p => exact build_P hE t p
  case load t a => exact load_P hE t a
  case nilCheck x => exact nilCheck_P hE x
  case binOp op t x y b => exact bin_P hE op t x y b
  case unOp op t x => exact not_P hE t x op
  case convert s d x => exact conv_P hE s d x h
  case makeInterface t x => exact iface_P hE t x
  case makeFunc fn a c =>
    cases fn
    case yield l => exact noW_P hE _
    all_goals exact func_P hE _ (by intro l h; cases h) a c
  case slice t x lo hi mx => exact slice_P hE t x lo hi mx
  case fieldAddr t x f => exact fieldAddr_P hE t x f
  case field t x f => exact field_P hE t x f
  case indexAddr t x i => exact indexAddr_P hE t x i
  case index t x i => exact index_P hE t x i
  case lookup t x k ok => exact lookup_P hE t ok x k
  case typeAssert x xt t ok => exact assert_P hE x xt t ok
  case extract x i => exact extract_P hE i x
  all_goals simp [clsOf] at h
end

/-! ## values that are equal -/
theorem eqI_true {a b : Int} (h : eqI a b = true) : a = b := by
  unfold eqI at h
  split at h
  · rw [Nat.eq_of_beq_eq_true h]
  · rw [Nat.eq_of_beq_eq_true h]
  · cases h
theorem eqS_true : ∀ {a b : List UInt8}, eqS a b = true → a = b
  | [], [], _ => rfl
  | [], _ :: _, h => by cases h
  | _ :: _, [], h => by cases h
  | a :: x, b :: y, h => by
    simp only [eqS, ifB_eq] at h
    split at h
    · rename_i h1
      have := Nat.eq_of_beq_eq_true h1
      rw [UInt8.toNat_inj.1 this, eqS_true h]
    · cases h
theorem addrEq_true {a b : Option Addr} (h : addrEq a b = true) : a = b := by
  unfold addrEq at h
  split at h
  · rfl
  · simp only [Bool.and_eq_true, beq_true] at h; rw [h.1, h.2]
  · cases h
theorem onEq_true {a b : Option Nat} (h : onEq a b = true) : a = b := by
  unfold onEq at h
  split at h
  · rfl
  · rw [beq_true.1 h]
  · cases h
theorem fnEq_true {a b : Fn} (h : fnEq a b = true) : a = b := by
  unfold fnEq at h
  split at h
  · rw [beq_true.1 h]
  · rw [beq_true.1 h]
  · rw [eq_of_beq h]
  · cases h
mutual
theorem veq_eq : ∀ {a b : Value}, veq a b = true → a = b
  | .bool a, .bool b, h => by cases a <;> cases b <;> first | rfl | simp [veq] at h
  | .int k a, .int j b, h => by
    simp only [veq, Bool.and_eq_true] at h
    rw [(kindEq_iff _ _).1 h.1, eqI_true h.2]
  | .string a, .string b, h => by
    have : strL a = strL b := eqS_true (by simpa [veq] using h)
    congr 1
    apply ByteArray.ext
    apply Array.toList_inj.1
    exact this
  | .pointer a, .pointer b, h => congrArg _ (addrEq_true (by simpa [veq] using h))
  | .slice a n c, .slice b m d, h => by
    simp only [veq, Bool.and_eq_true, beq_true] at h
    rw [addrEq_true h.1.1, h.1.2, h.2]
  | .map a, .map b, h => congrArg _ (onEq_true (by simpa [veq] using h))
  | .chan a, .chan b, h => congrArg _ (onEq_true (by simpa [veq] using h))
  | .nilFunc, .nilFunc, _ => rfl
  | .nilIface, .nilIface, _ => rfl
  | .iface t v, .iface u w, h => by
    simp only [veq, Bool.and_eq_true, beq_true] at h
    have h2 := veq_eq h.2
    rw [h.1, h2]
  | .func f ⟨a⟩ ⟨c⟩, .func g ⟨b⟩ ⟨d⟩, h => by
    simp only [veq, veqA, Bool.and_eq_true] at h
    have h2 := veqL_eq h.1.2
    have h3 := veqL_eq h.2
    rw [fnEq_true h.1.1, h2, h3]
  | .agg ⟨a⟩, .agg ⟨b⟩, h => by
    simp only [veq, veqA] at h
    have h2 := veqL_eq h
    rw [h2]
  | .tuple ⟨a⟩, .tuple ⟨b⟩, h => by
    simp only [veq, veqA] at h
    have h2 := veqL_eq h
    rw [h2]
  | .float .., _, h => by simp [veq] at h
  | .complex .., _, h => by simp [veq] at h
  | .bool _, .int .., h | .bool _, .float .., h | .bool _, .complex .., h | .bool _, .string .., h | .bool _, .pointer .., h | .bool _, .slice .., h | .bool _, .map .., h | .bool _, .chan .., h | .bool _, .func .., h | .bool _, .nilFunc, h | .bool _, .iface .., h | .bool _, .nilIface, h | .bool _, .agg .., h | .bool _, .tuple .., h => by simp [veq] at h
  | .int .., .bool _, h | .int .., .float .., h | .int .., .complex .., h | .int .., .string .., h | .int .., .pointer .., h | .int .., .slice .., h | .int .., .map .., h | .int .., .chan .., h | .int .., .func .., h | .int .., .nilFunc, h | .int .., .iface .., h | .int .., .nilIface, h | .int .., .agg .., h | .int .., .tuple .., h => by simp [veq] at h
  | .string _, .bool _, h | .string _, .int .., h | .string _, .float .., h | .string _, .complex .., h | .string _, .pointer .., h | .string _, .slice .., h | .string _, .map .., h | .string _, .chan .., h | .string _, .func .., h | .string _, .nilFunc, h | .string _, .iface .., h | .string _, .nilIface, h | .string _, .agg .., h | .string _, .tuple .., h => by simp [veq] at h
  | .pointer _, .bool _, h | .pointer _, .int .., h | .pointer _, .float .., h | .pointer _, .complex .., h | .pointer _, .string .., h | .pointer _, .slice .., h | .pointer _, .map .., h | .pointer _, .chan .., h | .pointer _, .func .., h | .pointer _, .nilFunc, h | .pointer _, .iface .., h | .pointer _, .nilIface, h | .pointer _, .agg .., h | .pointer _, .tuple .., h => by simp [veq] at h
  | .slice .., .bool _, h | .slice .., .int .., h | .slice .., .float .., h | .slice .., .complex .., h | .slice .., .string .., h | .slice .., .pointer .., h | .slice .., .map .., h | .slice .., .chan .., h | .slice .., .func .., h | .slice .., .nilFunc, h | .slice .., .iface .., h | .slice .., .nilIface, h | .slice .., .agg .., h | .slice .., .tuple .., h => by simp [veq] at h
  | .map _, .bool _, h | .map _, .int .., h | .map _, .float .., h | .map _, .complex .., h | .map _, .string .., h | .map _, .pointer .., h | .map _, .slice .., h | .map _, .chan .., h | .map _, .func .., h | .map _, .nilFunc, h | .map _, .iface .., h | .map _, .nilIface, h | .map _, .agg .., h | .map _, .tuple .., h => by simp [veq] at h
  | .chan _, .bool _, h | .chan _, .int .., h | .chan _, .float .., h | .chan _, .complex .., h | .chan _, .string .., h | .chan _, .pointer .., h | .chan _, .slice .., h | .chan _, .map .., h | .chan _, .func .., h | .chan _, .nilFunc, h | .chan _, .iface .., h | .chan _, .nilIface, h | .chan _, .agg .., h | .chan _, .tuple .., h => by simp [veq] at h
  | .func .., .bool _, h | .func .., .int .., h | .func .., .float .., h | .func .., .complex .., h | .func .., .string .., h | .func .., .pointer .., h | .func .., .slice .., h | .func .., .map .., h | .func .., .chan .., h | .func .., .nilFunc, h | .func .., .iface .., h | .func .., .nilIface, h | .func .., .agg .., h | .func .., .tuple .., h => by simp [veq] at h
  | .nilFunc, .bool _, h | .nilFunc, .int .., h | .nilFunc, .float .., h | .nilFunc, .complex .., h | .nilFunc, .string .., h | .nilFunc, .pointer .., h | .nilFunc, .slice .., h | .nilFunc, .map .., h | .nilFunc, .chan .., h | .nilFunc, .func .., h | .nilFunc, .iface .., h | .nilFunc, .nilIface, h | .nilFunc, .agg .., h | .nilFunc, .tuple .., h => by simp [veq] at h
  | .iface .., .bool _, h | .iface .., .int .., h | .iface .., .float .., h | .iface .., .complex .., h | .iface .., .string .., h | .iface .., .pointer .., h | .iface .., .slice .., h | .iface .., .map .., h | .iface .., .chan .., h | .iface .., .func .., h | .iface .., .nilFunc, h | .iface .., .nilIface, h | .iface .., .agg .., h | .iface .., .tuple .., h => by simp [veq] at h
  | .nilIface, .bool _, h | .nilIface, .int .., h | .nilIface, .float .., h | .nilIface, .complex .., h | .nilIface, .string .., h | .nilIface, .pointer .., h | .nilIface, .slice .., h | .nilIface, .map .., h | .nilIface, .chan .., h | .nilIface, .func .., h | .nilIface, .nilFunc, h | .nilIface, .iface .., h | .nilIface, .agg .., h | .nilIface, .tuple .., h => by simp [veq] at h
  | .agg _, .bool _, h | .agg _, .int .., h | .agg _, .float .., h | .agg _, .complex .., h | .agg _, .string .., h | .agg _, .pointer .., h | .agg _, .slice .., h | .agg _, .map .., h | .agg _, .chan .., h | .agg _, .func .., h | .agg _, .nilFunc, h | .agg _, .iface .., h | .agg _, .nilIface, h | .agg _, .tuple .., h => by simp [veq] at h
  | .tuple _, .bool _, h | .tuple _, .int .., h | .tuple _, .float .., h | .tuple _, .complex .., h | .tuple _, .string .., h | .tuple _, .pointer .., h | .tuple _, .slice .., h | .tuple _, .map .., h | .tuple _, .chan .., h | .tuple _, .func .., h | .tuple _, .nilFunc, h | .tuple _, .iface .., h | .tuple _, .nilIface, h | .tuple _, .agg .., h => by simp [veq] at h
theorem veqL_eq : ∀ {a b : List Value}, veqL a b = true → a = b
  | [], [], _ => rfl
  | [], _ :: _, h => by simp [veqL] at h
  | _ :: _, [], h => by simp [veqL] at h
  | a :: x, b :: y, h => by
    simp only [veqL, Bool.and_eq_true] at h
    have h2 := veq_eq h.1
    have h3 := veqL_eq h.2
    rw [h2, h3]
end
end Go.Am

namespace Go.Am

/-! ## bits -/
theorem isBit_pow (m n : Nat) : isBit m (2 ^ n) = m.testBit n := by
  have h : (m &&& 2 ^ n).testBit n = m.testBit n := by rw [Nat.testBit_and, Nat.testBit_two_pow_self, Bool.and_true]
  unfold isBit
  have hland : Nat.land m (2 ^ n) = (m &&& 2 ^ n) := rfl
  rw [hland]
  cases ht : m.testBit n with
  | false =>
    have h0 : (m &&& 2 ^ n) = 0 := by
      apply Nat.eq_of_testBit_eq
      intro i
      rw [Nat.testBit_and, Nat.testBit_two_pow, Nat.zero_testBit]
      by_cases hi : n = i
      · subst hi; rw [ht]; rfl
      · simp [hi]
    rw [h0]; rfl
  | true =>
    have h0 : Nat.beq (m &&& 2 ^ n) 0 = false := by
      rw [beq_false]
      intro h1
      rw [h1, Nat.zero_testBit, ht] at h
      cases h
    rw [h0]; rfl
theorem land_zero {m d : Nat} (h : Nat.beq (Nat.land m (2 ^ d)) 0 = true) : m.testBit d = false := by
  have := isBit_pow m d
  unfold isBit at this
  rw [h] at this
  exact this.symm
theorem within_bits {m d : Nat} (h : within m d = true) {i : Nat} (hi : m.testBit i = true) : d.testBit i = true := by
  have h1 : Nat.land m d = m := beq_true.1 h
  have h2 : (m &&& d) = m := h1
  rw [← h2, Nat.testBit_and] at hi
  simp only [Bool.and_eq_true] at hi
  exact hi.2
theorem within_of {m d : Nat} (h : ∀ i, m.testBit i = true → d.testBit i = true) : within m d = true := by
  refine beq_true.2 ?_
  have : (m &&& d) = m := by
    apply Nat.eq_of_testBit_eq
    intro i
    rw [Nat.testBit_and]
    cases hm : m.testBit i with
    | false => rfl
    | true => rw [h i hm]; rfl
  exact this
theorem lor_pow {d n i : Nat} : (Nat.lor d (2 ^ n)).testBit i = true ↔ d.testBit i = true ∨ i = n := by
  have : Nat.lor d (2 ^ n) = d ||| 2 ^ n := rfl
  rw [this, Nat.testBit_or, Nat.testBit_two_pow, Bool.or_eq_true, decide_eq_true_eq]
  exact or_congr Iff.rfl eq_comm

/-! ## the items of a region -/
def ItOk (E : Env) (all : List Oper) (its : List It) (n : Nat) (it : It) : Prop :=
  it.bit = 2 ^ n ∧ all[n]? = some it.o ∧ it.c = clsOf E it.o.op ∧ it.names = namesMask it.o.op.operands.toList (guardBits it.o.guard all) ∧ it.dstb = dstBit it.o.dst ∧
    ∀ x, it.mask.testBit x = true → ∃ e ∈ it.o.after.toList, Region.binds .any e = true ∧ e.on < n ∧ (x = e.on ∨ ∃ it', its[e.on]? = some it' ∧ it'.mask.testBit x = true)
theorem edgeMask_bits (ms : List Nat) (n : Nat) {x : Nat} : ∀ (l : List Edge) (m : Nat), (edgeMask ms n l m).testBit x = true →
    m.testBit x = true ∨ ∃ e ∈ l, Region.binds .any e = true ∧ e.on < n ∧ (x = e.on ∨ ((ms[n - e.on - 1]?).getD 0).testBit x = true)
  | [], m, h => .inl h
  | e :: l, m, h => by
    simp only [edgeMask] at h
    split at h
    · rename_i hb
      simp only [Bool.and_eq_true, ble_true] at hb
      rw [fN_eq] at h
      rcases edgeMask_bits ms n l _ h with h1 | ⟨e', h1, h2⟩
      · have h2 : (m ||| (2 ^ e.on ||| (listGet ms (n - e.on - 1)).getD 0)).testBit x = true := h1
        rw [Nat.testBit_or, Nat.testBit_or, Nat.testBit_two_pow, listGet_eq] at h2
        simp only [Bool.or_eq_true, decide_eq_true_eq] at h2
        rcases h2 with h2 | h2 | h2
        · exact .inl h2
        · exact .inr ⟨e, by simp, hb.1, hb.2, .inl h2.symm⟩
        · exact .inr ⟨e, by simp, hb.1, hb.2, .inr h2⟩
      · exact .inr ⟨e', by simp [h1], h2⟩
    · rcases edgeMask_bits ms n l _ h with h1 | ⟨e', h1, h2⟩
      · exact .inl h1
      · exact .inr ⟨e', by simp [h1], h2⟩
theorem mkItsF_len (E : Env) (all : List Oper) : ∀ (l : List Oper) (n : Nat) (ms : List Nat), (mkItsF E all l n ms).length = l.length
  | [], _, _ => rfl
  | o :: l, n, ms => by simp only [mkItsF, List.length_cons, mkItsF_len E all l]
theorem mkItsF_get (E : Env) (all : List Oper) (its : List It) : ∀ (l : List Oper) (pre : List It), its = pre ++ mkItsF E all l pre.length (pre.map (·.mask)).reverse → l = all.drop pre.length →
    ∀ (n : Nat) (it : It), pre.length ≤ n → its[n]? = some it → ItOk E all its n it
  | [], pre, hits, hl, n, it, hn, hit => by
    rw [hits] at hit
    simp only [mkItsF, List.append_nil] at hit
    rw [List.getElem?_eq_none hn] at hit; cases hit
  | o :: l, pre, hits, hl, n, it, hn, hit => by
    simp only [mkItsF] at hits
    generalize hm : edgeMask (pre.map (·.mask)).reverse pre.length o.after.toList 0 = m at hits
    generalize hx : (⟨Nat.pow 2 pre.length, o, m, clsOf E o.op, namesMask o.op.operands.toList (guardBits o.guard all), dstBit o.dst⟩ : It) = x at hits
    have hon : all[pre.length]? = some o := by
      have : (all.drop pre.length)[0]? = some o := by rw [← hl]; rfl
      simpa using this
    have hl' : l = all.drop (pre ++ [x]).length := by
      have : (all.drop pre.length).tail = l := by rw [← hl]; rfl
      rw [← this]; simp
    have hits' : its = (pre ++ [x]) ++ mkItsF E all l (pre ++ [x]).length ((pre ++ [x]).map (·.mask)).reverse := by
      rw [hits]
      have e1 : (pre ++ [x]).length = Nat.succ pre.length := by simp
      have e2 : ((pre ++ [x]).map (·.mask)).reverse = m :: (pre.map (·.mask)).reverse := by rw [← hx]; simp
      rw [e1, e2]; simp
    rcases Nat.lt_or_ge pre.length n with hlt | hge
    · exact mkItsF_get E all its l (pre ++ [x]) hits' hl' n it (by simp; omega) hit
    · have hnn : n = pre.length := by omega
      subst hnn
      rw [hits, List.getElem?_append_right (Nat.le_refl _)] at hit
      simp at hit
      subst hit
      subst hx
      refine ⟨rfl, hon, rfl, rfl, rfl, fun y hy => ?_⟩
      have hy' : (edgeMask (pre.map (·.mask)).reverse pre.length o.after.toList 0).testBit y = true := by rw [hm]; exact hy
      rcases edgeMask_bits _ _ _ _ hy' with h0 | ⟨e, h1, h2, h3, h4⟩
      · simp at h0
      · refine ⟨e, h1, h2, h3, ?_⟩
        rcases h4 with h4 | h4
        · exact .inl h4
        · right
          have hget : its[e.on]? = some pre[e.on] := by
            rw [hits, List.getElem?_append_left h3, List.getElem?_eq_getElem h3]
          refine ⟨_, hget, ?_⟩
          have : ((pre.map (·.mask)).reverse)[pre.length - e.on - 1]? = some pre[e.on].mask := by
            rw [List.getElem?_reverse (by simp; omega)]
            simp only [List.length_map]
            rw [show pre.length - 1 - (pre.length - e.on - 1) = e.on by omega]
            simp [List.getElem?_eq_getElem h3]
          rw [this] at h4
          exact h4
theorem mkIts_ok (E : Env) (all : List Oper) {n : Nat} {it : It} (h : (mkIts E all)[n]? = some it) : ItOk E all (mkIts E all) n it :=
  mkItsF_get E all (mkIts E all) all [] rfl rfl n it (Nat.zero_le _) h
theorem mkIts_len (E : Env) (all : List Oper) : (mkIts E all).length = all.length := mkItsF_len E all all 0 []

/-! ### names -/
theorem namesMask_keeps {x : Nat} : ∀ (l : List Operand) (m : Nat), m.testBit x = true → (namesMask l m).testBit x = true
  | [], m, h => h
  | a :: l, m, h => by
    simp only [namesMask]
    split
    · rw [fN_eq]; exact namesMask_keeps l _ (by
        have : (m ||| 2 ^ ‹Tmp›).testBit x = true := by rw [Nat.testBit_or, h]; rfl
        exact this)
    · exact namesMask_keeps l m h
theorem namesMask_mem {x : Nat} : ∀ (l : List Operand) (m : Nat), .tmp x ∈ l → (namesMask l m).testBit x = true
  | a :: l, m, h => by
    simp only [namesMask]
    rcases List.mem_cons.1 h with h | h2
    · subst h
      simp only
      rw [fN_eq]
      refine namesMask_keeps l _ ?_
      have : (m ||| 2 ^ x).testBit x = true := by rw [Nat.testBit_or, Nat.testBit_two_pow]; simp
      exact this
    · split
      · rw [fN_eq]; exact namesMask_mem l _ h2
      · exact namesMask_mem l m h2
theorem ItOk.names {E : Env} {all : List Oper} {its : List It} {n : Nat} {it : It} (h : ItOk E all its n it) {s : Nat} (hs : .tmp s ∈ it.o.op.operands) : it.names.testBit s = true := by
  rw [h.2.2.2.1]; exact namesMask_mem _ _ (by simpa using hs)
theorem ItOk.guardName {E : Env} {all : List Oper} {its : List It} {n : Nat} {it : It} (h : ItOk E all its n it) {gd : Nat × Bool} (hg : it.o.guard = some gd) {s : Nat} (hs : guardSlot all gd.1 = some s) : it.names.testBit s = true := by
  rw [h.2.2.2.1]
  refine namesMask_keeps _ _ ?_
  obtain ⟨j, want⟩ := gd
  rw [hg]
  unfold guardSlot at hs
  simp only [guardBits]
  split at hs
  · rename_i o ho
    rw [ho]
    simp only [dstBit, hs]
    exact Nat.testBit_two_pow_self
  · cases hs

/-! ### pairs -/
theorem allPairs_mem {a : It} : ∀ {l : List It}, allPairs a l = true → ∀ b ∈ l, pairOk a b = true
  | [], _, b, hb => by cases hb
  | c :: l, h, b, hb => by
    simp only [allPairs, ifB_eq] at h
    split at h
    · rename_i h1
      rcases List.mem_cons.1 hb with rfl | hb
      · exact h1
      · exact allPairs_mem h b hb
    · cases h
theorem pairsOk_get : ∀ {l : List It}, pairsOk l = true → ∀ {i j : Nat} {a b : It}, l[i]? = some a → l[j]? = some b → i < j → pairOk a b = true
  | [], _, i, j, a, b, h1, _, _ => by simp at h1
  | c :: l, h, i, j, a, b, h1, h2, hij => by
    simp only [pairsOk, ifB_eq] at h
    split at h
    · rename_i hc
      simp only [Bool.and_eq_true] at hc
      cases j with
      | zero => omega
      | succ j =>
        simp at h2
        cases i with
        | zero => simp at h1; subst h1; exact allPairs_mem hc.2 b (List.mem_of_getElem? h2)
        | succ i => simp at h1; exact pairsOk_get h h1 h2 (by omega)
    · cases h
theorem pairsOk_guard : ∀ {l : List It}, pairsOk l = true → ∀ a ∈ l, guardIn a.o.guard a.mask = true
  | [], _, a, ha => by cases ha
  | c :: l, h, a, ha => by
    simp only [pairsOk, ifB_eq] at h
    split at h
    · rename_i hc
      simp only [Bool.and_eq_true] at hc
      rcases List.mem_cons.1 ha with rfl | ha
      · exact hc.1
      · exact pairsOk_guard h a ha
    · cases h

/-! ## schedules -/
inductive Sched (ops : Array Oper) : (Nat → Prop) → List Nat → Prop
  | nil (D : Nat → Prop) (h : ∀ i, i < ops.size → D i) : Sched ops D []
  | cons (D : Nat → Prop) (i : Nat) (l : List Nat) (o : Oper) (ho : ops[i]? = some o) (hn : ¬ D i) (he : ∀ e ∈ o.after.toList, Region.binds .any e = true → D e.on) (t : Sched ops (fun j => D j ∨ j = i) l) : Sched ops D (i :: l)
theorem edgesUp_mem {n : Nat} : ∀ {l : List Edge}, edgesUp n l = true → ∀ e ∈ l, Region.binds .any e = true → e.on < n
  | [], _, e, he => by cases he
  | c :: l, h, e, he => by
    simp only [edgesUp, ifB_eq] at h
    split at h
    · rename_i h1
      simp only [Bool.or_eq_true, Bool.not_eq_true', ble_true] at h1
      rcases List.mem_cons.1 he with rfl | he
      · intro hb
        rcases h1 with h1 | h1
        · rw [hb] at h1; cases h1
        · exact h1
      · exact edgesUp_mem h e he
    · cases h
theorem edgesOk_get : ∀ {l : List Oper} {n : Nat}, edgesOk l n = true → ∀ {i : Nat} {o : Oper}, l[i]? = some o → ∀ e ∈ o.after.toList, Region.binds .any e = true → e.on < n + i
  | [], _, _, i, o, ho => by simp at ho
  | c :: l, n, h, i, o, ho => by
    simp only [edgesOk, ifB_eq] at h
    split at h
    · rename_i h1
      cases i with
      | zero => simp at ho; subst ho; exact edgesUp_mem h1
      | succ i =>
        simp at ho
        intro e he hb
        have := edgesOk_get h ho e he hb
        omega
    · cases h
theorem Sched.congr {ops : Array Oper} {D D' : Nat → Prop} (h : ∀ i, D i ↔ D' i) {l : List Nat} (hs : Sched ops D l) : Sched ops D' l := by
  have : D = D' := funext fun i => propext (h i)
  exact this ▸ hs
theorem go_sched {ops : Array Oper} (hup : ∀ (i : Nat) (o : Oper), ops[i]? = some o → ∀ e ∈ o.after.toList, Region.binds .any e = true → e.on < i) :
    ∀ (fuel t : Nat) (listed : Array Bool), listed.size = ops.size → ((List.range ops.size).filter fun i => !listed.getD i true).length ≤ fuel →
    Sched ops (fun i => listed.getD i false = true) (Region.linearise.go .any ops fuel t listed [])
  | 0, t, listed, hsz, hf => by
    refine .nil _ fun i hi => ?_
    have hnil : ((List.range ops.size).filter fun i => !listed.getD i true) = [] := List.eq_nil_of_length_eq_zero (by omega)
    rw [List.filter_eq_nil_iff] at hnil
    have := hnil i (by simpa using hi)
    simp only [Bool.not_eq_true', Bool.not_eq_false] at this
    rw [Array.getD_eq_getD_getElem?] at this ⊢
    rw [Array.getElem?_eq_getElem (by omega)] at this ⊢
    simpa using this
  | fuel + 1, t, listed, hsz, hf => by
    simp only [Region.linearise.go]
    generalize hrs : ((List.range ops.size).filter fun i => !listed.getD i true && ((ops[i]?).map (·.after.all fun e => !Region.binds .any e || listed.getD e.on false)).getD false) = rs
    have hgetD : ∀ i, i < ops.size → listed.getD i true = listed.getD i false := by
      intro i hi
      rw [Array.getD_eq_getD_getElem?, Array.getD_eq_getD_getElem?, Array.getElem?_eq_getElem (by omega)]
      rfl
    cases hq : rs[t % rs.length]? with
    | none =>
      simp only [List.reverse_nil]
      have hlen : rs.length = 0 := by
        rcases Nat.eq_zero_or_pos rs.length with h | h
        · exact h
        · rw [List.getElem?_eq_getElem (Nat.mod_lt t h)] at hq; cases hq
      have hnil : rs = [] := List.eq_nil_of_length_eq_zero hlen
      refine .nil _ ?_
      -- all are listed: by strong induction
      intro i
      induction i using Nat.strongRecOn with
      | _ i ih =>
        intro hi
        cases hl : listed.getD i false with
        | true => rfl
        | false =>
          have hin : i ∈ rs := by
            rw [← hrs, List.mem_filter]
            refine ⟨by simpa using hi, ?_⟩
            rw [hgetD i hi, hl]
            have hoi : ops[i]? = some ops[i] := Array.getElem?_eq_getElem hi
            rw [hoi]
            simp only [Bool.not_false, Option.map_some, Option.getD_some, Bool.true_and]
            rw [Array.all_eq_true]
            intro x hx
            have hmem : (ops[i]).after[x] ∈ (ops[i]).after.toList := by simp
            cases hb : Region.binds .any (ops[i]).after[x] with
            | false => simp
            | true =>
              have h2 := hup i _ hoi _ hmem hb
              have := ih _ h2 (by omega)
              rw [this]; simp
          rw [hnil] at hin; cases hin
    | some i =>
      simp only
      have hin : i ∈ rs := List.mem_of_getElem? hq
      rw [← hrs, List.mem_filter] at hin
      obtain ⟨hi, hc⟩ := hin
      have hi' : i < ops.size := by simpa using hi
      simp only [Bool.and_eq_true] at hc
      have hoi : ops[i]? = some ops[i] := Array.getElem?_eq_getElem hi'
      rw [linearise_go_acc]
      have hnot : listed.getD i false = false := by
        have := hc.1; rw [hgetD i hi'] at this; simpa using this
      refine .cons _ i _ ops[i] hoi (by rw [hnot]; simp) ?_ ?_
      · intro e he hb
        have h2 := hc.2
        rw [hoi] at h2
        simp only [Option.map_some, Option.getD_some] at h2
        rw [← Array.all_toList, List.all_eq_true] at h2
        have := h2 e he
        rw [hb] at this
        simpa using this
      · have hrec := go_sched hup fuel (t / rs.length) (listed.setIfInBounds i true) (by simpa using hsz) (by
          have hlt : ((List.range ops.size).filter fun j => !(listed.setIfInBounds i true).getD j true).length < ((List.range ops.size).filter fun j => !listed.getD j true).length := by
            have e1 : ((List.range ops.size).filter fun j => !(listed.setIfInBounds i true).getD j true) = ((List.range ops.size).filter fun j => !listed.getD j true).filter fun j => decide (j ≠ i) := by
              rw [List.filter_filter]
              refine List.filter_congr fun j hj => ?_
              have hj' : j < ops.size := by simpa using hj
              rw [Array.getD_eq_getD_getElem?, Array.getElem?_setIfInBounds]
              by_cases hij : i = j
              · subst hij; simp [hsz, hi']
              · simp [hij, Ne.symm hij, Array.getD_eq_getD_getElem?]
            rw [e1]
            refine List.length_filter_lt_length_iff_exists.2 ⟨i, ?_, by simp⟩
            rw [List.mem_filter]
            exact ⟨hi, hc.1⟩
          omega)
        refine hrec.congr fun j => ?_
        rw [Array.getD_eq_getD_getElem?, Array.getElem?_setIfInBounds]
        by_cases hij : i = j
        · subst hij; simp [hsz, hi']
        · simp [hij, Ne.symm hij, Array.getD_eq_getD_getElem?]
theorem schedule_sched {ops : Array Oper} (h : edgesOk ops.toList 0 = true) (t : Nat) : Sched ops (fun _ => False) (Region.schedule true ops t) := by
  have hup : ∀ (i : Nat) (o : Oper), ops[i]? = some o → ∀ e ∈ o.after.toList, Region.binds .any e = true → e.on < i := by
    intro i o ho e he hb
    have := edgesOk_get h (i := i) (o := o) (by simpa using ho) e he hb
    omega
  unfold Region.schedule
  simp only [Bool.true_or, if_true]
  unfold Region.linearise
  have := go_sched hup ops.size t (Array.replicate ops.size false) (by simp) (by
    refine Nat.le_trans (List.length_filter_le _ _) (by simp))
  refine this.congr fun i => ?_
  rw [Array.getD_eq_getD_getElem?, Array.getElem?_replicate]
  split <;> simp
end Go.Am

namespace Go.Am

/-! ## what the checks say -/
section
variable {E : Env} {all : List Oper} {its : List It}
theorem pair_names {E : Env} {all : List Oper} (hp : pairsOk (mkIts E all) = true) {i j : Nat} {y z : It} (hi : (mkIts E all)[i]? = some y) (hj : (mkIts E all)[j]? = some z) (hne : i ≠ j)
    {s : Nat} (hd : z.o.dst = some s) (hn : y.names.testBit s = true) : y.mask.testBit j = true ∨ z.mask.testBit i = true := by
  have oky := mkIts_ok E all hi
  have okz := mkIts_ok E all hj
  have hzb : z.dstb = 2 ^ s := by rw [okz.2.2.2.2.1]; simp only [dstBit, hd]; rfl
  have hbit : ∀ {u v : It} {m : Nat}, u.bit = 2 ^ m → isBit v.mask u.bit = v.mask.testBit m := fun h => by rw [h, isBit_pow]
  rcases Nat.lt_or_gt_of_ne hne with h | h
  · have hpo := pairsOk_get hp hi hj h
    simp only [pairOk, Bool.and_eq_true, Bool.or_eq_true] at hpo
    rcases hpo.1.2 with h1 | h1
    · have := land_zero (m := y.names) (d := s) (by rw [← hzb]; exact h1.2)
      rw [hn] at this; cases this
    · rw [hbit oky.1] at h1; exact .inr h1
  · have hpo := pairsOk_get hp hj hi h
    simp only [pairOk, Bool.and_eq_true, Bool.or_eq_true] at hpo
    rcases hpo.1.2 with h1 | h1
    · have := land_zero (m := y.names) (d := s) (by rw [← hzb]; exact h1.1)
      rw [hn] at this; cases this
    · rw [hbit okz.1] at h1; exact .inl h1
theorem pair_single {E : Env} {all : List Oper} (hp : pairsOk (mkIts E all) = true) {i j : Nat} {y z : It} (hi : (mkIts E all)[i]? = some y) (hj : (mkIts E all)[j]? = some z) (hne : i ≠ j)
    {s : Nat} (hd : z.o.dst = some s) : y.o.dst ≠ some s := by
  intro hd2
  have oky := mkIts_ok E all hi
  have okz := mkIts_ok E all hj
  have hzb : z.dstb = 2 ^ s := by rw [okz.2.2.2.2.1]; simp only [dstBit, hd]; rfl
  have hyb : y.dstb = 2 ^ s := by rw [oky.2.2.2.2.1]; simp only [dstBit, hd2]; rfl
  rcases Nat.lt_or_gt_of_ne hne with h | h
  · have hpo := pairsOk_get hp hi hj h
    simp only [pairOk, Bool.and_eq_true, Bool.or_eq_true] at hpo
    have h1 := hpo.2
    rw [hzb] at h1
    have := land_zero h1
    rw [hyb, Nat.testBit_two_pow_self] at this; cases this
  · have hpo := pairsOk_get hp hj hi h
    simp only [pairOk, Bool.and_eq_true, Bool.or_eq_true] at hpo
    have h1 := hpo.2
    rw [hyb] at h1
    have := land_zero h1
    rw [hzb, Nat.testBit_two_pow_self] at this; cases this
theorem pair_eff {E : Env} {all : List Oper} (hp : pairsOk (mkIts E all) = true) {i j : Nat} {y z : It} (hi : (mkIts E all)[i]? = some y) (hj : (mkIts E all)[j]? = some z) (hne : i ≠ j)
    (hy : isEff y.c = true) (hz : isEff z.c = true) : y.mask.testBit j = true ∨ z.mask.testBit i = true := by
  have oky := mkIts_ok E all hi
  have okz := mkIts_ok E all hj
  rcases Nat.lt_or_gt_of_ne hne with h | h
  · have hpo := pairsOk_get hp hi hj h
    simp only [pairOk, Bool.and_eq_true, Bool.or_eq_true, hy, hz] at hpo
    rcases hpo.1.1 with h1 | h1
    · simp at h1
    · rw [oky.1, isBit_pow] at h1; exact .inr h1
  · have hpo := pairsOk_get hp hj hi h
    simp only [pairOk, Bool.and_eq_true, Bool.or_eq_true, hy, hz] at hpo
    rcases hpo.1.1 with h1 | h1
    · simp at h1
    · rw [okz.1, isBit_pow] at h1; exact .inl h1
theorem allDone_mem {d : Nat} : ∀ {l : List It}, allDone d l = true → ∀ it ∈ l, isBit d it.bit = true
  | [], _, it, h => by cases h
  | a :: l, h, it, hm => by
    simp only [allDone, ifB_eq] at h
    split at h
    · rcases List.mem_cons.1 hm with rfl | hm
      · assumption
      · exact allDone_mem h it hm
    · cases h
theorem eagerOk_mem {d : Nat} : ∀ {l : List It}, eagerOk d l = true → ∀ it ∈ l, isEff it.c = true ∨ isBit d it.bit = true ∨ within it.mask d = false
  | [], _, it, h => by cases h
  | a :: l, h, it, hm => by
    simp only [eagerOk, ifB_eq] at h
    split at h
    · rename_i h1
      rcases List.mem_cons.1 hm with rfl | hm
      · simpa [Bool.or_eq_true, or_assoc] using h1
      · exact eagerOk_mem h it hm
    · cases h
theorem planNE_mem : ∀ (l : List It) (d : Nat), ∀ it ∈ (planNE l d).1, it ∈ l
  | [], d, it, h => by cases h
  | a :: l, d, it, h => by
    simp only [planNE] at h
    split at h
    · exact List.mem_cons_of_mem _ (planNE_mem l d it h)
    · rw [fN_eq] at h
      rcases List.mem_cons.1 h with rfl | h
      · simp
      · exact List.mem_cons_of_mem _ (planNE_mem l _ it h)
theorem plan_mem (its : List It) : ∀ (es : List It) (d : Nat), ∀ it ∈ plan its es d, it ∈ its ∨ it ∈ es
  | [], d, it, h => .inl (planNE_mem its d it h)
  | e :: es, d, it, h => by
    simp only [plan] at h
    split at h
    · rcases plan_mem its es d it h with h1 | h1
      · exact .inl h1
      · exact .inr (List.mem_cons_of_mem _ h1)
    · rw [fN_eq] at h
      rcases List.mem_append.1 h with h1 | h1
      · exact .inl (planNE_mem its d it h1)
      · rcases List.mem_cons.1 h1 with rfl | h1
        · exact .inr (by simp)
        · rcases plan_mem its es _ it h1 with h2 | h2
          · exact .inl h2
          · exact .inr (List.mem_cons_of_mem _ h2)
theorem dstsIn_mem {sz : Nat} : ∀ {l : List Oper}, dstsIn sz l = true → ∀ o ∈ l, ∀ s, o.dst = some s → s < sz
  | [], _, o, h => by cases h
  | a :: l, h, o, hm => by
    simp only [dstsIn] at h
    split at h
    · rename_i hn
      rcases List.mem_cons.1 hm with rfl | hm
      · intro s hs; rw [hn] at hs; cases hs
      · exact dstsIn_mem h o hm
    · rename_i dd hd
      rw [ifB_eq] at h
      split at h
      · rename_i h1
        rcases List.mem_cons.1 hm with rfl | hm
        · intro s hs; rw [hd] at hs; cases hs; exact ble_true.1 h1
        · exact dstsIn_mem h o hm
      · cases h
end

/-! ## guards, once more -/
def WantA (all : List Oper) (gd : Nat × Bool) (t : PT Value) (r : Bool) : Prop := match guardSlot all gd.1 with
  | none => r = false
  | some d => (r = true ∧ t.get d = some (.bool gd.2)) ∨ (r = false ∧ (t.get d = none ∨ t.get d = some (.bool (!gd.2)) ∨ ∃ q, t.get d = some (.tuple q)))
theorem wantedW_A {all : List Oper} {gd : Nat × Bool} {t : PT Value} {y n : Unit → OO} {outs : List Out} (h : (wantedW (some gd) all).f t y n = some outs) :
    (y () = some outs ∧ WantA all gd t true) ∨ (n () = some outs ∧ WantA all gd t false) := by
  obtain ⟨j, want⟩ := gd
  unfold wantedW at h
  simp only at h
  unfold WantA
  cases hgs : guardSlot all j with
  | none => rw [hgs] at h; exact .inr ⟨h, rfl⟩
  | some d =>
    rw [hgs] at h
    have h1 : (getW (β := OO) (Nat.succ d) d).f t n (fun v => isB want v (y ()) (n ())) = some outs := h
    rw [getW_eq _ _ _ _ _ (Nat.lt_succ_self d)] at h1
    cases hgt : t.get d with
    | none => rw [hgt] at h1; exact .inr ⟨h1, by simp [hgt]⟩
    | some v =>
      rw [hgt] at h1
      simp only [isB] at h1
      cases v <;> simp only [reduceCtorEq] at h1
      case bool b =>
        cases b <;> cases want
        · exact .inl ⟨h1, by simp [hgt]⟩
        · exact .inr ⟨h1, by simp [hgt]⟩
        · exact .inr ⟨h1, by simp [hgt]⟩
        · exact .inl ⟨h1, by simp [hgt]⟩
      case tuple q => exact .inr ⟨h1, by simp [hgt]⟩
theorem WantA_S {ops : Array Oper} {o : Oper} {gd : Nat × Bool} (hg : o.guard = some gd) {t : PT Value} {a : Act} {M : Loc} {r : Bool} (h : WantA ops.toList gd t r)
    (hv : ∀ d, guardSlot ops.toList gd.1 = some d → VR M ((t.get d).getD undefV) (a.tmps.getD d undef)) : Region.wanted o (yielded ops a.tmps) = r := by
  obtain ⟨j, want⟩ := gd
  have hslot : (ops[j]?).bind (·.dst) = guardSlot ops.toList j := by
    unfold guardSlot
    rw [listGet_eq]
    simp only [Array.getElem?_toList]
    cases ops[j]? <;> rfl
  unfold WantA at h
  cases hgs : guardSlot ops.toList j with
  | none =>
    rw [hgs] at h
    simp only at h
    subst h
    simp only [Region.wanted, hg, yielded, hslot, hgs, Option.bind_none]
    rfl
  | some d =>
    rw [hgs] at h
    have hvd := hv d hgs
    have hy : yielded ops a.tmps j = match a.tmps[d]? with | some (.bool b) => some b | _ => none := by
      simp only [yielded, hslot, hgs, Option.bind_some]
      cases a.tmps[d]? with
      | none => rfl
      | some v => cases v <;> rfl
    have hnot : ∀ z, a.tmps.getD d undef = z → (∀ b, z ≠ .bool b) → Region.wanted o (yielded ops a.tmps) = false := by
      intro z hz hz2
      simp only [Region.wanted, hg, hy]
      have : (match a.tmps[d]? with | some (Value.bool b) => some b | _ => none) = (none : Option Bool) := by
        split
        · rename_i b hb
          rw [Array.getD_eq_getD_getElem?, hb] at hz
          exact absurd hz.symm (hz2 b)
        · rfl
      rw [this]; rfl
    have hbool : ∀ b, a.tmps.getD d undef = .bool b → yielded ops a.tmps j = some b := by
      intro b hb
      rw [hy]
      rw [Array.getD_eq_getD_getElem?] at hb
      cases hq : a.tmps[d]? with
      | none => rw [hq] at hb; simp [undef] at hb
      | some v => rw [hq] at hb; simp at hb; subst hb; rfl
    simp only at h
    rcases h with ⟨rfl, h1⟩ | ⟨rfl, h1 | h1 | ⟨q, h1⟩⟩
    · rw [h1] at hvd
      simp only [Region.wanted, hg, hbool want hvd.bool_inv]
      simp
    · rw [h1] at hvd
      obtain ⟨b, _, hb⟩ := VR.tuple_inv hvd
      exact hnot _ hb (by intro c hc; cases hc)
    · rw [h1] at hvd
      simp only [Region.wanted, hg, hbool _ hvd.bool_inv]
      cases want <;> rfl
    · rw [h1] at hvd
      obtain ⟨b, _, hb⟩ := VR.tuple_inv hvd
      exact hnot _ hb (by intro c hc; cases hc)

/-! ## reads asked again -/
theorem allAgain_mem {S : AS} : ∀ {rs : List Rec}, allAgain S rs = true → ∀ r ∈ rs, ∃ S1, r.f r.t S pairK = some (r.v, S1)
  | [], _, r, h => by cases h
  | a :: l, h, r, hm => by
    simp only [allAgain, ifB_eq] at h
    split at h
    · rename_i h1
      rcases List.mem_cons.1 hm with rfl | hm
      · unfold again at h1
        split at h1
        rename_i bit f t v
        simp only
        split at h1
        · rename_i w S1 hf
          have := veq_eq h1
          subst this
          exact ⟨S1, hf⟩
        · cases h1
      · exact allAgain_mem h r hm
    · cases h
theorem keepK_eq {β : Type} (mask : Nat) (rs : List Rec) (k : List Rec → β) : keepK mask rs k = k (rs.filter fun r => !(isBit mask r.bit)) := by
  induction rs generalizing k with
  | nil => rfl
  | cons r l ih =>
    simp only [keepK, ifB_eq, ih, List.filter_cons]
    cases isBit mask r.bit <;> simp
end Go.Am

namespace Go.Am

/-! ## a region in any order: the invariant -/
noncomputable def slotV (t : PT Value) (s : Nat) : Value := (t.get s).getD undefV
def PV (E : Env) (it : It) (ty : PT Value) (v : Value) (rs : List Rec) (pl : List It) (S : AS) : Prop :=
  (⟨it.bit, (runW (β := Value × AS) E it.o.op).f, ty, v⟩ : Rec) ∈ rs ∨ ((∃ S1, (runW (β := Value × AS) E it.o.op).f ty S pairK = some (v, S1)) ∧ asksOn it.bit pl = false)
def FL (E : Env) (it : It) (ty : PT Value) (v : Value) (g : Option Nat) (S S0 : AS) (M : Loc) : Prop :=
  ∃ id o, g = some id ∧ o.plain ∧ S.heap.get id = some o ∧ M id = none ∧ S0.next ≤ id ∧ FloatRes E it.o.op ty id o v
inductive PendV (E : Env) (all : List Oper) (it : It) (ty t : PT Value) (S S0 : AS) (rs : List Rec) (pl : List It) (M : Loc) (g : Option Nat) : Prop
  | off (gd : Nat × Bool) (hg : it.o.guard = some gd) (hw : WantA all gd ty false) (hd : ∀ s, it.o.dst = some s → t.get s = some undefV) : PendV E all it ty t S S0 rs pl M g
  | read (hw : it.o.guard = none ∨ ∃ gd, it.o.guard = some gd ∧ WantA all gd ty true) (v : Value) (hd : ∀ s, it.o.dst = some s → t.get s = some v)
      (hc : it.c = .pure ∨ it.c = .read) (h : PV E it ty v rs pl S) : PendV E all it ty t S S0 rs pl M g
  | float (hw : it.o.guard = none ∨ ∃ gd, it.o.guard = some gd ∧ WantA all gd ty true) (v : Value) (hd : ∀ s, it.o.dst = some s → t.get s = some v)
      (hc : it.c = .float) (h : FL E it ty v g S S0 M) : PendV E all it ty t S S0 rs pl M g
def Slots (E : Env) (all : List Oper) (it : It) (ty t t0 : PT Value) : Prop :=
  ∀ s, it.names.testBit s = true → (∀ (j : Nat) (z : It), (mkIts E all)[j]? = some z → it.mask.testBit j = true → z.o.dst = some s → ty.get s = t.get s) ∧
    ((∀ (j : Nat) (z : It), (mkIts E all)[j]? = some z → it.mask.testBit j = true → z.o.dst ≠ some s) → ty.get s = t0.get s)
/-- what does not turn in a region's course -/
structure Fix (E : Env) (sz : Nat) (ops : Array Oper) : Type where
  t0 : PT Value
  S0 : AS
  M0 : Loc
  w0 : World
  hp : pairsOk (mkIts E ops.toList) = true
  hdst : ∀ (i : Nat) (it : It) (s : Nat), (mkIts E ops.toList)[i]? = some it → it.o.dst = some s → s < sz
structure Sim {E : Env} {sz : Nat} {ops : Array Oper} (F : Fix E sz ops) (D : Nat → Prop) (d : Nat) (pl : List It) (t : PT Value) (ds : List Deferred) (S : AS) (rs : List Rec) (M : Loc) (w : World) (a : Act) (gid : Nat → Option Nat) : Prop where
  order : orderOk (mkIts E ops.toList) pl d = true
  mem : ∀ it ∈ pl, it ∈ mkIts E ops.toList
  sub : ∀ i, D i → d.testBit i = true
  eff : ∀ (i : Nat) (it : It), (mkIts E ops.toList)[i]? = some it → isEff it.c = true → d.testBit i = true → D i
  clD : ∀ (i : Nat) (it : It), (mkIts E ops.toList)[i]? = some it → D i → ∀ x, it.mask.testBit x = true → D x
  cld : ∀ (i : Nat) (it : It), (mkIts E ops.toList)[i]? = some it → d.testBit i = true → ∀ x, it.mask.testBit x = true → d.testBit x = true
  step : Step F.M0 F.S0 F.w0 M S w
  glob : GlobOk E M
  dsr : LR (DefR M) ds a.defers
  size : a.tmps.size = sz
  cdone : ∀ (i : Nat) (it : It) (s : Nat), (mkIts E ops.toList)[i]? = some it → D i → it.o.dst = some s → VR M (slotV t s) (a.tmps.getD s undef)
  cund : ∀ s, (∀ (i : Nat) (it : It), (mkIts E ops.toList)[i]? = some it → D i → it.o.dst ≠ some s) → VR M (slotV F.t0 s) (a.tmps.getD s undef)
  aund : ∀ s, (∀ (i : Nat) (it : It), (mkIts E ops.toList)[i]? = some it → d.testBit i = true → it.o.dst ≠ some s) → t.get s = F.t0.get s
  pend : ∀ (i : Nat) (it : It), (mkIts E ops.toList)[i]? = some it → d.testBit i = true → ¬ D i → ∃ ty, Slots E ops.toList it ty t F.t0 ∧ PendV E ops.toList it ty t S F.S0 rs pl M (gid i)
  gids : ∀ i j id, gid i = some id → gid j = some id → i = j
  gidlt : ∀ i id, gid i = some id → id < S.next

theorem order_cons {its : List It} {it : It} {l : List It} {d : Nat} (h : orderOk its (it :: l) d = true) :
    within it.mask d = true ∧ isBit d it.bit = false ∧ (isEff it.c = true → eagerOk d its = true) ∧ orderOk its l (Nat.lor d it.bit) = true := by
  simp only [orderOk, ifB_eq] at h
  split at h
  · rename_i h1
    rw [fN_eq] at h
    simp only [Bool.and_eq_true, Bool.or_eq_true, Bool.not_eq_true'] at h1
    refine ⟨h1.1.1, h1.1.2, fun he => ?_, h⟩
    rcases h1.2 with h2 | h2
    · rw [he] at h2; cases h2
    · exact h2
  · cases h
section
variable {E : Env} (hE : EnvOk E) {sz : Nat} {ops : Array Oper} {F : Fix E sz ops} {D : Nat → Prop} {d : Nat} {pl l : List It} {t : PT Value} {ds : List Deferred} {S : AS} {rs : List Rec} {M : Loc} {w : World} {a : Act}
  {gid : Nat → Option Nat} {i : Nat} {it : It}
theorem setDst_some (hd : ∀ s, it.o.dst = some s → s < sz) (v : Value) (s : Nat) : (setDst sz t it.o.dst v).get s = if it.o.dst = some s then some v else t.get s := by
  cases ho : it.o.dst with
  | none => simp [setDst]
  | some x =>
    rw [setDst_get]
    have := hd x ho
    by_cases hx : s = x
    · subst hx; simp [this]
    · have : ¬ (x = s) := fun e => hx e.symm
      simp [hx, this]
/-- a region's head that is no effect is done on the abstract side -/
theorem Sim.push (h : Sim F D d (it :: l) t ds S rs M w a gid) (hi : (mkIts E ops.toList)[i]? = some it) {S' : AS} {rs' : List Rec} {gid' : Nat → Option Nat} {v : Value} (hne : isEff it.c = false)
    (hstep : Step F.M0 F.S0 F.w0 M S' w) (hgids : ∀ i j id, gid' i = some id → gid' j = some id → i = j) (hgidlt : ∀ i id, gid' i = some id → id < S'.next)
    (hpend : ∀ (j : Nat) (z : It), (mkIts E ops.toList)[j]? = some z → j ≠ i → ∀ ty t', (∀ s, z.o.dst = some s → t'.get s = t.get s) →
      PendV E ops.toList z ty t S F.S0 rs (it :: l) M (gid j) → PendV E ops.toList z ty t' S' F.S0 rs' l M (gid' j))
    (hnew : ∀ t', (∀ s, it.o.dst = some s → t'.get s = some v) → PendV E ops.toList it t t' S' F.S0 rs' l M (gid' i)) :
    Sim F D (Nat.lor d (2 ^ i)) l (setDst sz t it.o.dst v) ds S' rs' M w a gid' := by
  have ok := mkIts_ok E ops.toList hi
  obtain ⟨hw, hnb, _, hord⟩ := order_cons h.order
  rw [ok.1, isBit_pow] at hnb
  rw [ok.1] at hord
  have hdst := fun s => F.hdst i it s hi
  have hget := setDst_some (t := t) (v := v) (it := it) (sz := sz) hdst
  have hDi : ¬ D i := fun hD => by rw [h.sub i hD] at hnb; cases hnb
  -- a slot of one that is done ahead
  have hother : ∀ (j : Nat) (z : It) (s : Nat), (mkIts E ops.toList)[j]? = some z → j ≠ i → z.o.dst = some s → (setDst sz t it.o.dst v).get s = t.get s := by
    intro j z s hj hji hz
    rw [hget, if_neg (pair_single F.hp hi hj (Ne.symm hji) hz)]
  refine ⟨hord, fun x hx => h.mem x (List.mem_cons_of_mem _ hx), fun j hj => lor_pow.2 (.inl (h.sub j hj)), ?_, h.clD, ?_, hstep, h.glob, h.dsr, h.size, ?_, h.cund, ?_, ?_, hgids, hgidlt⟩
  · intro j z hj hz hb
    rcases lor_pow.1 hb with hb | rfl
    · exact h.eff j z hj hz hb
    · rw [hi] at hj; cases hj; rw [hz] at hne; cases hne
  · intro j z hj hb x hx
    rcases lor_pow.1 hb with hb | rfl
    · exact lor_pow.2 (.inl (h.cld j z hj hb x hx))
    · rw [hi] at hj; cases hj
      exact lor_pow.2 (.inl (within_bits hw hx))
  · intro j z s hj hD hz
    have hji : j ≠ i := fun e => hDi (e ▸ hD)
    have := h.cdone j z s hj hD hz
    unfold slotV at this ⊢
    rw [hother j z s hj hji hz]; exact this
  · intro s hs
    rw [hget, if_neg (hs i it hi (lor_pow.2 (.inr rfl)))]
    exact h.aund s fun j z hj hb => hs j z hj (lor_pow.2 (.inl hb))
  · intro j z hj hb hD
    by_cases hji : j = i
    · subst hji
      rw [hi] at hj; cases hj
      refine ⟨t, fun s hs => ⟨fun x u hx hm hu => ?_, fun hno => ?_⟩, hnew _ fun s hs => by rw [hget, if_pos hs]⟩
      · have hxi : x ≠ j := by
          rintro rfl
          have := within_bits hw hm
          rw [hnb] at this; cases this
        exact (hother x u s hx hxi hu).symm
      · refine h.aund s fun x u hx hb' hu => ?_
        have hxi : j ≠ x := by rintro rfl; rw [hnb] at hb'; cases hb'
        rcases pair_names F.hp hi hx hxi hu hs with h1 | h1
        · exact hno x u hx h1 hu
        · have := h.cld x u hx hb' j h1
          rw [hnb] at this; cases this
    · have hb' : d.testBit j = true := by
        rcases lor_pow.1 hb with hb | hb
        · exact hb
        · exact absurd hb hji
      obtain ⟨ty, h1, h2⟩ := h.pend j z hj hb' hD
      refine ⟨ty, fun s hs => ⟨fun x u hx hm hu => ?_, (h1 s hs).2⟩, hpend j z hj hji ty _ (fun s hs => hother j z s hj hji hs) h2⟩
      have hxi : x ≠ i := by
        rintro rfl
        have := h.cld j z hj hb' x hm
        rw [hnb] at this; cases this
      rw [hother x u s hx hxi hu]
      exact (h1 s hs).1 x u hx hm hu

theorem put_getD (ds : List Deferred) (o : Oper) (v' : Value) (s : Nat) (hs : ∀ x, o.dst = some x → x < a.tmps.size) :
    (Act.put ⟨a.tmps, ds⟩ o.dst v').tmps.getD s undef = if o.dst = some s then v' else a.tmps.getD s undef := by
  cases ho : o.dst with
  | none => simp [Act.put]
  | some x =>
    simp only [Act.put]
    rw [getD_set]
    have := hs x ho
    by_cases hx : s = x
    · subst hx; simp [this]
    · have : ¬ (x = s) := fun e => hx e.symm
      simp [hx, this]
theorem put_size (ds : List Deferred) (o : Oper) (v' : Value) : (Act.put ⟨a.tmps, ds⟩ o.dst v').tmps.size = a.tmps.size := by
  cases o.dst <;> simp [Act.put]
theorem PendV.mono {all : List Oper} {ty : PT Value} {S0 : AS} {g : Option Nat} {M' : Loc} (h : PendV E all it ty t S S0 rs pl M g) (hg : ∀ id, g = some id → M id = none → M' id = none) : PendV E all it ty t S S0 rs pl M' g := by
  cases h with
  | off gd hg' hw hd => exact .off gd hg' hw hd
  | read hw v hd hc h => exact .read hw v hd hc h
  | float hw v hd hc h =>
    obtain ⟨id, o, h1, h2, h3, h4, h5, h6⟩ := h
    exact .float hw v hd hc ⟨id, o, h1, h2, h3, hg id h1 h4, h5, h6⟩
/-- what the abstract side has done is done on the machine's -/
theorem Sim.catchUp (h : Sim F D d pl t ds S rs M w a gid) (hi : (mkIts E ops.toList)[i]? = some it) (hdi : d.testBit i = true) (hm : ∀ x, it.mask.testBit x = true → D x) {M' : Loc} {w' : World} {v v' : Value}
    (hstep : Step F.M0 F.S0 F.w0 M' S w') (hle : M.le M') (hv : ∀ s, it.o.dst = some s → t.get s = some v) (hvv : VR M' v v')
    (hg : ∀ j id, j ≠ i → gid j = some id → M id = none → M' id = none) :
    Sim F (fun x => D x ∨ x = i) d pl t ds S rs M' w' (a.put it.o.dst v') gid := by
  have hdst := fun s => F.hdst i it s hi
  have hget := put_getD (a := a) a.defers it.o v' (hs := fun x hx => by rw [h.size]; exact hdst x hx)
  refine ⟨h.order, h.mem, ?_, ?_, ?_, h.cld, hstep, h.glob.mono hle, ?_, ?_, ?_, ?_, h.aund, ?_, h.gids, h.gidlt⟩
  · rintro x (hx | rfl)
    · exact h.sub x hx
    · exact hdi
  · exact fun j z hj hz hb => .inl (h.eff j z hj hz hb)
  · rintro j z hj (hD | rfl) x hx
    · exact .inl (h.clD j z hj hD x hx)
    · rw [hi] at hj; cases hj; exact .inl (hm x hx)
  · rw [put_defers]; exact h.dsr.mono fun _ _ => DefR.mono hle
  · rw [show (a.put it.o.dst v').tmps.size = a.tmps.size from put_size a.defers it.o v']; exact h.size
  · rintro j z s hj hD hz
    have e1 : (a.put it.o.dst v').tmps.getD s undef = if it.o.dst = some s then v' else a.tmps.getD s undef := hget s
    rw [e1]
    by_cases hji : j = i
    · subst hji
      rw [hi] at hj; cases hj
      rw [if_pos hz]
      unfold slotV; rw [hv s hz]; exact hvv
    · rw [if_neg (pair_single F.hp hi hj (Ne.symm hji) hz)]
      rcases hD with hD | hD
      · exact (h.cdone j z s hj hD hz).mono hle
      · exact absurd hD hji
  · intro s hs
    have e1 : (a.put it.o.dst v').tmps.getD s undef = if it.o.dst = some s then v' else a.tmps.getD s undef := hget s
    rw [e1, if_neg (hs i it hi (.inr rfl))]
    exact (h.cund s fun j z hj hD => hs j z hj (.inl hD)).mono hle
  · intro j z hj hb hD
    obtain ⟨ty, h1, h2⟩ := h.pend j z hj hb fun e => hD (.inl e)
    exact ⟨ty, h1, h2.mono fun id hid hM => hg j id (fun e => hD (.inr e)) hid hM⟩
/-- an effect is done on both sides -/
theorem Sim.effect (h : Sim F D d (it :: l) t ds S rs M w a gid) (hi : (mkIts E ops.toList)[i]? = some it) (hm : ∀ x, it.mask.testBit x = true → D x) (hc : it.c = .eff) {M' : Loc} {S' : AS} {w' : World} {v v' : Value} {ds' defs' : List Deferred}
    (hst : Step M S w M' S' w') (hvv : VR M' v v') (hds : LR (DefR M') ds' defs') :
    Sim F (fun x => D x ∨ x = i) (Nat.lor d (2 ^ i)) l (setDst sz t it.o.dst v) ds' S' (rs.filter fun r => !(isBit it.mask r.bit)) M' w' (Act.put ⟨a.tmps, defs'⟩ it.o.dst v') gid := by
  have ok := mkIts_ok E ops.toList hi
  obtain ⟨hw, hnb, _, hord⟩ := order_cons h.order
  rw [ok.1, isBit_pow] at hnb
  rw [ok.1] at hord
  have hdst := fun s => F.hdst i it s hi
  have hget := setDst_some (t := t) (v := v) (it := it) (sz := sz) hdst
  have hput := put_getD (a := a) defs' it.o v' (hs := fun x hx => by rw [h.size]; exact hdst x hx)
  have hDi : ¬ D i := fun hD => by rw [h.sub i hD] at hnb; cases hnb
  have hle := hst.le
  have hother : ∀ (j : Nat) (z : It) (s : Nat), (mkIts E ops.toList)[j]? = some z → j ≠ i → z.o.dst = some s → (setDst sz t it.o.dst v).get s = t.get s := by
    intro j z s hj hji hz
    rw [hget, if_neg (pair_single F.hp hi hj (Ne.symm hji) hz)]
  refine ⟨hord, fun x hx => h.mem x (List.mem_cons_of_mem _ hx), ?_, ?_, ?_, ?_, h.step.trans hst, h.glob.mono hle, ?_, ?_, ?_, ?_, ?_, ?_, h.gids, ?_⟩
  · rintro x (hx | rfl)
    · exact lor_pow.2 (.inl (h.sub x hx))
    · exact lor_pow.2 (.inr rfl)
  · intro j z hj hz hb
    rcases lor_pow.1 hb with hb | rfl
    · exact .inl (h.eff j z hj hz hb)
    · exact .inr rfl
  · rintro j z hj (hD | rfl) x hx
    · exact .inl (h.clD j z hj hD x hx)
    · rw [hi] at hj; cases hj; exact .inl (hm x hx)
  · intro j z hj hb x hx
    rcases lor_pow.1 hb with hb | rfl
    · exact lor_pow.2 (.inl (h.cld j z hj hb x hx))
    · rw [hi] at hj; cases hj
      exact lor_pow.2 (.inl (within_bits hw hx))
  · rw [(put_at a defs' it.o.dst v').2]; exact hds
  · rw [put_size]; exact h.size
  · rintro j z s hj hD hz
    rw [hput]
    unfold slotV
    by_cases hji : j = i
    · subst hji
      rw [hi] at hj; cases hj
      rw [if_pos hz, hget, if_pos hz]; exact hvv
    · rw [if_neg (pair_single F.hp hi hj (Ne.symm hji) hz), hother j z s hj hji hz]
      rcases hD with hD | hD
      · exact (h.cdone j z s hj hD hz).mono hle
      · exact absurd hD hji
  · intro s hs
    rw [hput, if_neg (hs i it hi (.inr rfl))]
    exact (h.cund s fun j z hj hD => hs j z hj (.inl hD)).mono hle
  · intro s hs
    rw [hget, if_neg (hs i it hi (lor_pow.2 (.inr rfl)))]
    exact h.aund s fun j z hj hb => hs j z hj (lor_pow.2 (.inl hb))
  · intro j z hj hb hD
    have hji : j ≠ i := fun e => hD (.inr e)
    have hDj : ¬ D j := fun e => hD (.inl e)
    have hb' : d.testBit j = true := by
      rcases lor_pow.1 hb with hb | hb
      · exact hb
      · exact absurd hb hji
    obtain ⟨ty, h1, h2⟩ := h.pend j z hj hb' hDj
    have okz := mkIts_ok E ops.toList hj
    have hnm : isBit it.mask z.bit = false := by
      rw [okz.1, isBit_pow]
      cases hq : it.mask.testBit j with
      | false => rfl
      | true => exact absurd (hm j hq) hDj
    refine ⟨ty, fun s hs => ⟨fun x u hx hm' hu => ?_, (h1 s hs).2⟩, ?_⟩
    · have hxi : x ≠ i := by
        rintro rfl
        have := h.cld j z hj hb' x hm'
        rw [hnb] at this; cases this
      rw [hother x u s hx hxi hu]
      exact (h1 s hs).1 x u hx hm' hu
    · cases h2 with
      | off gd hg' hw' hd' => exact .off gd hg' hw' fun s hs => by rw [hother j z s hj hji hs]; exact hd' s hs
      | read hw' v2 hd' hc' h3 =>
        refine .read hw' v2 (fun s hs => by rw [hother j z s hj hji hs]; exact hd' s hs) hc' (.inl ?_)
        rcases h3 with h3 | ⟨_, h3⟩
        · exact List.mem_filter.2 ⟨h3, by rw [hnm]; rfl⟩
        · simp only [asksOn, hc] at h3
          rw [hnm] at h3; cases h3
      | float hw' v2 hd' hc' h3 =>
        obtain ⟨id, o, e1, e2, e3, e4, e5, e6⟩ := h3
        have hlt := h.gidlt j id e1
        refine .float hw' v2 (fun s hs => by rw [hother j z s hj hji hs]; exact hd' s hs) hc' ⟨id, o, e1, e2, by rw [hst.ghost id hlt e4]; exact e3, ?_, e5, e6⟩
        cases hM : M' id with
        | none => rfl
        | some x => have := hst.newi id x hM e4; omega
  · intro j id hid
    exact Nat.lt_of_lt_of_le (h.gidlt j id hid) hst.next

/-! ### operands -/
theorem Sim.opnd (h : Sim F D d pl t ds S rs M w a gid) (hi : (mkIts E ops.toList)[i]? = some it) (hDi : ¬ D i) (hm : ∀ x, it.mask.testBit x = true → D x) {ty : PT Value} (hs : Slots E ops.toList it ty t F.t0) :
    ∀ s, it.names.testBit s = true → VR M (slotV ty s) (a.tmps.getD s undef) := by
  intro s hn
  obtain ⟨h1, h2⟩ := hs s hn
  by_cases hw : ∃ (j : Nat) (z : It), (mkIts E ops.toList)[j]? = some z ∧ D j ∧ z.o.dst = some s
  · obtain ⟨j, z, hj, hD, hz⟩ := hw
    have hij : i ≠ j := fun e => hDi (e ▸ hD)
    rcases pair_names F.hp hi hj hij hz hn with h3 | h3
    · have := h.cdone j z s hj hD hz
      unfold slotV at this ⊢
      rw [h1 j z hj h3 hz]; exact this
    · exact absurd (h.clD j z hj hD i h3) hDi
  · have hno : ∀ (j : Nat) (z : It), (mkIts E ops.toList)[j]? = some z → D j → z.o.dst ≠ some s := fun j z hj hD hz => hw ⟨j, z, hj, hD, hz⟩
    have := h.cund s hno
    unfold slotV at this ⊢
    rw [h2 fun j z hj hmj => hno j z hj (hm j hmj)]; exact this
/-- the operands of an effect, or of what is done now on the abstract side -/
theorem Sim.slotsNow (h : Sim F D d pl t ds S rs M w a gid) (hi : (mkIts E ops.toList)[i]? = some it) (hdi : d.testBit i = false) : Slots E ops.toList it t t F.t0 := by
  intro s hn
  refine ⟨fun _ _ _ _ _ => rfl, fun hno => h.aund s fun j z hj hb hz => ?_⟩
  have hij : i ≠ j := by rintro rfl; rw [hdi] at hb; cases hb
  rcases pair_names F.hp hi hj hij hz hn with h1 | h1
  · exact hno j z hj h1 hz
  · have := h.cld j z hj hb i h1
    rw [hdi] at this; cases this
theorem ev_slots {o : Op} {ty : PT Value} (hg : GlobOk E M) (h : ∀ s, .tmp s ∈ o.operands → VR M (slotV ty s) (a.tmps.getD s undef)) : ∀ x ∈ o.operands, VR M (evA E.ng ty x) (a.eval x) := by
  intro x hx
  cases x with
  | tmp n => exact h n hx
  | const v =>
    simp only [evA, Act.eval]
    split
    · rename_i hv; exact VR.of_gnd hv
    · exact .any _ _ _ _
  | global g =>
    simp only [evA, Act.eval]
    split
    · rename_i hv
      obtain ⟨n, hn⟩ := hg g ((memb_iff _ _).1 hv)
      exact .ptr _ _ _ _ hn
    · exact .any _ _ _ _
  | func f => exact .func _ _ _ _ _ _ (.func f) .nil .nil

/-! ### blocks that the machine has not made yet -/
theorem Rel.ghostAdd (h : Rel M S w) (o : AObj) (ho : o.plain) : Rel M (S.add o) w where
  dom i c n e := ⟨Nat.lt_succ_of_lt (h.dom i c n e).1, (h.dom i c n e).2⟩
  hdom i q e := by
    simp only [AS.add, PT.get_set] at e
    split at e
    · subst_vars; exact Nat.lt_succ_self _
    · exact Nat.lt_succ_of_lt (h.hdom i q e)
  inj i j c n m ei ej hij := by
    have hi := (h.dom _ _ _ ei).1
    have hj := (h.dom _ _ _ ej).1
    obtain ⟨t, k, e, t', k', e', g, h1, h2⟩ := h.inj i j c n m ei ej hij
    exact ⟨t, k, e, t', k', e', g, by simp only [AS.add]; rw [PT.get_set_ne _ _ (by omega)]; exact h1, by simp only [AS.add]; rw [PT.get_set_ne _ _ (by omega)]; exact h2⟩
  fam i t k e g hg := by
    simp only [AS.add, PT.get_set] at hg
    split at hg
    · cases hg; exact ho.elim
    · exact h.fam i t k e g hg
  obj i q c n hq e := by
    have hi := (h.dom _ _ _ e).1
    simp only [AS.add, PT.get_set] at hq
    rw [if_neg (by omega)] at hq
    exact h.obj i q c n hq e
  tot i c n e := by
    have hi := (h.dom _ _ _ e).1
    obtain ⟨o2, h2⟩ := h.tot i c n e
    exact ⟨o2, by simp only [AS.add]; rw [PT.get_set_ne _ _ (by omega)]; exact h2⟩
theorem Step.ghostAdd {M0 : Loc} {S0 : AS} {w0 : World} (h : Step M0 S0 w0 M S w) (o : AObj) (ho : o.plain) : Step M0 S0 w0 M (S.add o) w :=
  ⟨h.le, h.rel.ghostAdd o ho, h.newc, h.newi, Nat.le_succ_of_le h.next, fun i hi hn => by
    have := h.next
    simp only [AS.add]; rw [PT.get_set_ne _ _ (by omega)]; exact h.ghost i hi hn, h.size, h.frame, fun i t m hi => by
    obtain ⟨h1, h2⟩ := h.ro i t m hi
    exact ⟨by simp only [AS.add]; rw [PT.get_set_ne _ _ (by have := h.rel.hdom _ _ h1; omega)]; exact h1, h2⟩, h.tape, h.os, h.output⟩
/-- the machine makes it -/
theorem Step.ghostMade {M0 : Loc} {S0 : AS} {w0 : World} (h : Step M0 S0 w0 M S w) {id n : Nat} {o : AObj} {p : Obj} (hid : S.heap.get id = some o) (ho : o.plain) (hM : M id = none) (h0 : S0.next ≤ id)
    (hobj : ObjR (M.add id w.heap.size n) S.fams id n o p) : Step M0 S0 w0 (M.add id w.heap.size n) S { w with heap := w.heap.push p } := by
  have hle : M.le (M.add id w.heap.size n) := Loc.le_add hM
  have hR := h.rel
  have hold : ∀ i c m, (M.add id w.heap.size n) i = some (c, m) → (i = id ∧ c = w.heap.size ∧ m = n) ∨ (i ≠ id ∧ M i = some (c, m)) := by
    intro i c m e
    unfold Loc.add at e
    split at e
    · cases e; exact .inl ⟨‹_›, rfl, rfl⟩
    · exact .inr ⟨‹_›, e⟩
  refine ⟨Loc.le_trans h.le hle, ⟨?_, hR.hdom, ?_, hR.fam, ?_, fun i c m e => by
      rcases hold i c m e with ⟨rfl, _, _⟩ | ⟨_, e⟩
      · exact ⟨_, hid⟩
      · exact hR.tot i c m e⟩, ?_, ?_, h.next, h.ghost, Nat.le_trans h.size (by simp), ?_, fun i t m' hi => by
    obtain ⟨h1, h2⟩ := h.ro i t m' hi
    refine ⟨h1, fun c m2 e => ?_⟩
    rw [← h2 c m2 e]
    have hlt := (hR.dom _ _ _ (h.le _ _ e)).2
    exact Array.getElem?_push_lt hlt ▸ (Array.getElem?_eq_getElem hlt).symm ▸ rfl, h.tape, h.os, h.output⟩
  · intro i c m e
    rcases hold i c m e with ⟨rfl, rfl, rfl⟩ | ⟨_, e⟩
    · exact ⟨hR.hdom _ _ hid, by simp⟩
    · have := hR.dom i c m e; exact ⟨this.1, by simp; omega⟩
  · intro i j c m m' ei ej hij
    rcases hold i c m ei with ⟨hi, hc, _⟩ | ⟨hi, ei'⟩ <;> rcases hold j c m' ej with ⟨hj, hc', _⟩ | ⟨hj, ej'⟩
    · exact absurd (hi.trans hj.symm) hij
    · have := (hR.dom _ _ _ ej').2; omega
    · have := (hR.dom _ _ _ ei').2; omega
    · exact hR.inj i j c m m' ei' ej' hij
  · intro i q c m hq e
    rcases hold i c m e with ⟨rfl, rfl, rfl⟩ | ⟨hi, e⟩
    · rw [hid] at hq; cases hq; exact ⟨p, by simp, hobj⟩
    · obtain ⟨p', hp', hr⟩ := hR.obj i q c m hq e
      exact ⟨p', heap_push hp', hr.mono hle⟩
  · intro i c m e hn
    rcases hold i c m e with ⟨_, rfl, _⟩ | ⟨_, e⟩
    · exact .inr h.size
    · exact h.newc i c m e hn
  · intro i x e hn
    rcases hold i x.1 x.2 e with ⟨rfl, _, _⟩ | ⟨_, e⟩
    · exact h0
    · exact h.newi i x e hn
  · intro c hc hr
    have hs := h.size
    show (w.heap.push p)[c]? = _
    rw [Array.getElem?_push_lt (by omega)]
    rw [← h.frame c hc hr]
    exact (Array.getElem?_eq_getElem _).symm
end
end Go.Am

namespace Go.Am

section
variable {E : Env} (hE : EnvOk E) {sz : Nat} {ops : Array Oper} {F : Fix E sz ops} (rnd : Bool)
def Bnd (pl : List It) : Prop := match pl with
  | [] => True
  | it :: _ => it.c = .eff
theorem drawn_cons (it : It) (l : List It) (R : CallF) (t : PT Value) (ds : List Deferred) (S : AS) (rs : List Rec) (kk : K4) :
    (drawnW E sz rnd ops.toList (it :: l)).f R t ds S rs kk = turnK it.c it.mask S rs fun rs => (match it.o.guard with
      | none => (stepD E sz rnd it l).f R t ds S rs fun t ds S rs => (drawnW E sz rnd ops.toList l).f R t ds S rs kk
      | some gd => (wantedW (some gd) ops.toList).f t (fun _ => (stepD E sz rnd it l).f R t ds S rs fun t ds S rs => (drawnW E sz rnd ops.toList l).f R t ds S rs kk)
          (fun _ => (drawnW E sz rnd ops.toList l).f R (setDst sz t it.o.dst undefV) ds S rs kk)) := by
  have h0 : (drawnW E sz rnd ops.toList (it :: l)) = (match stepD E sz rnd it l, drawnW E sz rnd ops.toList l, it.c, it.mask with
    | ⟨f⟩, ⟨g⟩, c, mask => match it.o.guard with
      | none => ⟨fun R t ds S rs kk => turnK c mask S rs fun rs => f R t ds S rs fun t ds S rs => g R t ds S rs kk⟩
      | some gd => match wantedW (some gd) ops.toList, setD (β := OO) sz it.o.dst with
        | ⟨w⟩, ⟨d⟩ => ⟨fun R t ds S rs kk => turnK c mask S rs fun rs => w t (fun _ => f R t ds S rs fun t ds S rs => g R t ds S rs kk) (fun _ => d t undefV fun t => g R t ds S rs kk)⟩) := rfl
  rw [h0]
  cases hg : it.o.guard with
  | none => rfl
  | some gd =>
    show (turnK it.c it.mask S rs fun rs => (wantedW (some gd) ops.toList).f t (fun _ => (stepD E sz rnd it l).f R t ds S rs fun t ds S rs => (drawnW E sz rnd ops.toList l).f R t ds S rs kk)
      (fun _ => (setD (β := OO) sz it.o.dst).f t undefV fun t => (drawnW E sz rnd ops.toList l).f R t ds S rs kk)) = _
    simp only [setD_eq]
theorem stepRead_f (it : It) (asks : Bool) (R : CallF) (t : PT Value) (ds : List Deferred) (S : AS) (rs : List Rec) (kk : K4) :
    (stepRead E sz it asks).f R t ds S rs kk = match (runW (β := Value × AS) E it.o.op).f t S pairK with
      | some (v, _) => kk (setDst sz t it.o.dst v) ds S (if asks then ⟨it.bit, (runW (β := Value × AS) E it.o.op).f, t, v⟩ :: rs else rs)
      | none => none := by
  cases asks with
  | false =>
    have h0 : (stepRead E sz it false).f R t ds S rs kk = match (runW (β := Value × AS) E it.o.op).f t S pairK with
      | some (v, _) => (setD (β := OO) sz it.o.dst).f t v fun t => kk t ds S rs
      | none => none := rfl
    rw [h0]
    split <;> simp only [setD_eq] <;> rfl
  | true =>
    have h0 : (stepRead E sz it true).f R t ds S rs kk = match (runW (β := Value × AS) E it.o.op).f t S pairK with
      | some (v, _) => (setD (β := OO) sz it.o.dst).f t v fun t' => kk t' ds S (⟨it.bit, (runW (β := Value × AS) E it.o.op).f, t, v⟩ :: rs)
      | none => none := rfl
    rw [h0]
    split <;> simp only [setD_eq] <;> rfl
theorem stepFloat_f (it : It) (R : CallF) (t : PT Value) (ds : List Deferred) (S : AS) (rs : List Rec) (kk : K4) :
    (stepFloat E sz it).f R t ds S rs kk = match (runW (β := Value × AS) E it.o.op).f t S pairK with
      | some (v, S) => kk (setDst sz t it.o.dst v) ds S rs
      | none => none := by
  have h0 : (stepFloat E sz it).f R t ds S rs kk = match (runW (β := Value × AS) E it.o.op).f t S pairK with
    | some (v, S) => (setD (β := OO) sz it.o.dst).f t v fun t => kk t ds S rs
    | none => none := rfl
  rw [h0]
  split <;> simp only [setD_eq]
theorem turnK_ne {c : Cls} (h : c ≠ .eff) (mask : Nat) (S : AS) (rs : List Rec) (k : List Rec → OO) : turnK c mask S rs k = k rs := by
  cases c <;> first | rfl | exact absurd rfl h
include hE in
/-- the abstract side goes on to the next effect, or to the end -/
theorem adv {R : CallF} {kk : K4} {D : Nat → Prop} {ds : List Deferred} {M : Loc} {w : World} {a : Act} : ∀ (pl : List It) (d : Nat) (t : PT Value) (S : AS) (rs : List Rec) (gid : Nat → Option Nat) (outs : List Out),
    Sim F D d pl t ds S rs M w a gid → (drawnW E sz rnd ops.toList pl).f R t ds S rs kk = some outs →
    ∃ d' pl' t' S' rs' gid', Sim F D d' pl' t' ds S' rs' M w a gid' ∧ (drawnW E sz rnd ops.toList pl').f R t' ds S' rs' kk = some outs ∧ Bnd pl'
  | [], d, t, S, rs, gid, outs, h, hev => ⟨d, [], t, S, rs, gid, h, hev, trivial⟩
  | it :: l, d, t, S, rs, gid, outs, h, hev => by
    by_cases hc : it.c = .eff
    · exact ⟨d, it :: l, t, S, rs, gid, h, hev, hc⟩
    · have hne : isEff it.c = false := by cases hcc : it.c <;> first | rfl | exact absurd hcc hc
      obtain ⟨i, hi', hi⟩ := List.mem_iff_getElem.1 (h.mem it (by simp))
      have hi : (mkIts E ops.toList)[i]? = some it := by rw [List.getElem?_eq_getElem hi', hi]
      have ok := mkIts_ok E ops.toList hi
      rw [drawn_cons, turnK_ne hc] at hev
      have hnb := (order_cons h.order).2.1
      rw [ok.1, isBit_pow] at hnb
      -- not wanted
      have off : ∀ gd, it.o.guard = some gd → WantA ops.toList gd t false → (drawnW E sz rnd ops.toList l).f R (setDst sz t it.o.dst undefV) ds S rs kk = some outs →
          ∃ d' pl' t' S' rs' gid', Sim F D d' pl' t' ds S' rs' M w a gid' ∧ (drawnW E sz rnd ops.toList pl').f R t' ds S' rs' kk = some outs ∧ Bnd pl' := by
        intro gd hg hw h1
        refine adv l _ _ S rs gid outs (h.push hi hne h.step h.gids h.gidlt ?_ fun t' ht' => .off gd hg hw ht') h1
        intro j z hj hji ty t' ht' hp
        cases hp with
        | off gd2 hg2 hw2 hd2 => exact .off gd2 hg2 hw2 fun s hs => by rw [ht' s hs]; exact hd2 s hs
        | read hw2 v2 hd2 hc2 h2 =>
          refine .read hw2 v2 (fun s hs => by rw [ht' s hs]; exact hd2 s hs) hc2 ?_
          rcases h2 with h2 | ⟨h2, h3⟩
          · exact .inl h2
          · refine .inr ⟨h2, ?_⟩
            simp only [asksOn] at h3
            cases hcc : it.c <;> rw [hcc] at h3 <;> first | exact h3 | exact absurd hcc hc | cases h3
        | float hw2 v2 hd2 hc2 h2 => exact .float hw2 v2 (fun s hs => by rw [ht' s hs]; exact hd2 s hs) hc2 h2
      -- wanted
      have on : (it.o.guard = none ∨ ∃ gd, it.o.guard = some gd ∧ WantA ops.toList gd t true) → (stepD E sz rnd it l).f R t ds S rs (fun t ds S rs => (drawnW E sz rnd ops.toList l).f R t ds S rs kk) = some outs →
          ∃ d' pl' t' S' rs' gid', Sim F D d' pl' t' ds S' rs' M w a gid' ∧ (drawnW E sz rnd ops.toList pl').f R t' ds S' rs' kk = some outs ∧ Bnd pl' := by
        intro hw h1
        -- reads
        have rd : (it.c = .pure ∨ it.c = .read) → ∃ d' pl' t' S' rs' gid', Sim F D d' pl' t' ds S' rs' M w a gid' ∧ (drawnW E sz rnd ops.toList pl').f R t' ds S' rs' kk = some outs ∧ Bnd pl' := by
          intro hcl
          have h2 : (stepRead E sz it (asksOn it.bit l)).f R t ds S rs (fun t ds S rs => (drawnW E sz rnd ops.toList l).f R t ds S rs kk) = some outs := by
            have : stepD E sz rnd it l = stepRead E sz it (asksOn it.bit l) := by
              unfold stepD
              rcases hcl with hcl | hcl <;> rw [hcl]
            rw [← this]; exact h1
          rw [stepRead_f] at h2
          split at h2
          case h_2 => cases h2
          rename_i v S1 hf
          refine adv l _ _ S _ gid outs (h.push hi hne h.step h.gids h.gidlt ?_ fun t' ht' => .read hw v ht' hcl ?_) h2
          · intro j z hj hji ty t' ht' hp
            cases hp with
            | off gd2 hg2 hw2 hd2 => exact .off gd2 hg2 hw2 fun s hs => by rw [ht' s hs]; exact hd2 s hs
            | read hw2 v2 hd2 hc2 h2 =>
              refine .read hw2 v2 (fun s hs => by rw [ht' s hs]; exact hd2 s hs) hc2 ?_
              rcases h2 with h2 | ⟨h2, h3⟩
              · left
                split
                · exact List.mem_cons_of_mem _ h2
                · exact h2
              · refine .inr ⟨h2, ?_⟩
                simp only [asksOn] at h3
                rcases hcl with hcl | hcl <;> (rw [hcl] at h3; exact h3)
            | float hw2 v2 hd2 hc2 h2 => exact .float hw2 v2 (fun s hs => by rw [ht' s hs]; exact hd2 s hs) hc2 h2
          · cases hask : asksOn it.bit l with
            | true => left; simp
            | false => exact .inr ⟨⟨S1, hf⟩, hask⟩
        -- new blocks
        have fl : it.c = .float → ∃ d' pl' t' S' rs' gid', Sim F D d' pl' t' ds S' rs' M w a gid' ∧ (drawnW E sz rnd ops.toList pl').f R t' ds S' rs' kk = some outs ∧ Bnd pl' := by
          intro hcl
          have h2 : (stepFloat E sz it).f R t ds S rs (fun t ds S rs => (drawnW E sz rnd ops.toList l).f R t ds S rs kk) = some outs := by
            have : stepD E sz rnd it l = stepFloat E sz it := by unfold stepD; rw [hcl]
            rw [← this]; exact h1
          rw [stepFloat_f] at h2
          split at h2
          case h_2 => cases h2
          rename_i v S1 hf
          obtain ⟨o, ho, rfl, hfr⟩ := float_F hE it.o.op (ok.2.2.1 ▸ hcl) t S v S1 hf
          have hfresh := h.step.rel.fresh
          refine adv l _ _ (S.add o) rs (fun x => if x = i then some S.next else gid x) outs (h.push hi hne (h.step.ghostAdd o ho) ?_ ?_ ?_ fun t' ht' => .float hw v ht' hcl ?_) h2
          · intro x y id hx hy
            split at hx <;> split at hy
            · subst_vars; rfl
            · cases hx; have := h.gidlt y _ hy; omega
            · cases hy; have := h.gidlt x _ hx; omega
            · exact h.gids x y id hx hy
          · intro x id hx
            split at hx
            · cases hx; exact Nat.lt_succ_self _
            · exact Nat.lt_succ_of_lt (h.gidlt x id hx)
          · intro j z hj hji ty t' ht' hp
            simp only [if_neg hji]
            cases hp with
            | off gd2 hg2 hw2 hd2 => exact .off gd2 hg2 hw2 fun s hs => by rw [ht' s hs]; exact hd2 s hs
            | read hw2 v2 hd2 hc2 h2 =>
              refine .read hw2 v2 (fun s hs => by rw [ht' s hs]; exact hd2 s hs) hc2 ?_
              rcases h2 with h2 | ⟨h2, h3⟩
              · exact .inl h2
              · simp only [asksOn, hcl] at h3; cases h3
            | float hw2 v2 hd2 hc2 h2 =>
              obtain ⟨id, o2, e1, e2, e3, e4, e5, e6⟩ := h2
              have hlt := h.gidlt j id e1
              exact .float hw2 v2 (fun s hs => by rw [ht' s hs]; exact hd2 s hs) hc2 ⟨id, o2, e1, e2, by simp only [AS.add]; rw [PT.get_set_ne _ _ (by omega)]; exact e3, e4, e5, e6⟩
          · refine ⟨S.next, o, by simp, ho, by simp only [AS.add, PT.get_set_self], hfresh, h.step.next, hfr⟩
        cases hcc : it.c with
        | eff => exact absurd hcc hc
        | pure => exact rd (.inl hcc)
        | read => exact rd (.inr hcc)
        | float => exact fl hcc
      cases hg : it.o.guard with
      | none => rw [hg] at hev; exact on (.inl hg) hev
      | some gd =>
        rw [hg] at hev
        rcases wantedW_A hev with ⟨h1, h2⟩ | ⟨h1, h2⟩
        · exact on (.inr ⟨gd, hg, h2⟩) h1
        · exact off gd hg h2 h1

/-- at a boundary all reads that are still undone come to what they came to -/
theorem bnd_again {R : CallF} {kk : K4} {pl : List It} {t : PT Value} {ds : List Deferred} {S : AS} {rs : List Rec} {outs : List Out} (hb : Bnd pl) (hev : (drawnW E sz rnd ops.toList pl).f R t ds S rs kk = some outs) : allAgain S rs = true := by
  cases pl with
  | nil =>
    have h1 : ifB (allAgain S rs) (kk t ds S rs) none = some outs := hev
    rw [ifB_eq] at h1
    split at h1
    · assumption
    · cases h1
  | cons it l =>
    have hc : it.c = .eff := hb
    rw [drawn_cons, hc] at hev
    simp only [turnK, ifB_eq] at hev
    split at hev
    · assumption
    · cases hev
include hE in
/-- a region in any order -/
theorem sim_main {R : CallF} (hRc : CallS E R) {kk : K4} {b : Frame} {k : List Item} {cs : List Frame} (hcalm : Calm b.kind cs) (hro : b.roundOf.isSome = rnd) :
    ∀ (D : Nat → Prop) (l : List Nat), Sched ops D l → ∀ (d : Nat) (pl : List It) (t : PT Value) (ds : List Deferred) (S : AS) (rs : List Rec) (M : Loc) (w : World) (a : Act) (gid : Nat → Option Nat) (outs : List Out),
    Sim F D d pl t ds S rs M w a gid → Bnd pl → (drawnW E sz rnd ops.toList pl).f R t ds S rs kk = some outs →
    ∃ t' ds' S' rs' outs', kk t' ds' S' rs' = some outs' ∧ (∀ x ∈ outs', x ∈ outs) ∧ ∃ a' w' M',
      Steps E.P (lone (b.atR a (.inRegion ops l :: k)) cs w) (lone (b.atR a' (.inRegion ops [] :: k)) cs w') ∧ Step F.M0 F.S0 F.w0 M' S' w' ∧ StR E sz M' t' ds' S' a' w' := by
  intro D l hs
  induction hs with
  | nil D hall =>
    intro d pl t ds S rs M w a gid outs h hb hev
    cases pl with
    | cons it l =>
      exfalso
      obtain ⟨i, hi', hi⟩ := List.mem_iff_getElem.1 (h.mem it (by simp))
      have hi : (mkIts E ops.toList)[i]? = some it := by rw [List.getElem?_eq_getElem hi', hi]
      have ok := mkIts_ok E ops.toList hi
      have hnb := (order_cons h.order).2.1
      rw [ok.1, isBit_pow] at hnb
      have := h.sub i (hall i (by rw [mkIts_len] at hi'; simpa using hi'))
      rw [hnb] at this; cases this
    | nil =>
      have h1 : ifB (allAgain S rs) (kk t ds S rs) none = some outs := hev
      rw [ifB_eq] at h1
      split at h1
      case isFalse => cases h1
      refine ⟨t, ds, S, rs, outs, h1, fun _ hx => hx, a, w, M, .refl _ _, h.step, h.step.rel, h.glob, ⟨h.size, fun s => ?_⟩, h.dsr⟩
      by_cases hw : ∃ (j : Nat) (z : It), (mkIts E ops.toList)[j]? = some z ∧ D j ∧ z.o.dst = some s
      · obtain ⟨j, z, hj, hD, hz⟩ := hw
        exact h.cdone j z s hj hD hz
      · have hno : ∀ (j : Nat) (z : It), (mkIts E ops.toList)[j]? = some z → D j → z.o.dst ≠ some s := fun j z hj hD hz => hw ⟨j, z, hj, hD, hz⟩
        have h2 := h.aund s fun j z hj _ => hno j z hj (hall j (by
          have := (List.getElem?_eq_some_iff.1 hj).1
          rw [mkIts_len] at this; simpa using this))
        rw [h2]
        exact h.cund s hno
  | cons D i l o ho hn he hsch ih =>
    intro d pl t ds S rs M w a gid outs h hb hev
    have hio : ∃ it, (mkIts E ops.toList)[i]? = some it := by
      have : i < (mkIts E ops.toList).length := by
        rw [mkIts_len]
        have := (Array.getElem?_eq_some_iff.1 ho).1
        simpa using this
      exact ⟨_, List.getElem?_eq_getElem this⟩
    obtain ⟨it, hi⟩ := hio
    have ok := mkIts_ok E ops.toList hi
    have hito : it.o = o := by
      have := ok.2.1
      rw [Array.getElem?_toList, ho] at this
      exact (Option.some.inj this).symm
    have hoi : ops[i]? = some it.o := by rw [hito]; exact ho
    -- all ahead of it is done
    have hm : ∀ x, it.mask.testBit x = true → D x := by
      intro x hx
      obtain ⟨e, h1, h2, h3, h4⟩ := ok.2.2.2.2.2 x hx
      rw [hito] at h1
      have hDe := he e h1 h2
      rcases h4 with rfl | ⟨it', h5, h6⟩
      · exact hDe
      · exact h.clD _ it' h5 hDe x h6
    have hagain := bnd_again rnd hb hev
    by_cases hdi : d.testBit i = true
    · -- the abstract side has done it
      obtain ⟨ty, hsl, hp⟩ := h.pend i it hi hdi hn
      have hop := h.opnd hi hn hm hsl
      have hops := ev_slots (E := E) (M := M) (a := a) (o := it.o.op) (ty := ty) h.glob fun s hs => hop s (ok.names hs)
      -- a value that leaves the state alone, or a new block
      have finish : ∀ {v v' : Value} {M' : Loc} {w' : World}, Step F.M0 F.S0 F.w0 M' S w' → M.le M' → (∀ s, it.o.dst = some s → t.get s = some v) → VR M' v v' →
          (∀ j id, j ≠ i → gid j = some id → M id = none → M' id = none) →
          Steps E.P (lone (b.atR a (.inRegion ops (i :: l) :: k)) cs w) (lone (b.atR (a.put it.o.dst v') (.inRegion ops l :: k)) cs w') →
          ∃ t' ds' S' rs' outs', kk t' ds' S' rs' = some outs' ∧ (∀ x ∈ outs', x ∈ outs) ∧ ∃ a' w' M',
            Steps E.P (lone (b.atR a (.inRegion ops (i :: l) :: k)) cs w) (lone (b.atR a' (.inRegion ops [] :: k)) cs w') ∧ Step F.M0 F.S0 F.w0 M' S' w' ∧ StR E sz M' t' ds' S' a' w' := by
        intro v v' M' w' hst hle hv hvv hg hsteps
        obtain ⟨t', ds', S', rs', outs', g1, g2, a', w2, M2, g3, g4, g5⟩ := ih d pl t ds S rs M' w' (a.put it.o.dst v') gid outs (h.catchUp hi hdi hm hst hle hv hvv hg) hb hev
        exact ⟨t', ds', S', rs', outs', g1, g2, a', w2, M2, hsteps.trans g3, g4, g5⟩
      have wanted : (it.o.guard = none ∨ ∃ gd, it.o.guard = some gd ∧ WantA ops.toList gd ty true) → Region.wanted it.o (yielded ops a.tmps) = true := by
        rintro (hg | ⟨gd, hg, hw⟩)
        · simp [Region.wanted, hg]
        · exact WantA_S hg hw fun s hs => hop s (ok.guardName hg hs)
      have hnd : ∀ {c : Cls}, it.c = c → c ≠ .eff → ∀ cc, it.o.op ≠ .defer cc := by
        intro c hc hce cc hd
        rw [ok.2.2.1, hd] at hc
        exact hce (by rw [← hc]; rfl)
      cases hp with
      | off gd hg hw hd =>
        have hwf := WantA_S hg hw (a := a) (M := M) fun s hs => hop s (ok.guardName hg hs)
        exact finish h.step M.le_refl hd (VR.undef M) (fun _ _ _ _ h => h) (step_skipped hE hoi hwf)
      | read hw v hd hc hpv =>
        obtain ⟨S1, hf⟩ : ∃ S1, (runW (β := Value × AS) E it.o.op).f ty S pairK = some (v, S1) := by
          rcases hpv with h1 | ⟨h1, _⟩
          · exact allAgain_mem hagain _ h1
          · exact h1
        obtain ⟨v2, v', h2, h3, h4⟩ := pr_P hE it.o.op (by rw [← ok.2.2.1]; exact hc) ty S _ _ hf M w a.eval h.step.rel hops it.o rfl
        simp only [pairK, Option.some.injEq, Prod.mk.injEq] at h2
        obtain ⟨rfl, _⟩ := h2
        obtain ⟨u, w2, ⟨rfl, rfl⟩, hsteps⟩ := op_apply (b := b) (rest := l) (k := k) (cs := cs) hoi (wanted hw) (by rcases hc with hc | hc <;> exact hnd hc (by simp)) h3 (Post := fun v w => v = v' ∧ w = _) ⟨rfl, rfl⟩
        exact finish h.step M.le_refl hd h4 (fun _ _ _ _ h => h) hsteps
      | float hw v hd hc hfl =>
        obtain ⟨id, ob, e1, e2, e3, e4, e5, e6⟩ := hfl
        obtain ⟨p, n, v', h3, h4, h5⟩ := e6 M w a.eval e4 hops it.o rfl
        obtain ⟨u, w2, ⟨rfl, rfl⟩, hsteps⟩ := op_apply (b := b) (rest := l) (k := k) (cs := cs) hoi (wanted hw) (hnd hc (by simp)) h3 (Post := fun v w => v = v' ∧ w = _) ⟨rfl, rfl⟩
        refine finish (h.step.ghostMade e3 e2 e4 e5 (h4 _)) (Loc.le_add e4) hd h5 ?_ hsteps
        intro j id2 hji hid hM
        have hne : id2 ≠ id := fun e => hji (h.gids j i id2 hid (e ▸ e1))
        simp only [Loc.add, if_neg hne]; exact hM
    · -- it must be the next effect
      have hdf : d.testBit i = false := by simpa using hdi
      have hce : it.c = .eff := by
        cases hcc : it.c with
        | eff => rfl
        | _ =>
          exfalso
          have heager : eagerOk d (mkIts E ops.toList) = true ∨ allDone d (mkIts E ops.toList) = true := by
            cases pl with
            | nil => exact .inr h.order
            | cons e pl2 => exact .inl ((order_cons h.order).2.2.1 (by have : e.c = .eff := hb; rw [this]; rfl))
          rcases heager with hh | hh
          · rcases eagerOk_mem hh it (List.mem_of_getElem? hi) with h1 | h1 | h1
            · rw [hcc] at h1; cases h1
            · rw [ok.1, isBit_pow, hdf] at h1; cases h1
            · rw [within_of fun x hx => h.sub x (hm x hx)] at h1; cases h1
          · have h1 := allDone_mem hh it (List.mem_of_getElem? hi)
            rw [ok.1, isBit_pow, hdf] at h1; cases h1
      cases pl with
      | nil =>
        exfalso
        have h1 := allDone_mem (show allDone d (mkIts E ops.toList) = true from h.order) it (List.mem_of_getElem? hi)
        rw [ok.1, isBit_pow, hdf] at h1; cases h1
      | cons e pl2 =>
        have hec : e.c = .eff := hb
        obtain ⟨j, hj', hj⟩ := List.mem_iff_getElem.1 (h.mem e (by simp))
        have hj : (mkIts E ops.toList)[j]? = some e := by rw [List.getElem?_eq_getElem hj', hj]
        have oke := mkIts_ok E ops.toList hj
        obtain ⟨hwe, hnbe, _, _⟩ := order_cons h.order
        rw [oke.1, isBit_pow] at hnbe
        have hij : i = j := by
          by_cases hij : i = j
          · exact hij
          · exfalso
            rcases pair_eff F.hp hi hj hij (by rw [hce]; rfl) (by rw [hec]; rfl) with h1 | h1
            · have := h.sub j (hm j h1)
              rw [hnbe] at this; cases this
            · have := within_bits hwe h1
              rw [hdf] at this; cases this
        subst hij
        rw [hi] at hj; cases hj
        rw [drawn_cons, hce] at hev
        simp only [turnK, ifB_eq, hagain, if_true, keepK_eq] at hev
        have hsl := h.slotsNow hi hdf
        have hop := h.opnd hi hn hm hsl
        have hops := ev_slots (E := E) (M := M) (a := a) (o := it.o.op) (ty := t) h.glob fun s hs => hop s (ok.names hs)
        -- on both sides, then on to the next boundary
        have finish : ∀ {v v' : Value} {M' : Loc} {S' : AS} {w' : World} {ds' defs' : List Deferred} {outs1 : List Out}, Step M S w M' S' w' → VR M' v v' → LR (DefR M') ds' defs' →
            (drawnW E sz rnd ops.toList pl2).f R (setDst sz t it.o.dst v) ds' S' (rs.filter fun r => !(isBit it.mask r.bit)) kk = some outs1 → (∀ x ∈ outs1, x ∈ outs) →
            Steps E.P (lone (b.atR a (.inRegion ops (i :: l) :: k)) cs w) (lone (b.atR (Act.put ⟨a.tmps, defs'⟩ it.o.dst v') (.inRegion ops l :: k)) cs w') →
            ∃ t' ds' S' rs' outs', kk t' ds' S' rs' = some outs' ∧ (∀ x ∈ outs', x ∈ outs) ∧ ∃ a' w' M',
              Steps E.P (lone (b.atR a (.inRegion ops (i :: l) :: k)) cs w) (lone (b.atR a' (.inRegion ops [] :: k)) cs w') ∧ Step F.M0 F.S0 F.w0 M' S' w' ∧ StR E sz M' t' ds' S' a' w' := by
          intro v v' M' S' w' ds' defs' outs1 hst hvv hds h1 hsub hsteps
          obtain ⟨d2, pl3, t2, S2, rs2, gid2, hsim, h2, hb2⟩ := adv hE rnd pl2 _ _ _ _ _ _ (h.effect hi hm hce hst hvv hds) h1
          obtain ⟨t', ds2, S3, rs3, outs', g1, g2, a', w2, M2, g3, g4, g5⟩ := ih d2 pl3 t2 ds' S2 rs2 M' w' _ gid2 outs1 hsim hb2 h2
          exact ⟨t', ds2, S3, rs3, outs', g1, fun x hx => hsub x (g2 x hx), a', w2, M2, hsteps.trans g3, g4, g5⟩
        have on : Region.wanted it.o (yielded ops a.tmps) = true → (stepD E sz rnd it pl2).f R t ds S (rs.filter fun r => !(isBit it.mask r.bit)) (fun t ds S rs => (drawnW E sz rnd ops.toList pl2).f R t ds S rs kk) = some outs →
            ∃ t' ds' S' rs' outs', kk t' ds' S' rs' = some outs' ∧ (∀ x ∈ outs', x ∈ outs) ∧ ∃ a' w' M',
              Steps E.P (lone (b.atR a (.inRegion ops (i :: l) :: k)) cs w) (lone (b.atR a' (.inRegion ops [] :: k)) cs w') ∧ Step F.M0 F.S0 F.w0 M' S' w' ∧ StR E sz M' t' ds' S' a' w' := by
          intro hw h1
          have h2 : (operW E sz rnd it.o).f R t ds S (fun t ds S => (drawnW E sz rnd ops.toList pl2).f R t ds S (rs.filter fun r => !(isBit it.mask r.bit)) kk) = some outs := by
            have : stepD E sz rnd it pl2 = stepEff E sz rnd it := by unfold stepD; rw [hce]
            rw [this] at h1
            exact h1
          obtain ⟨v, ds', S', outs1, g1, g2, v', defs', w', M', g3, g4, g5, g6⟩ := operW_S hE sz rnd it.o R hRc t ds S _ outs h2 M w a b ops i l k cs h.step.rel h.glob hops h.dsr hcalm hro hoi hw
          exact finish g4 g5 g6 g1 g2 g3
        cases hg : it.o.guard with
        | none =>
          rw [hg] at hev
          exact on (by simp [Region.wanted, hg]) hev
        | some gd =>
          rw [hg] at hev
          rcases wantedW_A hev with ⟨h1, h2⟩ | ⟨h1, h2⟩
          · exact on (WantA_S hg h2 fun s hs => hop s (ok.guardName hg hs)) h1
          · have hwf := WantA_S hg h2 (a := a) (M := M) fun s hs => hop s (ok.guardName hg hs)
            refine finish (defs' := a.defers) (Step.refl h.step.rel) (VR.undef M) h.dsr h1 (fun _ hx => hx) ?_
            exact step_skipped hE hoi hwf
include hE in
theorem drawnRegion_S {R : CallF} (hRc : CallS E R) {b : Frame} {k : List Item} {cs : List Frame} (hcalm : Calm b.kind cs) (hro : b.roundOf.isSome = rnd) (id : Nat)
    {t : PT Value} {ds : List Deferred} {S : AS} {kk : K3} {outs : List Out} (hev : (drawnRegion E sz rnd ops.toList).f R t ds S kk = some outs) {M : Loc} {w : World} {a : Act} (hst : StR E sz M t ds S a w) :
    ∃ t' ds' S' outs', kk t' ds' S' = some outs' ∧ (∀ x ∈ outs', x ∈ outs) ∧ ∃ a' w' M',
      Steps E.P (lone (b.atR a (.code (.region id ops true) :: k)) cs w) (lone (b.atR a' k) cs w') ∧ Step M S w M' S' w' ∧ StR E sz M' t' ds' S' a' w' := by
  have h0 : drawnRegion E sz rnd ops.toList = (match edgesOk ops.toList 0 && dstsIn sz ops.toList && pairsOk (mkIts E ops.toList) && orderOk (mkIts E ops.toList) (plan (mkIts E ops.toList) (mkIts E ops.toList) 0) 0 with
      | false => noO
      | true => match drawnW E sz rnd ops.toList (plan (mkIts E ops.toList) (mkIts E ops.toList) 0) with
        | ⟨f⟩ => ⟨fun R t ds S kk => f R t ds S [] fun t ds S _ => kk t ds S⟩) := rfl
  rw [h0] at hev
  split at hev
  · cases hev
  · rename_i hok
    simp only [Bool.and_eq_true] at hok
    obtain ⟨⟨⟨hedges, hdsts⟩, hpairs⟩, horder⟩ := hok
    have hev' : (drawnW E sz rnd ops.toList (plan (mkIts E ops.toList) (mkIts E ops.toList) 0)).f R t ds S [] (fun t ds S _ => kk t ds S) = some outs := hev
    let w1 : World := { w with drawn := w.drawn + 1 }
    let F : Fix E sz ops := ⟨t, S, M, w1, hpairs, fun i it s hi hs => by
      have ok := mkIts_ok E ops.toList hi
      exact dstsIn_mem hdsts it.o (List.mem_of_getElem? ok.2.1) s hs⟩
    have hsim : Sim F (fun _ => False) 0 (plan (mkIts E ops.toList) (mkIts E ops.toList) 0) t ds S [] M w1 a (fun _ => none) := by
      refine ⟨horder, fun it hit => ?_, fun i hi => hi.elim, ?_, fun _ _ _ h => h.elim, ?_, Step.refl (hst.rel.drawn _), hst.glob, hst.ds, hst.tm.1, fun _ _ _ _ h => h.elim, fun s _ => hst.tm.2 s, fun _ _ => rfl, ?_, fun _ _ _ h => (by cases h), fun _ _ h => (by cases h)⟩
      · rcases plan_mem _ _ _ it hit with h | h <;> exact h
      · intro i it _ _ h; simp at h
      · intro i it _ h; simp at h
      · intro i it _ h; simp at h
    obtain ⟨d', pl', t', S', rs', gid', hsim', hev2, hb⟩ := adv hE rnd _ _ _ _ _ _ _ hsim hev'
    have hsched := schedule_sched hedges (w.tape w.drawn (.order b.fn id))
    rw [← hE.mixed] at hsched
    obtain ⟨t2, ds2, S2, rs2, outs', g1, g2, a', w', M', g3, g4, g5⟩ := sim_main hE rnd hRc (b := b) (k := k) (cs := cs) hcalm hro _ _ hsched _ _ _ _ _ _ _ _ _ _ _ hsim' hb hev2
    refine ⟨t2, ds2, S2, outs', g1, g2, a', w', M', (Steps.head stepR_region_draw g3).trans (.one stepR_region_end), ?_, g5⟩
    exact ((Step.refl hst.rel).drawn _).trans g4
end
end Go.Am
