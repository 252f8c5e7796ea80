/-
  WHAT THE EVALUATOR SAYS OF A CALL IS WHAT THE MODEL DOES, whatever the tape ('calls_of_eval'). Conditions: the tables of the evaluator are the program's; the state in which the call begins is one that the evaluator's state stands for.
-/
import Derived.Test.YtpihjohdjnmhpaaGreatDoorAmC
import Derived.Lib.Bytealg
import Derived.KernelRfl
set_option autoImplicit false
set_option linter.unusedSectionVars false
set_option linter.unusedVariables false
set_option linter.unusedSimpArgs false
namespace Go.Am

/-! ## code -/
/-- how code is left other than off its end -/
def Left (P : Program) (m : Machine) (b : Frame) (k : List Item) (cs : List Frame) : AExit → Act → World → Prop
  | .normal, _, _ => False
  | .exit id, a, w => (∀ k', exitTo id k = some k' → Steps P m (lone (b.atR a k') cs w)) ∧ (exitTo id k = none → ∃ k₁, exitTo id k₁ = none ∧ Steps P m (lone (b.atR a (.code (.exit id) :: k₁)) cs w))
  | .ret, a, w => ∃ k₁, Steps P m (lone (b.atR a (.code .ret :: k₁)) cs w)
theorem Left.of_steps {P : Program} {m m₁ : Machine} {b : Frame} {k : List Item} {cs : List Frame} {e : AExit} {a : Act} {w : World} (h : Steps P m m₁) (h' : Left P m₁ b k cs e a w) : Left P m b k cs e a w := by
  cases e with
  | normal => exact h'
  | exit id => exact ⟨fun k' hk => h.trans (h'.1 k' hk), fun hk => let ⟨k₁, h1, h2⟩ := h'.2 hk; ⟨k₁, h1, h.trans h2⟩⟩
  | ret => obtain ⟨k₁, hs⟩ := h'; exact ⟨k₁, h.trans hs⟩
theorem Left.pass {P : Program} {m : Machine} {b : Frame} {x : Item} {k : List Item} {cs : List Frame} {e : AExit} {a : Act} {w : World} (hx : ∀ id, exitTo id (x :: k) = exitTo id k) (h : Left P m b (x :: k) cs e a w) : Left P m b k cs e a w := by
  cases e with
  | normal => exact h
  | exit id => exact ⟨fun k' hk => h.1 k' (by rw [hx]; exact hk), fun hk => h.2 (by rw [hx]; exact hk)⟩
  | ret => exact h
structure Ctx (fn : FuncId) (rnd : Bool) (i : Nat) (M : Loc) (b : Frame) (cs : List Frame) : Prop where
  calm : Calm b.kind cs
  round : b.roundOf.isSome = rnd
  fn : b.fn = fn
  loop : ∀ l, b.roundOf = some l → ∃ n, M i = some (l, n)
theorem Ctx.mono {fn : FuncId} {rnd : Bool} {i : Nat} {M M' : Loc} {b : Frame} {cs : List Frame} (hle : M.le M') (h : Ctx fn rnd i M b cs) : Ctx fn rnd i M' b cs :=
  ⟨h.calm, h.round, h.fn, fun l hl => let ⟨n, hn⟩ := h.loop l hl; ⟨n, hle _ _ hn⟩⟩
/-- the machine m comes to where the evaluator goes on with kk, or leaves by one of outs -/
def Comes (E : Env) (sz : Nat) (m : Machine) (b : Frame) (k : List Item) (cs : List Frame) (kk : K3) (outs : List Out) (M : Loc) (S : AS) (w : World) : Prop :=
  (∃ t' ds' S' outs', kk t' ds' S' = some outs' ∧ (∀ x ∈ outs', x ∈ outs) ∧ ∃ a' w' M', Steps E.P m (lone (b.atR a' k) cs w') ∧ Step M S w M' S' w' ∧ StR E sz M' t' ds' S' a' w') ∨
  (∃ o ∈ outs, ∃ a' w' M', Left E.P m b k cs o.e a' w' ∧ Step M S w M' o.S w' ∧ StR E sz M' o.t o.ds o.S a' w')
def CodeS (E : Env) (sz : Nat) (fn : FuncId) (rnd : Bool) (f : CodeF) (c : Code) : Prop :=
  ∀ (R : CallF), CallS E R → ∀ (i : Nat) (t : PT Value) (ds : List Deferred) (S : AS) (kk : K3) (outs : List Out), f R i t ds S kk = some outs →
    ∀ (M : Loc) (w : World) (a : Act) (b : Frame) (k : List Item) (cs : List Frame), StR E sz M t ds S a w → Ctx fn rnd i M b cs →
    Comes E sz (lone (b.atR a (.code c :: k)) cs w) b k cs kk outs M S w
theorem Comes.of_steps {E : Env} {sz : Nat} {m m1 : Machine} {b : Frame} {k : List Item} {cs : List Frame} {kk : K3} {outs : List Out} {M M1 : Loc} {S S1 : AS} {w w1 : World}
    (h : Steps E.P m m1) (hst : Step M S w M1 S1 w1) (h' : Comes E sz m1 b k cs kk outs M1 S1 w1) : Comes E sz m b k cs kk outs M S w := by
  rcases h' with ⟨t', ds', S', outs', h1, h2, a', w', M', h3, h4, h5⟩ | ⟨o, ho, a', w', M', h3, h4, h5⟩
  · exact .inl ⟨t', ds', S', outs', h1, h2, a', w', M', h.trans h3, hst.trans h4, h5⟩
  · exact .inr ⟨o, ho, a', w', M', .of_steps h h3, hst.trans h4, h5⟩
theorem Comes.sub {E : Env} {sz : Nat} {m : Machine} {b : Frame} {k : List Item} {cs : List Frame} {kk : K3} {outs outs1 : List Out} {M : Loc} {S : AS} {w : World}
    (h' : Comes E sz m b k cs kk outs1 M S w) (hs : ∀ x ∈ outs1, x ∈ outs) : Comes E sz m b k cs kk outs M S w := by
  rcases h' with ⟨t', ds', S', outs', h1, h2, h3⟩ | ⟨o, ho, h3⟩
  · exact .inl ⟨t', ds', S', outs', h1, fun x hx => hs x (h2 x hx), h3⟩
  · exact .inr ⟨o, hs o ho, h3⟩
section
variable {E : Env} (hE : EnvOk E) (sz : Nat) (fn : FuncId)
theorem nop_S {rnd : Bool} {c : Code} (hstep : ∀ (b : Frame) (a : Act) (k : List Item) (cs : List Frame) (w : World), step E.P (lone (b.atR a (.code c :: k)) cs w) = .next (lone (b.atR a k) cs w)) :
    CodeS E sz fn rnd (fun _ _ t ds S kk => kk t ds S) c := by
  intro R hRc i t ds S kk outs h M w a b k cs hst hctx
  exact .inl ⟨t, ds, S, outs, h, fun _ hx => hx, a, w, M, .one (hstep b a k cs w), Step.refl hst.rel, hst⟩
theorem ret_S {rnd : Bool} : CodeS E sz fn rnd (fun _ _ t ds S _ => one ⟨.ret, t, ds, S⟩) .ret := by
  intro R hRc i t ds S kk outs h M w a b k cs hst hctx
  cases h
  exact .inr ⟨_, List.mem_singleton.2 rfl, a, w, M, ⟨k, .refl _ _⟩, Step.refl hst.rel, hst⟩
theorem exit_S {rnd : Bool} (j : Nat) : CodeS E sz fn rnd (fun _ _ t ds S _ => one ⟨.exit j, t, ds, S⟩) (.exit j) := by
  intro R hRc i t ds S kk outs h M w a b k cs hst hctx
  cases h
  exact .inr ⟨_, List.mem_singleton.2 rfl, a, w, M, ⟨fun k' hk => .one (stepR_exit hk), fun hk => ⟨k, hk, .refl _ _⟩⟩, Step.refl hst.rel, hst⟩
theorem none_S {rnd : Bool} (c : Code) : CodeS E sz fn rnd (fun _ _ _ _ _ _ => none) c := fun _ _ _ _ _ _ _ _ h => by cases h
theorem seq_S {rnd : Bool} {f g : CodeF} {x y : Code} (hf : CodeS E sz fn rnd f x) (hg : CodeS E sz fn rnd g y) : CodeS E sz fn rnd (fun R i t ds S kk => f R i t ds S fun t ds S => g R i t ds S kk) (.seq x y) := by
  intro R hRc i t ds S kk outs h M w a b k cs hst hctx
  rcases hf R hRc i t ds S _ outs h M w a b (.code y :: k) cs hst hctx with ⟨t1, ds1, S1, outs1, h1, h2, a1, w1, M1, h3, h4, h5⟩ | ⟨o, ho, a', w', M', h3, h4, h5⟩
  · exact .of_steps ((Steps.one stepR_seq).trans h3) h4 ((hg R hRc i t1 ds1 S1 kk outs1 h1 M1 w1 a1 b k cs h5 (hctx.mono h4.le)).sub h2)
  · exact .inr ⟨o, ho, a', w', M', .of_steps (.one stepR_seq) (.pass (x := .code y) (fun id => by simp [exitTo]) h3), h4, h5⟩
theorem cond_S {rnd : Bool} {f g : CodeF} {c : Operand} {x y : Code} (hf : CodeS E sz fn rnd f x) (hg : CodeS E sz fn rnd g y) :
    CodeS E sz fn rnd (fun R i t ds S kk => (evW (β := OO) E.ng c).f t fun v => aPick v (f R i t ds S kk) (g R i t ds S kk)) (.cond c x y) := by
  intro R hRc i t ds S kk outs h M w a b k cs hst hctx
  simp only [evW_eq] at h
  have hv := hst.tm.ev hst.glob c
  unfold aPick at h
  split at h
  · rename_i bb hbb
    rw [hbb] at hv
    have hvb := hv.bool_inv
    cases bb with
    | true => exact .of_steps (.one (stepR_cond hvb)) (Step.refl hst.rel) (hf R hRc i t ds S kk outs h M w a b k cs hst hctx)
    | false => exact .of_steps (.one (stepR_cond hvb)) (Step.refl hst.rel) (hg R hRc i t ds S kk outs h M w a b k cs hst hctx)
  · cases h
theorem block_S {rnd : Bool} {f : CodeF} {j : Nat} {c : Code} (hf : CodeS E sz fn rnd f c) : CodeS E sz fn rnd (fun R i t ds S kk => Outs.bind (f R i t ds S endN) fun o => match o with
      | ⟨.normal, t, ds, S⟩ => kk t ds S
      | ⟨.exit e, t, ds, S⟩ => ifB (Nat.beq e j) (kk t ds S) (one ⟨.exit e, t, ds, S⟩)
      | o => one o) (.block j c) := by
  intro R hRc i t ds S kk outs h M w a b k cs hst hctx
  obtain ⟨l, hl, hall⟩ := Outs.bind_some h
  rcases hf R hRc i t ds S endN l hl M w a b (.inBlock j :: k) cs hst hctx with ⟨t1, ds1, S1, outs1, h1, h2, a1, w1, M1, h3, h4, h5⟩ | ⟨o, ho, a', w', M', h3, h4, h5⟩
  · cases h1
    obtain ⟨outs', g1, g2⟩ := hall _ (h2 _ (List.mem_singleton.2 rfl))
    exact .inl ⟨t1, ds1, S1, outs', g1, g2, a1, w1, M1, (Steps.one stepR_block).trans (h3.trans (.one stepR_inBlock)), h4, h5⟩
  · obtain ⟨outs', g1, g2⟩ := hall o ho
    obtain ⟨e, t1, ds1, S1⟩ := o
    cases e with
    | normal => exact h3.elim
    | ret =>
      cases g1
      exact .inr ⟨_, g2 _ (List.mem_singleton.2 rfl), a', w', M', .of_steps (.one stepR_block) h3, h4, h5⟩
    | exit e =>
      simp only [ifB_eq] at g1
      by_cases hej : e = j
      · subst hej
        rw [if_pos (beq_true.2 rfl)] at g1
        exact .inl ⟨t1, ds1, S1, outs', g1, g2, a', w', M', (Steps.one stepR_block).trans (h3.1 k (by simp [exitTo])), h4, h5⟩
      · rw [if_neg (fun h => hej (beq_true.1 h))] at g1
        cases g1
        have hx : exitTo e (.inBlock j :: k) = exitTo e k := by
          have : (j == e) = false := by simp; exact fun h => hej h.symm
          simp [exitTo, this]
        exact .inr ⟨_, g2 _ (List.mem_singleton.2 rfl), a', w', M', .of_steps (.one stepR_block) ⟨fun k' hk => h3.1 k' (by rw [hx]; exact hk), fun hk => h3.2 (by rw [hx]; exact hk)⟩, h4, h5⟩
theorem loopN_S {rnd : Bool} {f : CodeF} {c : Code} (hf : CodeS E sz fn rnd f c) {R : CallF} (hRc : CallS E R) {i : Nat} {b : Frame} {k : List Item} {cs : List Frame} {kk : K3} :
    ∀ (n : Nat) (t : PT Value) (ds : List Deferred) (S : AS) (outs : List Out), loopN f R i n t ds S = some outs → ∀ (M : Loc) (w : World) (a : Act), StR E sz M t ds S a w → Ctx fn rnd i M b cs →
      Comes E sz (lone (b.atR a (.code c :: .inLoop c :: k)) cs w) b k cs kk outs M S w
  | 0, t, ds, S, outs, h, M, w, a, hst, hctx => by cases h
  | n + 1, t, ds, S, outs, h, M, w, a, hst, hctx => by
    have h' : Outs.bind (f R i t ds S endN) (fun o => match o with
      | ⟨.normal, t, ds, S⟩ => loopN f R i n t ds S
      | o => one o) = some outs := h
    obtain ⟨l, hl, hall⟩ := Outs.bind_some h'
    rcases hf R hRc i t ds S endN l hl M w a b (.inLoop c :: k) cs hst hctx with ⟨t1, ds1, S1, outs1, h1, h2, a1, w1, M1, h3, h4, h5⟩ | ⟨o, ho, a', w', M', h3, h4, h5⟩
    · cases h1
      obtain ⟨outs', g1, g2⟩ := hall _ (h2 _ (List.mem_singleton.2 rfl))
      exact .of_steps (h3.trans (.one stepR_inLoop)) h4 ((loopN_S hf hRc n t1 ds1 S1 outs' g1 M1 w1 a1 h5 (hctx.mono h4.le)).sub g2)
    · obtain ⟨outs', g1, g2⟩ := hall o ho
      have hex : ∀ id, exitTo id (.inLoop c :: k) = exitTo id k := fun id => by simp [exitTo]
      obtain ⟨e, t1, ds1, S1⟩ := o
      cases e with
      | normal => exact h3.elim
      | ret => cases g1; exact .inr ⟨_, g2 _ (List.mem_singleton.2 rfl), a', w', M', .pass hex h3, h4, h5⟩
      | exit e => cases g1; exact .inr ⟨_, g2 _ (List.mem_singleton.2 rfl), a', w', M', .pass hex h3, h4, h5⟩
theorem loop_S {rnd : Bool} {f : CodeF} {c : Code} (hf : CodeS E sz fn rnd f c) : CodeS E sz fn rnd (fun R i t ds S _ => loopN f R i 100000 t ds S) (.loop c) := by
  intro R hRc i t ds S kk outs h M w a b k cs hst hctx
  exact .of_steps (.one stepR_loop) (Step.refl hst.rel) (loopN_S sz fn hf hRc 100000 t ds S outs h M w a hst hctx)
theorem scope_S {rnd : Bool} {f : CodeF} {c : Code} (hf : CodeS E sz fn rnd f c) : CodeS E sz fn rnd f (.scope c) := by
  intro R hRc i t ds S kk outs h M w a b k cs hst hctx
  have s1 : Steps E.P (lone (b.atR a (.code (.scope c) :: k)) cs w) (lone (b.atR a (.code c :: .inScope c :: k)) cs w) := .one (step_lone_go (by simp [stepG, stepG.exec, Frame.atR]))
  rcases hf R hRc i t ds S kk outs h M w a b (.inScope c :: k) cs hst hctx with ⟨t1, ds1, S1, outs1, h1, h2, a1, w1, M1, h3, h4, h5⟩ | ⟨o, ho, a', w', M', h3, h4, h5⟩
  · exact .inl ⟨t1, ds1, S1, outs1, h1, h2, a1, w1, M1, s1.trans (h3.trans (.one (step_lone_go (by simp [stepG, stepG.exec, Frame.atR])))), h4, h5⟩
  · exact .inr ⟨o, ho, a', w', M', .of_steps s1 (.pass (fun id => by simp [exitTo]) h3), h4, h5⟩
include hE in
theorem region_S {rnd : Bool} (id : Nat) (ops : Array Oper) : CodeS E sz fn rnd (opsCode (opsW E sz rnd ops.toList ops.toList).f) (.region id ops false) := by
  intro R hRc i t ds S kk outs h M w a b k cs hst hctx
  obtain ⟨t', ds', S', outs', g1, g2, a', w', M', g3, g4, g5⟩ := opsW_S hE sz rnd ops hRc (k := k) hctx.calm hctx.round ops.toList 0 rfl t ds S kk outs h M w a hst
  have hr : List.range' 0 ops.toList.length = List.range ops.size := by rw [List.range_eq_range']; simp
  rw [hr] at g3
  exact .inl ⟨t', ds', S', outs', g1, g2, a', w', M', (Steps.one stepR_region).trans (g3.trans (.one stepR_region_end)), g4, g5⟩
include hE in
theorem drawn_S {rnd : Bool} (id : Nat) (ops : Array Oper) : CodeS E sz fn rnd (opsCode (drawnRegion E sz rnd ops.toList).f) (.region id ops true) := by
  intro R hRc i t ds S kk outs h M w a b k cs hst hctx
  exact .inl (drawnRegion_S hE rnd hRc hctx.calm hctx.round id h hst)

/-! ### range over a function -/
theorem findLoop_some {β : Type} {S : AS} {l : Nat} {k : LoopState → Option Code → FuncId → PT Value → Nat → Array Tmp → Code → Code → Nat → Option β} {r : β} (h : findLoop S l k = some r) :
    ∃ st pend fn tm sz ps asg body df, S.heap.get l = some (.loop st pend fn tm sz ps asg body df) ∧ k st pend fn tm sz ps asg body df = some r := by
  unfold findLoop at h
  split at h
  · rename_i st pend fn tm sz ps asg body df hg; exact ⟨st, pend, fn, tm, sz, ps, asg, body, df, hg, h⟩
  · cases h
theorem Rel.loopAt {M : Loc} {S : AS} {w : World} (h : Rel M S w) {l c n : Nat} {st : LoopState} {pend : Option Code} {fn : FuncId} {tm : PT Value} {sz : Nat} {ps : Array Tmp} {asg body : Code} {df : Nat}
    (hg : S.heap.get l = some (.loop st pend fn tm sz ps asg body df)) (hM : M l = some (c, n)) :
    ∃ a cd nd, w.heap[c]? = some (.loop ⟨st, pend, fn, a, ps, asg, body, cd⟩) ∧ TmR M sz tm a ∧ M df = some (cd, nd) := by
  obtain ⟨p, hp, hr⟩ := h.obj l _ c n hg hM
  cases hr with
  | loop _ _ _ _ _ _ _ _ _ cd nd a ht hMd => exact ⟨a, cd, nd, hp, ht, hMd⟩
theorem run_getLoop {P : Program} {w : World} {c : Nat} {r : Loop} (h : w.heap[c]? = some (.loop r)) : (Instr.getLoop c).run P w = .ok r w := by
  simp [Instr.getLoop, getObj, Sem.run, h]
theorem run_setObj {P : Program} {w : World} {c : Nat} {o p : Obj} (h : w.heap[c]? = some o) (hc : ∀ a b d, o ≠ .cells a b d) : (setObj c p).run P w = .ok () { w with heap := w.heap.setIfInBounds c p } := by
  cases o <;> first | exact absurd rfl (hc _ _ _) | simp [setObj, Sem.run, h]
/-- the call of the function that is ranged over, and what is behind it -/
theorem eval_tmps (a : Act) (defs : List Deferred) : (⟨a.tmps, defs⟩ : Act).eval = a.eval := by funext x; cases x <;> rfl
theorem rangeW_S {rnd : Bool} (g : Operand) (ps : Array Tmp) (asg body : Code) {R : CallF} (hRc : CallS E R) {dfb : Nat} {t : PT Value} {ds : List Deferred} {S0 S : AS} {kk : K3} {outs : List Out}
    (h : (rangeW E sz fn g ps asg body).f R dfb t ds S kk = some outs) {M0 M : Loc} {w0 w : World} {a : Act} {defs : List Deferred} {b : Frame} {k : List Item} {cs : List Frame} {i : Nat} (hE : EnvOk E)
    (hst : StR E sz M t ds S ⟨a.tmps, defs⟩ w) (hctx : Ctx fn rnd i M b cs) {c n : Nat} (hM : M dfb = some (c, n)) (hst0 : Step M0 S0 w0 M S w)
    (hstep : ∀ (s : Sem Next), s = (do let d ← resolve a.eval { callee := .value g, args := #[.const (.func (.yield w.heap.size) #[] #[])], argTypes := #[] } 0; invoke d.target d.args) →
      (stepG E.P true { frame := b.atR a (.code (.rangeFunc g ps asg body) :: k), callers := cs, status := .running, dying := none } w0).bare =
        (stepG.apply E.P true (b.atR ⟨a.tmps, defs⟩ (.inRangeFunc w.heap.size :: k)) cs none s { w with heap := w.heap.push (.loop ⟨.ready, none, b.fn, a.tmps, ps, asg, body, c⟩) }).bare) :
    Comes E sz (lone (b.atR a (.code (.rangeFunc g ps asg body) :: k)) cs w0) b k cs kk outs M0 S0 w0 := by
  have h1 : (evW (β := OO) E.ng g).f t (fun f => S.alloc (.loop .ready none fn t sz ps asg body dfb) fun l S => whoV E S f [.func (.yield l) #[] #[]] fun w => Outs.bind (R w S) fun x => endLoopK x.2 l t ds kk) = some outs := h
  rw [evW_eq, AS.alloc_eq] at h1
  -- the record is laid
  have hobj : ObjR (M.add S.next w.heap.size 0) S.fams S.next 0 (.loop .ready none fn t sz ps asg body dfb) (.loop ⟨.ready, none, b.fn, a.tmps, ps, asg, body, c⟩) := by
    rw [hctx.fn]
    exact .loop _ _ _ _ _ _ _ _ _ c n _ (hst.tm.mono (Loc.le_add hst.rel.fresh)) (Loc.le_add hst.rel.fresh _ _ hM)
  have hst1 := hst.rel.alloc (o := .loop .ready none fn t sz ps asg body dfb) (p := .loop ⟨.ready, none, b.fn, a.tmps, ps, asg, body, c⟩) (n := 0) trivial hobj
  have hf := (hst.tm.ev hst.glob g).mono hst1.le
  rw [eval_tmps] at hf
  have hself := Loc.add_self M S.next w.heap.size 0
  obtain ⟨who, s, g1, g2, g3⟩ := whoV_S hE hst1.rel hf (args' := [.func (.yield w.heap.size) #[] #[]]) (.cons _ _ _ _ (.func _ _ _ _ _ _ (.yield _ _ _ hself) .nil .nil) .nil) h1
  obtain ⟨l, hl, hall⟩ := Outs.bind_some g1
  obtain ⟨nx, w2, hrun, hgo⟩ := hRc who _ l hl _ _ s hst1.rel (hst.glob.mono hst1.le) g2
  rw [← g3] at hrun
  have hrun' : (do let d ← resolve a.eval { callee := .value g, args := #[.const (.func (.yield w.heap.size) #[] #[])], argTypes := #[] } 0; invoke d.target d.args : Sem Next).run E.P { w with heap := w.heap.push (.loop ⟨.ready, none, b.fn, a.tmps, ps, asg, body, c⟩) } = .ok nx w2 := by
    have hres : resolve a.eval { callee := .value g, args := #[.const (.func (.yield w.heap.size) #[] #[])], argTypes := #[] } 0 = Deferred.ofValue (a.eval g) #[.func (.yield w.heap.size) #[] #[]] := by simp [resolve, Act.eval]
    rw [hres]; exact hrun
  obtain ⟨v, w3, ⟨v', S3, M3, hm, hst3, _⟩, hsteps⟩ := apply_goes (hstep _ rfl) (by intro d r sv k' h; simp [Frame.atR] at h) hrun' hgo
  have hfin : (b.atR ⟨a.tmps, defs⟩ (.inRangeFunc w.heap.size :: k)).finish v = b.atR ⟨a.tmps, defs⟩ (.endRangeFunc w.heap.size :: k) := by simp [Frame.finish, Frame.atR]
  rw [hfin] at hsteps
  obtain ⟨outs', e1, e2⟩ := hall _ hm
  simp only [endLoopK] at e1
  obtain ⟨st, pend, fn', tm, sz', ps', asg', body', df, hg, e1⟩ := findLoop_some e1
  have hM3 := hst3.le _ _ hself
  obtain ⟨a3, cd, nd, hloop, ht3, hMd⟩ := hst3.rel.loopAt hg hM3
  have hle3 : M.le M3 := Loc.le_trans hst1.le hst3.le
  have step4 : ∀ (st0 : LoopState), Step M3 S3 w3 M3 (S3.upd S.next .dead) { w3 with heap := w3.heap.setIfInBounds w.heap.size (.loop ⟨.exhausted, pend, fn', a3, ps', asg', body', cd⟩) } := fun _ =>
    hst3.rel.put (o' := .dead) hg hM3 trivial trivial (.dead _)
  have hend : st ≠ .busy → step E.P (lone (b.atR ⟨a.tmps, defs⟩ (.endRangeFunc w.heap.size :: k)) cs w3) =
      .next (lone (b.atR ⟨a.tmps, defs⟩ ((pend.map Item.code).toList ++ k)) cs { w3 with heap := w3.heap.setIfInBounds w.heap.size (.loop ⟨.exhausted, pend, fn', a3, ps', asg', body', cd⟩) }) := by
    intro hne
    have hend : (Instr.endLoop w.heap.size).run E.P w3 = .ok pend { w3 with heap := w3.heap.setIfInBounds w.heap.size (.loop ⟨.exhausted, pend, fn', a3, ps', asg', body', cd⟩) } := by
      have hb : (st == LoopState.busy) = false := by cases st <;> first | rfl | exact absurd rfl hne
      unfold Instr.endLoop
      simp only [Sem.run_bind, run_getLoop hloop, Result.andThen_ok, hb, Bool.false_eq_true, if_false, run_setObj hloop (by intro a b d h; cases h), Sem.run_pure]
    exact step_lone_go (by simp [stepG, stepG.exec, Frame.atR, hend])
  have hrest : ∀ {e : AExit} (o : Out), o = ⟨e, t, ds, S3.upd S.next .dead⟩ → StR E sz M3 o.t o.ds o.S ⟨a.tmps, defs⟩ { w3 with heap := w3.heap.setIfInBounds w.heap.size (.loop ⟨.exhausted, pend, fn', a3, ps', asg', body', cd⟩) } := by
    intro e o ho; subst ho
    exact ⟨(step4 st).rel, hst.glob.mono hle3, hst.tm.mono hle3, hst.ds.mono fun _ _ => DefR.mono hle3⟩
  have hall4 := hst0.trans ((hst1.trans hst3).trans (step4 st))
  split at e1
  · cases e1
  rename_i hbusy
  have hne : st ≠ .busy := fun h => hbusy h
  rw [AS.put_eq] at e1
  have hsteps4 := hsteps.trans (.one (hend hne))
  cases pend with
  | none => exact .inl ⟨t, ds, _, outs', e1, e2, _, _, M3, hsteps4, hall4, hrest (e := .normal) ⟨.normal, t, ds, S3.upd S.next .dead⟩ rfl⟩
  | some j =>
    cases j <;> simp only [reduceCtorEq] at e1
    case ret =>
      cases e1
      exact .inr ⟨_, e2 _ (List.mem_singleton.2 rfl), _, _, M3, ⟨k, hsteps4⟩, hall4, hrest _ rfl⟩
    case exit j =>
      cases e1
      exact .inr ⟨_, e2 _ (List.mem_singleton.2 rfl), _, _, M3, ⟨fun k' hk => hsteps4.trans (.one (stepR_exit hk)), fun hk => ⟨k, hk, hsteps4⟩⟩, hall4, hrest _ rfl⟩
include hE in
theorem range_code_S (rnd : Bool) (g : Operand) (ps : Array Tmp) (asg body : Code) : CodeS E sz fn rnd (rangeC E sz fn rnd g ps asg body).f (.rangeFunc g ps asg body) := by
  intro R hRc i t ds S kk outs h M w a b k cs hst hctx
  have hev := fun (defs : List Deferred) (l : Nat) => Frame.eval_atR b ⟨a.tmps, defs⟩ (.inRangeFunc l :: k)
  simp only [Frame.atR] at hev
  cases rnd with
  | false =>
    have hb : b.roundOf = none := by cases hbb : b.roundOf with | none => rfl | some x => have := hctx.round; rw [hbb] at this; cases this
    have h1 : (S.alloc (.dfr []) fun r S => (rangeW E sz fn g ps asg body).f R r t (⟨.collected r, #[]⟩ :: ds) S kk) = some outs := h
    rw [AS.alloc_eq] at h1
    have hst1 := hst.rel.alloc (o := .dfr []) (p := .deferred (some [])) (n := 0) trivial (.dfr _ _ .nil)
    have hself := Loc.add_self M S.next w.heap.size 0
    refine rangeW_S sz fn (rnd := false) (i := i) g ps asg body hRc h1 (defs := ⟨.collected w.heap.size, #[]⟩ :: a.defers) hE
      ⟨hst1.rel, hst.glob.mono hst1.le, hst.tm.mono hst1.le, .cons _ _ _ _ ⟨.collected _ _ _ hself, .nil⟩ (hst.ds.mono fun _ _ => DefR.mono hst1.le)⟩ (hctx.mono hst1.le) hself hst1 ?_
    rintro s rfl
    have hent : (Instr.enterLoop b.fn a.tmps ps asg body none).run E.P w = .ok (w.heap.size + 1, [{ target := .collected w.heap.size, args := #[] }]) { w with heap := (w.heap.push (.deferred (some []))).push (.loop ⟨.ready, none, b.fn, a.tmps, ps, asg, body, w.heap.size⟩) } := by
      simp [Instr.enterLoop, newObj, Sem.run]
      rfl
    simp only [stepG, stepG.exec, Frame.atR, hb, Sem.runT_eq, hent, GStep.bare_after, Array.size_push, List.cons_append, List.nil_append]
    have hev2 := hev ({ target := .collected w.heap.size, args := #[] } :: a.defers) (w.heap.size + 1)
    rw [hb] at hev2
    rw [hev2]
    rfl
  | true =>
    obtain ⟨l0, hb⟩ : ∃ l0, b.roundOf = some l0 := by cases hbb : b.roundOf with | none => have := hctx.round; rw [hbb] at this; cases this | some x => exact ⟨x, rfl⟩
    obtain ⟨n0, hM0⟩ := hctx.loop l0 hb
    have h1 : (findLoop S i fun _ _ _ _ _ _ _ _ df => (rangeW E sz fn g ps asg body).f R df t ds S kk) = some outs := h
    obtain ⟨st, pend, fn', tm, sz', ps', asg', body', df, hg, h1⟩ := findLoop_some h1
    obtain ⟨a3, cd, nd, hloop, ht3, hMd⟩ := hst.rel.loopAt hg hM0
    refine rangeW_S sz fn (rnd := true) (i := i) g ps asg body hRc h1 (defs := a.defers) hE hst hctx hMd (Step.refl hst.rel) ?_
    rintro s rfl
    have hent : (Instr.enterLoop b.fn a.tmps ps asg body (some l0)).run E.P w = .ok (w.heap.size, []) { w with heap := w.heap.push (.loop ⟨.ready, none, b.fn, a.tmps, ps, asg, body, cd⟩) } := by
      unfold Instr.enterLoop
      simp only [Sem.run_bind, run_getLoop hloop, Result.andThen_ok, Sem.run_pure, newObj, Sem.run]
    simp only [stepG, stepG.exec, Frame.atR, hb, Sem.runT_eq, hent, GStep.bare_after, List.nil_append]
    have hev2 := hev a.defers w.heap.size
    rw [hb] at hev2
    rw [hev2]
include hE in
theorem codeW_S (rnd : Bool) : ∀ c : Code, CodeS E sz fn rnd (codeW E sz fn rnd c).f c
  | .skip => nop_S sz fn fun _ _ _ _ _ => stepR_skip
  | .label _ => nop_S sz fn fun _ _ _ _ _ => stepR_label
  | .ret => ret_S sz fn
  | .exit i => exit_S sz fn i
  | .goto l => none_S sz fn _
  | .seq x y => by have h := seq_S sz fn (codeW_S rnd x) (codeW_S rnd y); exact h
  | .cond c x y => by have h := cond_S sz fn (c := c) (codeW_S rnd x) (codeW_S rnd y); exact h
  | .block j c => by have h := block_S sz fn (j := j) (codeW_S rnd c); exact h
  | .loop c => by have h := loop_S sz fn (codeW_S rnd c); exact h
  | .scope c => by have h := scope_S sz fn (codeW_S rnd c); exact h
  | .region id ops false => region_S hE sz fn id ops
  | .region id ops true => drawn_S hE sz fn id ops
  | .rangeFunc f ps asg b => range_code_S hE sz fn rnd f ps asg b
  | .refuse w => none_S sz fn _
end
end Go.Am

namespace Go.Am

/-! ## functions -/
def GoesF (P : Program) : Next → World → (Value → World → Prop) → Prop
  | .value v, w, Post => Post v w
  | .enter f args, w, Post => Goes P (.enter f args) w Post
  | _, _, _ => False
theorem GoesF.goes {P : Program} {n : Next} {w : World} {Post : Value → World → Prop} (h : GoesF P n w Post) : Goes P n w Post := by
  cases n <;> first | exact h | exact h.elim
def DfrS (E : Env) (dfr : DfrF) : Prop :=
  ∀ (ds : List Deferred) (S : AS) (outs : List AS), dfr ds S = some outs → ∀ (M : Loc) (w : World) (fr : Frame) (cs : List Frame) , Rel M S w → GlobOk E M → fr.mode = .returning → LR (DefR M) ds fr.defers →
    ∃ S' ∈ outs, ∃ w' M', Steps E.P (lone fr cs w) (lone { fr with defers := [] } cs w') ∧ Step M S w M' S' w'
def FnS (E : Env) (g : FnF) (f : FuncId) : Prop :=
  ∀ (R : CallF) (dfr : DfrF), CallS E R → DfrS E dfr → ∀ (args : List Value) (S : AS) (outs : List (Value × AS)), g R dfr args S = some outs →
    ∀ (M : Loc) (w : World) (args' : List Value), Rel M S w → GlobOk E M → VRL M args args' → ∃ n w1, (callFunc f args'.toArray).run E.P w = .ok n w1 ∧ GoesF E.P n w1 (After M S w outs)

/-! ### results -/
def oneRes (a : Array Value) : ResultVar → Sem Value
  | .tmp t => pure (a.getD t undef)
  | .cell b t => do loadVar t (← asAddr (a.getD b undef))
section
variable {E : Env} (hE : EnvOk E)
include hE
theorem resK_S {β : Type} {M : Loc} {S : AS} {w : World} (hR : Rel M S w) {sz : Nat} {tm : PT Value} {a : Array Value} (ht : TmR M sz tm a) {r : ResultVar} {k : Value → Option β} {x : β} (h : resK E S tm r k = some x) :
    ∃ v v', k v = some x ∧ VR M v v' ∧ (oneRes a r).run E.P w = .ok v' w := by
  cases r with
  | tmp t =>
    have hv := ht.2 t
    unfold resK at h
    simp only at h
    cases hg : tm.get t with
    | none => rw [hg] at h hv; exact ⟨_, _, h, hv, rfl⟩
    | some v => rw [hg] at h hv; exact ⟨_, _, h, hv, rfl⟩
  | cell b t =>
    have hv := ht.2 b
    unfold resK at h
    simp only at h
    cases hg : tm.get b with
    | none => rw [hg] at h; cases h
    | some v =>
      rw [hg] at h hv
      simp only [Option.getD_some] at hv
      obtain ⟨u, u', c, off, h1, h2, h3, h4⟩ := loadV_val hE hR hv h
      exact ⟨u, u', h1, h2, by simp [oneRes, h3, asAddr, h4]⟩
theorem resultsK_S {β : Type} {M : Loc} {S : AS} {w : World} (hR : Rel M S w) {sz : Nat} {tm : PT Value} {a : Array Value} (ht : TmR M sz tm a) :
    ∀ {rs : List ResultVar} {k : List Value → Option β} {x : β}, resultsK E S tm rs k = some x →
    ∃ vs vs', k vs = some x ∧ VRL M vs vs' ∧ (rs.mapM (oneRes a)).run E.P w = .ok vs' w
  | [], k, x, h => ⟨[], [], h, .nil, by simp⟩
  | r :: l, k, x, h => by
    unfold resultsK at h
    obtain ⟨v, v', h1, h2, h3⟩ := resK_S hE hR ht h
    obtain ⟨vs, vs', h4, h5, h6⟩ := resultsK_S hR ht h1
    refine ⟨v :: vs, v' :: vs', h4, .cons _ _ _ _ h2 h5, ?_⟩
    simp only [List.mapM_cons, Sem.run_bind, h3, Result.andThen_ok, h6, Sem.run_pure]
theorem single_S {M : Loc} {vs vs' : List Value} (h : VRL M vs vs') : VR M (single vs) (if h : vs'.toArray.size = 1 then vs'.toArray[0] else .tuple vs'.toArray) := by
  cases h with
  | nil => exact .tuple _ _ .nil
  | cons v w l m hv ht => cases ht with
    | nil => exact hv
    | cons v2 w2 l2 m2 hv2 ht2 =>
      have : ¬ ((w :: w2 :: m2).toArray.size = 1) := by simp
      rw [dif_neg this]
      exact .tuple _ _ (.cons _ _ _ _ hv (.cons _ _ _ _ hv2 ht2))
theorem results_S {β : Type} {M : Loc} {S : AS} {w : World} (hR : Rel M S w) {sz : Nat} {tm : PT Value} {a : Array Value} (ht : TmR M sz tm a) {fn : Func} {k : List Value → Option β} {x : β} (h : resultsK E S tm fn.results.toList k = some x) :
    ∃ vs v', k vs = some x ∧ VR M (single vs) v' ∧ (results fn a).run E.P w = .ok v' w := by
  obtain ⟨vs, vs', h1, h2, h3⟩ := resultsK_S hE hR ht h
  refine ⟨vs, _, h1, single_S hE h2, ?_⟩
  have h0 : results fn a = (do let vs ← fn.results.mapM (oneRes a); pure (if h : vs.size = 1 then vs[0] else .tuple vs)) := by
    rfl
  rw [h0]
  simp only [Array.mapM_eq_mapM_toList, Sem.run_bind]
  have h5 : (List.toArray <$> (fn.results.toList.mapM (oneRes a))).run E.P w = .ok vs'.toArray w := by
    rw [map_eq_pure_bind, Sem.run_bind, h3]; rfl
  rw [h5]
  rfl

/-! ### the body -/
omit hE in
theorem initT_eq {β : Type} (l : List Value) : ∀ (i : Nat) (t : PT Value) (k : PT Value → β), initT i l t k = k (t.write i l) := by
  induction l with
  | nil => intro i t k; rfl
  | cons v l ih =>
    intro i t k
    simp only [initT, PT.setK_eq, ih]
    congr 1
    simp only [PT.write, writeK, PT.setK_eq]
omit hE in
theorem tm_init {M : Loc} {args args' : List Value} (h : VRL M args args') {sz : Nat} (hl : args.length ≤ sz) : TmR M sz (PT.lf.write 0 args) (args'.toArray ++ Array.replicate (sz - args'.toArray.size) undef) := by
  have hlen := h.length
  refine ⟨by simp; omega, fun i => ?_⟩
  rw [PT.get_write]
  simp only [Array.getD_eq_getD_getElem?]
  by_cases hi : i < args.length
  · rw [if_pos ⟨Nat.zero_le _, by omega⟩, Nat.sub_zero, Array.getElem?_append_left (by simp; omega), List.getElem?_eq_getElem hi]
    obtain ⟨u, hu, hr⟩ := h.get (List.getElem?_eq_getElem hi)
    simp only [Option.getD_some, List.getElem?_toArray, hu]
    exact hr
  · rw [if_neg (by omega), PT.get_lf, Array.getElem?_append_right (by simp; omega), Array.getElem?_replicate]
    have : ((if i - args'.toArray.size < sz - args'.toArray.size then some undef else none).getD undef : Value) = undef := by split <;> rfl
    rw [this]; exact VR.undef M
theorem endFn_S {dfr : DfrF} (hd : DfrS E dfr) {fn : Func} {f : FuncId} (hf : E.P.funcs[f]? = some fn) {o : Out} {outs : List (Value × AS)} (h : endFn E fn.results.toList dfr o = some outs) {M : Loc} {w : World} {a : Act} {sz : Nat}
    (hst : StR E sz M o.t o.ds o.S a w) {b : Frame} {cs : List Frame} (hb : b.roundOf = none) (hbf : b.fn = f) {m : Machine}
    (hm : (o.e = .normal → Steps E.P m (lone (b.atR a []) cs w)) ∧ (o.e = .ret → ∃ k₁, Steps E.P m (lone (b.atR a (.code .ret :: k₁)) cs w))) :
    ∃ v' w' fr, (After M o.S w outs v' w') ∧ Steps E.P m (lone fr cs w') ∧ Leaves E.P fr f b.kind v' w' := by
  obtain ⟨e, t, ds, S⟩ := o
  have key : ∀ todo, Steps E.P m (lone { b.atR a todo with mode := .returning } cs w) → Outs.bind (dfr ds S) (fun S => resultsK E S t fn.results.toList fun vs => one (single vs, S)) = some outs →
      ∃ v' w' fr, (After M S w outs v' w') ∧ Steps E.P m (lone fr cs w') ∧ Leaves E.P fr f b.kind v' w' := by
    intro todo hs h1
    obtain ⟨l, hl, hall⟩ := Outs.bind_some h1
    obtain ⟨S', hm', w', M', hs2, hst2⟩ := hd ds S l hl M w { b.atR a todo with mode := .returning } cs hst.rel hst.glob rfl hst.ds
    obtain ⟨outs', g1, g2⟩ := hall S' hm'
    obtain ⟨vs, v', g3, g4, g5⟩ := results_S hE hst2.rel (hst.tm.mono hst2.le) g1
    cases g3
    refine ⟨v', w', _, ⟨_, S', M', g2 _ (List.mem_singleton.2 rfl), hst2, g4⟩, hs.trans hs2, ?_⟩
    exact ⟨rfl, rfl, rfl, hbf, fn, hf, g5⟩
  cases e with
  | normal => exact key [] ((hm.1 rfl).trans (.one (stepR_end hb))) h
  | ret =>
    obtain ⟨k₁, hs⟩ := hm.2 rfl
    exact key _ (hs.trans (.one (stepR_ret hb))) h
  | exit i => cases h
theorem isNumG_no {s : String} (h : isNumG s = false) : (s == "runtime.NumGoroutine") = false := by
  cases hb : s == "runtime.NumGoroutine" with
  | false => rfl
  | true =>
    have := eq_of_beq hb
    subst this
    cases h
theorem fn_body_S {f : FuncId} {fn : Func} {c : Code} (hf : E.P.funcs[f]? = some fn) (hbody : fn.body = some c) (hname : isNumG fn.name = false) :
    FnS E (fun R dfr args S => ifB (Nat.ble args.length fn.ntmps) (initT 0 args .lf fun t => Outs.bind ((codeW E fn.ntmps f false c).f R 0 t [] S endN) fun o => endFn E fn.results.toList dfr o) none) f := by
  intro R dfr hRc hd args S outs h M w args' hR hG ha
  dsimp only at h
  rw [ifB_eq] at h
  split at h
  case isFalse => cases h
  rename_i hle
  have hle' : args.length ≤ fn.ntmps := ble_true.1 hle
  rw [initT_eq] at h
  refine ⟨.enter f args'.toArray, w, ?_, ?_⟩
  · have hn1 : fn.name ≠ "runtime.NumGoroutine" := fun e => by have := isNumG_no hE hname; rw [e] at this; simp at this
    simp [callFunc, program, Sem.run, hf, hn1, hbody]
  intro kind cs hcalm
  let b : Frame := { (default : Frame) with fn := f, kind := kind, roundOf := none }
  let a : Act := ⟨args'.toArray ++ Array.replicate (fn.ntmps - args'.toArray.size) undef, []⟩
  have henter : Frame.enter E.P f args'.toArray kind = b.atR a [.code c] := by
    simp [Frame.enter, Frame.atR, hf, hbody, b, a]
  have hst : StR E fn.ntmps M (PT.lf.write 0 args) [] S a w := ⟨hR, hG, tm_init ha hle', .nil⟩
  obtain ⟨l, hl, hall⟩ := Outs.bind_some h
  have hctx : Ctx f false 0 M b cs := ⟨hcalm, rfl, rfl, fun l hl => by cases hl⟩
  rw [henter]
  rcases codeW_S hE fn.ntmps f false c R hRc 0 _ [] S endN l hl M w a b [] cs hst hctx with ⟨t1, ds1, S1, outs1, h1, h2, a1, w1, M1, h3, h4, h5⟩ | ⟨o, ho, a1, w1, M1, h3, h4, h5⟩
  · cases h1
    obtain ⟨outs', g1, g2⟩ := hall _ (h2 _ (List.mem_singleton.2 rfl))
    obtain ⟨v', w', fr, ⟨v, S', M', e1, e2, e3⟩, e4, e5⟩ := endFn_S hE hd hf g1 (M := M1) h5 (b := b) (cs := cs) rfl rfl ⟨fun _ => h3, fun h => by cases h⟩
    exact ⟨v', w', fr, ⟨v, S', M', g2 _ e1, h4.trans e2, e3⟩, e4, e5⟩
  · obtain ⟨outs', g1, g2⟩ := hall o ho
    obtain ⟨v', w', fr, ⟨v, S', M', e1, e2, e3⟩, e4, e5⟩ := endFn_S hE hd hf g1 (M := M1) h5 (b := b) (cs := cs) rfl rfl ⟨fun he => by rw [he] at h3; exact h3.elim, fun he => by rw [he] at h3; exact h3⟩
    exact ⟨v', w', fr, ⟨v, S', M', g2 _ e1, h4.trans e2, e3⟩, e4, e5⟩

/-! ### deferred calls -/
theorem defersN_S {R : CallF} (hRc : CallS E R) (hfn : ∀ f, FnS E (fnW E f).f f) : ∀ n, DfrS E (defersN E R n)
  | n, [], S, outs, h, M, w, fr, cs, hR, hG, hmode, hds => by
    have h1 : one S = some outs := by cases n <;> exact h
    cases h1
    generalize hdd : fr.defers = dd at hds
    cases hds
    refine ⟨S, List.mem_singleton.2 rfl, w, M, ?_, Step.refl hR⟩
    have : ({ fr with defers := [] } : Frame) = fr := by rw [← hdd]
    rw [this]; exact .refl _ _
  | 0, d :: ds, S, outs, h, M, w, fr, cs, hR, hG, hmode, hds => by cases h
  | n + 1, d :: ds, S, outs, h, M, w, fr, cs, hR, hG, hmode, hds => by
    generalize hdd : fr.defers = dd at hds
    cases hds with
    | cons _ d' _ ds' hdr htl =>
    obtain ⟨ht, hargs⟩ := hdr
    have h1 : (match d.target with
      | .collected r => (match S.heap.get r with
        | some (.dfr l) => S.put r .dead fun S => defersN E R n (l ++ ds) S
        | _ => none)
      | .fn fn captured => whoK E S fn captured.toList d.args.toList fun w => (match w with
        | .fn f args => Outs.bind ((fnW E f).f R (defersN E R n) args S) fun (_, S) => defersN E R n ds S
        | _ => none)
      | _ => none) = some outs := h
    obtain ⟨tgt, dargs⟩ := d
    obtain ⟨tgt', dargs'⟩ := d'
    cases ht with
    | collected r c nn hM =>
      simp only at h1
      split at h1
      case h_2 => cases h1
      rename_i l hg
      rw [AS.put_eq] at h1
      obtain ⟨p, hp, ho⟩ := hR.obj r _ c nn hg hM
      cases ho with
      | dfr _ l' hl =>
        have hst := hR.put (o' := .dead) (p' := .deferred none) hg hM trivial trivial (.dead _)
        obtain ⟨S', hm, w', M', hs, hst2⟩ := defersN_S hRc hfn n (l ++ ds) _ outs h1 M _ { fr with defers := l' ++ ds' } cs hst.rel hG hmode (hl.append htl)
        refine ⟨S', hm, w', M', ?_, hst.trans hst2⟩
        have htake : (Instr.takeDeferred c).run E.P w = .ok l' { w with heap := w.heap.setIfInBounds c (.deferred none) } := by
          have h2 : (setObj c (.deferred none)).run E.P w = .ok () { w with heap := w.heap.setIfInBounds c (.deferred none) } := run_setObj hp (by intro a b d h; cases h)
          unfold Instr.takeDeferred
          simp only [Sem.run_bind, getObj, Sem.run, hp, Result.andThen_ok, h2]
          rfl
        have hstep : step E.P (lone fr cs w) = .next (lone { fr with defers := l' ++ ds' } cs { w with heap := w.heap.setIfInBounds c (.deferred none) }) :=
          step_lone_go (by simp [stepG, unwind, hmode, hdd, htake])
        exact Steps.head hstep hs
    | fn g g' cap cap' hgf hcap =>
      simp only at h1
      obtain ⟨who, s, g1, g2, g3⟩ := whoK_S hE hR hgf hcap hargs h1
      have hda : dargs'.toList.toArray = dargs' := by simp
      rw [hda] at g3
      cases g2 with
      | yield => cases g1
      | fn f args args' ha =>
        simp only at g1
        obtain ⟨lo, hlo, hall⟩ := Outs.bind_some g1
        obtain ⟨nx, w1, hrun, hgo⟩ := hfn f R (defersN E R n) hRc (defersN_S hRc hfn n) args S lo hlo M w args' hR hG ha
        rw [← g3] at hrun
        -- the call and the step back
        obtain ⟨v', w2, ⟨v, S2, M2, e1, e2, e3⟩, hs⟩ : ∃ v' w2, After M S w lo v' w2 ∧ Steps E.P (lone fr cs w) (lone { fr with defers := ds' } cs w2) := by
          cases nx <;> simp only [GoesF] at hgo
          case value v =>
            refine ⟨v, w1, hgo, .one (step_lone_go ?_)⟩
            simp [stepG, unwind, hmode, hdd, callDeferred, hrun]
          case enter f2 args2 =>
            obtain ⟨v', w2, fr2, hp, hs, hl⟩ := hgo .deferred ({ fr with defers := ds' } :: cs) (.inr ⟨rfl, _, _, rfl, hmode⟩)
            refine ⟨v', w2, hp, Steps.head (step_lone_go ?_) (hs.trans (.one (leave_deferred hl hmode)))⟩
            simp [stepG, unwind, hmode, hdd, callDeferred, hrun]
        obtain ⟨outs', q1, q2⟩ := hall _ e1
        obtain ⟨S3, hm, w3, M3, hs3, hst3⟩ := defersN_S hRc hfn n ds S2 outs' q1 M2 w2 { fr with defers := ds' } cs e2.rel (hG.mono e2.le) hmode (htl.mono fun _ _ => DefR.mono e2.le)
        exact ⟨S3, q2 _ hm, w3, M3, hs.trans hs3, e2.trans hst3⟩

/-! ### externs -/
theorem extern_run {f : FuncId} {fn : Func} (hf : E.P.funcs[f]? = some fn) (hb : fn.body = none) (hn : noNext fn = true) (hname : (fn.name == "runtime.NumGoroutine") = false) {e : Array Value → Sem Value} (he : Extern.find fn = some e)
    {args : Array Value} {w w' : World} {v : Value} (hr : (e args).run E.P w = .ok v w') : (callFunc f args).run E.P w = .ok (.value v) w' := by
  have hn' : Extern.findNext fn = none := by
    unfold noNext at hn
    split at hn
    · assumption
    · cases hn
  have hn1 : fn.name ≠ "runtime.NumGoroutine" := fun e => by rw [e] at hname; simp at hname
  simp [callFunc, program, Sem.run, hf, hn1, hb, mark, hn', he, hr]
theorem find_of {fn : Func} {e : Array Value → Sem Value} {n : String} (hn : fn.name = n) (h1 : Extern.allGenericRows.lookup n = none) (h2 : Extern.allTypedRows.lookup n = none) (h3 : Extern.allRows.lookup n = some e) : Extern.find fn = some e := by
  unfold Extern.find
  simp only [hn, h1, h2, h3]
  rfl
end
end Go.Am

namespace Go.Am

/-! ## externs -/
theorem u8_beq {b : UInt8} {c : Nat} (hc : c ≤ 255) : Nat.beq b.toNat c = (b == UInt8.ofNat c) := by
  rw [Bool.eq_iff_iff, beq_true]
  constructor
  · intro h; subst h; simp
  · intro h
    have := eq_of_beq h
    subst this
    simp [UInt8.toNat_ofNat']; omega
theorem cntB_eq {c : Nat} (hc : c ≤ 255) : ∀ (l : List UInt8) (n : Nat), cntB c l n = n + l.count (UInt8.ofNat c)
  | [], n => by simp [cntB]
  | b :: l, n => by
    simp only [cntB, ifB_eq, u8_beq hc, List.count_cons]
    split
    · rw [cntB_eq hc]; simp_all; omega
    · rw [cntB_eq hc]; simp_all
theorem idxB_eq {c : Nat} (hc : c ≤ 255) : ∀ (l : List UInt8) (n : Nat), (match idxB c l n with | some m => Int.ofNat m | none => Int.negSucc 0) = if Lib.indexByte l (UInt8.ofNat c) = -1 then -1 else Lib.indexByte l (UInt8.ofNat c) + n
  | [], n => by simp [idxB, Lib.indexByte]
  | b :: l, n => by
    simp only [idxB, ifB_eq, u8_beq hc]
    unfold Lib.indexByte
    by_cases hb : (b == UInt8.ofNat c) = true
    · simp only [hb, if_true]
      have : ¬ ((0 : Int) = -1) := by decide
      rw [if_neg this, Int.zero_add]; rfl
    · simp only [hb, Bool.false_eq_true, if_false]
      rw [idxB_eq hc l (n + 1)]
      have hge := Lib.indexByte_ge l (UInt8.ofNat c)
      by_cases h1 : Lib.indexByte l (UInt8.ofNat c) = -1
      · simp [h1]
      · have h2 : ¬ (Lib.indexByte l (UInt8.ofNat c) == -1) = true := by simpa using h1
        have h3 : ¬ (Lib.indexByte l (UInt8.ofNat c) + 1 = -1) := by omega
        rw [if_neg h1, if_neg h2, if_neg h3]
        simp only [Int.natCast_add]
        omega
section
variable {E : Env} (hE : EnvOk E)
include hE
theorem extern_S {f : FuncId} {fn : Func} (hf : E.P.funcs[f]? = some fn) (hb : fn.body = none) (hn : noNext fn = true) :
    FnS E (fun _ _ args S => (externW (β := List (Value × AS)) fn.name).f S args fun v S => one (v, S)) f := by
  intro R dfr hRc hd args S outs h M w args' hR hG ha
  dsimp only at h
  unfold externW at h
  split at h
  · rename_i hname
    obtain ⟨x, rfl, h9⟩ := oneV_some h
    clear h
    have h := h9
    clear h9
    obtain ⟨y, rfl, hx⟩ := ha.single_inv
    cases h
    have hfind := find_of hE hname (e := Extern.AbiNoEscape.same) (by kernel_rfl) (by kernel_rfl) (by kernel_rfl)
    exact ⟨.value y, w, extern_run hE hf hb hn (by rw [hname]; decide) hfind (w' := w) (v := y) rfl, _, S, M, List.mem_singleton.2 rfl, Step.refl hR, hx⟩
  · rename_i hname
    obtain ⟨x, y, rfl, h9⟩ := two_some h
    clear h
    have h := h9
    clear h9
    obtain ⟨x', y', rfl, hx, hy⟩ := ha.two
    split at h
    · rename_i s c
      rw [ifB_eq] at h
      split at h
      case isFalse => cases h
      rename_i hc
      rw [fN_eq] at h
      cases h
      have hx' := hx.string_inv
      have hy' := hy.int_inv
      subst hx' hy'
      have hfind := find_of hE hname (e := Extern.BytealgCount.count) (by kernel_rfl) (by kernel_rfl) (by kernel_rfl)
      refine ⟨.value _, w, extern_run hE hf hb hn (by rw [hname]; decide) hfind (Lib.run_countString s c w), _, S, M, List.mem_singleton.2 rfl, Step.refl hR, ?_⟩
      rw [cntB_eq (ble_true.1 hc), Nat.zero_add]
      exact .int _ _
    · cases h
  · rename_i hname
    obtain ⟨x, y, rfl, h9⟩ := two_some h
    clear h
    have h := h9
    clear h9
    obtain ⟨x', y', rfl, hx, hy⟩ := ha.two
    split at h
    · rename_i s c
      rw [ifB_eq] at h
      split at h
      case isFalse => cases h
      rename_i hc
      have hx' := hx.string_inv
      have hy' := hy.int_inv
      subst hx' hy'
      have hfind := find_of hE hname (e := Extern.BytealgIndexByte.indexByte) (by kernel_rfl) (by kernel_rfl) (by kernel_rfl)
      have hi := idxB_eq (ble_true.1 hc) (strL s) 0
      have h2 : one (Value.int .i64 (match idxB c (strL s) 0 with | some m => Int.ofNat m | none => Int.negSucc 0), S) = some outs := by
        rw [← h]
        cases idxB c (strL s) 0 with
        | none => rfl
        | some m => simp only [fN_eq]
      rw [hi] at h2
      cases h2
      refine ⟨.value _, w, extern_run hE hf hb hn (by rw [hname]; decide) hfind (Lib.run_indexByteString s c w), _, S, M, List.mem_singleton.2 rfl, Step.refl hR, ?_⟩
      have e1 : (if Lib.indexByte (strL s) (UInt8.ofNat c) = -1 then -1 else Lib.indexByte (strL s) (UInt8.ofNat c) + ((0 : Nat) : Int)) = Lib.indexByte s.data.toList (c : Int).toNat.toUInt8 := by
        have : Lib.indexByte s.data.toList (c : Int).toNat.toUInt8 = Lib.indexByte (strL s) (UInt8.ofNat c) := rfl
        rw [this]
        split
        · rename_i h9; exact h9.symm
        · simp
      rw [e1]
      exact .int _ _
    · cases h
  · rename_i hname
    obtain ⟨x, rfl, h9⟩ := oneV_some h
    clear h
    have h := h9
    clear h9
    obtain ⟨y, rfl, hx⟩ := ha.single_inv
    split at h
    · rename_i t r
      split at h
      · rename_i es clock hmo
        rw [AS.alloc_eq] at h
        cases h
        obtain ⟨u, hu, rfl⟩ := hx.iface_inv
        obtain ⟨c, n, hM, rfl⟩ := hu.map_inv
        have hget := mapOf_some hmo
        obtain ⟨es', hc, hl⟩ := hR.map hget hM
        have hobj : ObjR (M.add S.next w.heap.size 0) S.fams S.next 0 (.map es clock) (.map es' clock) := .map _ _ _ (hl.mono fun _ _ => EntR.mono (Loc.le_add hR.fresh))
        have hst := hR.alloc (o := .map es clock) trivial hobj
        have hfind := find_of hE hname (e := Extern.MapsClone.clone) (by kernel_rfl) (by kernel_rfl) (by kernel_rfl)
        have hrun : (Extern.MapsClone.clone #[.iface t (.map (some c))]).run E.P w = .ok (.iface t (.map (some w.heap.size))) { w with heap := w.heap.push (.map es' clock) } := by
          have h0 : Extern.MapsClone.clone #[.iface t (.map (some c))] = (do
            let .map entries clock ← getObj c | stuck "maps.clone: a map expected"
            pure (.iface t (.map (some (← newObj (.map entries clock)))))) := rfl
          rw [h0]
          simp only [Sem.run_bind, getObj, Sem.run, hc, Result.andThen_ok, newObj]
          rfl
        exact ⟨.value _, _, extern_run hE hf hb hn (by rw [hname]; decide) hfind hrun, _, _, _, List.mem_singleton.2 rfl, hst, .iface _ _ _ (.map _ _ _ (Loc.add_self _ _ _ _))⟩
      · cases h
    · cases h
  · cases h
theorem fnW_S (f : FuncId) : FnS E (fnW E f).f f := by
  unfold fnW
  split
  · intro R dfr hRc hd args S outs h; cases h
  · rename_i fn hfn
    have hf := hE.fs f fn hfn
    split
    · rename_i hb
      split
      · intro R dfr hRc hd args S outs h; cases h
      · rename_i hn hg
        have := extern_S hE hf hb hn
        rw [hg] at this
        exact this
    · rename_i c hb
      split
      · intro R dfr hRc hd args S outs h; cases h
      · rename_i hnum hg
        have := fn_body_S hE hf hb hnum
        rw [hg] at this
        exact this

/-! ## rounds of a range over a function -/
theorem zipSet_S {M : Loc} {sz : Nat} {β : Type} : ∀ (ps : List Tmp) (vs vs' : List Value) (t : PT Value) (a : Array Value) {k : PT Value → Option β} {r : β}, TmR M sz t a → VRL M vs vs' → zipSet sz ps vs t k = some r →
    ∃ t', k t' = some r ∧ ps.length = vs'.length ∧ TmR M sz t' ((ps.zip vs').foldl (fun tmps (p : Tmp × Value) => tmps.setIfInBounds p.1 p.2) a)
  | [], [], vs', t, a, k, r, ht, hv, h => by cases hv; exact ⟨t, h, rfl, ht⟩
  | p :: ps, v :: vs, vs', t, a, k, r, ht, hv, h => by
    cases hv with
    | cons _ w _ m hvw hvt =>
      simp only [zipSet, ifB_eq] at h
      split at h
      · rename_i hp
        rw [PT.setK_eq] at h
        have hp' : p < sz := ble_true.1 hp
        have ht' : TmR M sz (t.set p v) (a.setIfInBounds p w) := by
          refine ⟨by simp [ht.1], fun i => ?_⟩
          rw [PT.get_set, getD_set, ht.1]
          by_cases hi : i = p
          · subst hi; rw [if_pos rfl, if_pos ⟨rfl, hp'⟩]; exact hvw
          · rw [if_neg hi, if_neg (fun e => hi e.1)]; exact ht.2 i
        obtain ⟨t', h1, h2, h3⟩ := zipSet_S ps vs m _ _ ht' hvt h
        exact ⟨t', h1, by simp [h2], by simpa using h3⟩
      · cases h
  | [], _ :: _, _, _, _, _, _, _, _, h => by cases h
  | _ :: _, [], _, _, _, _, _, _, _, h => by cases h
theorem yieldC_S {R : CallF} (hRc : CallS E R) {l : Nat} {args : List Value} {S : AS} {outs : List (Value × AS)} (h : yieldC E R l args S = some outs) {M : Loc} {w : World} (hR : Rel M S w) (hG : GlobOk E M)
    {c n : Nat} (hM : M l = some (c, n)) {args' : List Value} (ha : VRL M args args') : CallR E.P w (Instr.yield c args'.toArray) (After M S w outs) := by
  unfold yieldC at h
  obtain ⟨st, pend, fn, tm, sz, ps, asg, body, df, hg, h⟩ := findLoop_some h
  obtain ⟨a0, cd, nd, hloop, ht, hMd⟩ := hR.loopAt hg hM
  obtain ⟨tm0, h, hlen, htm0⟩ := zipSet_S hE ps.toList args args' tm a0 (k := fun tm0 => Outs.bind ((codeW E sz fn true asg).f R l tm0 [] S fun t ds S => beginRound l t ds S fun t S => (codeW E sz fn true body).f R l t [] S endN) fun o => endRound l o) ht ha h
  have hfold : (ps.zip args'.toArray).foldl (fun tmps (p : Tmp × Value) => tmps.setIfInBounds p.1 p.2) a0 = (ps.toList.zip args').foldl (fun tmps (p : Tmp × Value) => tmps.setIfInBounds p.1 p.2) a0 := by
    rw [← Array.foldl_toList]
    simp
  have hrun : (Instr.yield c args'.toArray).run E.P w = .ok (.round c fn ((ps.zip args'.toArray).foldl (fun tmps (p : Tmp × Value) => tmps.setIfInBounds p.1 p.2) a0) asg body) w := by
    unfold Instr.yield
    have hsz : ¬ (args'.toArray.size ≠ ps.size) := by simp; rw [← hlen]; simp
    simp only [Sem.run_bind, run_getLoop hloop, Result.andThen_ok, if_neg hsz, Sem.run_pure]
  refine ⟨_, _, hrun, ?_⟩
  rw [hfold]
  intro cf cs
  generalize hta : (ps.toList.zip args').foldl (fun tmps (p : Tmp × Value) => tmps.setIfInBounds p.1 p.2) a0 = ta at htm0
  let b : Frame := { (default : Frame) with fn := fn, kind := .normal, roundOf := some c }
  have hb0 : Frame.round c fn ta asg body .normal = b.atR ⟨ta, []⟩ [.code asg, .beginRound, .code body] := by
    simp [Frame.round, Frame.atR, b]
  rw [hb0]
  have hst : StR E sz M tm0 [] S ⟨ta, []⟩ w := ⟨hR, hG, htm0, .nil⟩
  have hctx : Ctx fn true l M b (cf :: cs) := ⟨.inl rfl, rfl, rfl, fun l' hl' => by cases hl'; exact ⟨n, hM⟩⟩
  obtain ⟨lo, hlo, hall⟩ := Outs.bind_some h
  -- the end of a round
  have fin : ∀ (o : Out), o ∈ lo → ∀ (M1 : Loc) (w1 : World) (a1 : Act) (m : Machine), Step M S w M1 o.S w1 → StR E sz M1 o.t o.ds o.S a1 w1 →
      (o.e = .normal → Steps E.P m (lone (b.atR a1 []) (cf :: cs) w1)) → (∀ id, o.e = .exit id → ∃ k₁, exitTo id k₁ = none ∧ Steps E.P m (lone (b.atR a1 (.code (.exit id) :: k₁)) (cf :: cs) w1)) →
      (o.e = .ret → ∃ k₁, Steps E.P m (lone (b.atR a1 (.code .ret :: k₁)) (cf :: cs) w1)) →
      ∃ v w', After M S w outs v w' ∧ Steps E.P m (lone (cf.finish v) cs w') := by
    intro o ho M1 w1 a1 m hst1 hsr hn he hr
    obtain ⟨outs', g1, g2⟩ := hall o ho
    obtain ⟨e, t, ds, S1⟩ := o
    cases ds with
    | cons d ds => cases g1
    | nil =>
      have g1' : endRoundK l (jumpOf e) S1 = some outs' := g1
      unfold endRoundK at g1'
      obtain ⟨st1, pend1, fn1, tm1, sz1, ps1, asg1, body1, df1, hg1, g1'⟩ := findLoop_some g1'
      have hM1 := hst1.le _ _ hM
      obtain ⟨a2, cd1, nd1, hloop1, ht1, hMd1⟩ := hst1.rel.loopAt hg1 hM1
      rw [AS.put_eq] at g1'
      cases g1'
      have hobj : ObjR M1 S1.fams l n (.loop (stOf (jumpOf e)) (jumpOf e) fn1 tm1 sz1 ps1 asg1 body1 df1) (.loop ⟨stOf (jumpOf e), jumpOf e, fn1, a2, ps1, asg1, body1, cd1⟩) := .loop _ _ _ _ _ _ _ _ _ _ _ _ ht1 hMd1
      have hst2 := hst1.rel.put (o' := .loop (stOf (jumpOf e)) (jumpOf e) fn1 tm1 sz1 ps1 asg1 body1 df1) hg1 hM1 trivial trivial hobj
      have hafter : ∀ w', w' = { w1 with heap := w1.heap.setIfInBounds c (.loop ⟨stOf (jumpOf e), jumpOf e, fn1, a2, ps1, asg1, body1, cd1⟩) } → After M S w outs (.bool (goesOn (jumpOf e))) w' := by
        rintro w' rfl
        exact ⟨_, _, _, g2 _ (List.mem_singleton.2 rfl), hst1.trans hst2, .bool _⟩
      have hend : (Instr.endRound c (jumpOf e)).run E.P w1 = .ok (.bool (goesOn (jumpOf e))) { w1 with heap := w1.heap.setIfInBounds c (.loop ⟨stOf (jumpOf e), jumpOf e, fn1, a2, ps1, asg1, body1, cd1⟩) } := by
        have hset : ∀ p, (setObj c p).run E.P w1 = .ok () { w1 with heap := w1.heap.setIfInBounds c p } := fun p => run_setObj hloop1 (by intro a b d h; cases h)
        unfold Instr.endRound
        simp only [Sem.run_bind, run_getLoop hloop1, Result.andThen_ok, hset, Sem.run_pure]
        cases e <;> rfl
      refine ⟨_, _, hafter _ rfl, ?_⟩
      cases e with
      | normal => exact (hn rfl).trans (.one (stepR_round_end rfl rfl hend))
      | ret => obtain ⟨k₁, hs⟩ := hr rfl; exact hs.trans (.one (stepR_round_ret rfl rfl hend))
      | exit id => obtain ⟨k₁, hk, hs⟩ := he id rfl; exact hs.trans (.one (stepR_round_exit rfl rfl hk hend))
  have finLeft : ∀ (o : Out), o ∈ lo → ∀ (M1 : Loc) (w1 : World) (a1 : Act) (m : Machine) (k : List Item), (∀ id, exitTo id k = none) → Step M S w M1 o.S w1 → StR E sz M1 o.t o.ds o.S a1 w1 → Left E.P m b k (cf :: cs) o.e a1 w1 →
      ∃ v w', After M S w outs v w' ∧ Steps E.P m (lone (cf.finish v) cs w') := by
    intro o ho M1 w1 a1 m k hk hst1 hsr hl
    refine fin o ho M1 w1 a1 m hst1 hsr (fun he => by rw [he] at hl; exact hl.elim) (fun id he => ?_) (fun he => by rw [he] at hl; exact hl)
    rw [he] at hl
    exact hl.2 (hk id)
  rcases codeW_S hE sz fn true asg R hRc l tm0 [] S _ lo hlo M w ⟨ta, []⟩ b [.beginRound, .code body] (cf :: cs) hst hctx with ⟨t1, ds1, S1, outs1, h1, h2, a1, w1, M1, h3, h4, h5⟩ | ⟨o, ho, a1, w1, M1, h3, h4, h5⟩
  · unfold beginRound at h1
    obtain ⟨st1, pend1, fn1, tm1, sz1, ps1, asg1, body1, df1, hg1, h1⟩ := findLoop_some h1
    have hM1 := h4.le _ _ hM
    obtain ⟨a2, cd1, nd1, hloop1, ht1, hMd1⟩ := h5.rel.loopAt hg1 hM1
    split at h1
    · rw [AS.put_eq] at h1
      have hobj : ObjR M1 S1.fams l n (.loop .busy pend1 fn1 tm1 sz1 ps1 asg1 body1 df1) (.loop ⟨.busy, pend1, fn1, a2, ps1, asg1, body1, cd1⟩) := .loop _ _ _ _ _ _ _ _ _ _ _ _ ht1 hMd1
      have hst2 := h5.rel.put (o' := .loop .busy pend1 fn1 tm1 sz1 ps1 asg1 body1 df1) hg1 hM1 trivial trivial hobj
      have hbr : (Instr.beginRound c).run E.P w1 = .ok () { w1 with heap := w1.heap.setIfInBounds c (.loop ⟨.busy, pend1, fn1, a2, ps1, asg1, body1, cd1⟩) } := by
        have hset : ∀ p, (setObj c p).run E.P w1 = .ok () { w1 with heap := w1.heap.setIfInBounds c p } := fun p => run_setObj hloop1 (by intro a b d h; cases h)
        unfold Instr.beginRound
        simp only [Sem.run_bind, run_getLoop hloop1, Result.andThen_ok, hset, Sem.run_pure]
      have hsteps : Steps E.P (lone (b.atR ⟨ta, []⟩ [.code asg, .beginRound, .code body]) (cf :: cs) w) (lone (b.atR a1 [.code body]) (cf :: cs) { w1 with heap := w1.heap.setIfInBounds c (.loop ⟨.busy, pend1, fn1, a2, ps1, asg1, body1, cd1⟩) }) :=
        h3.trans (.one (stepR_beginRound rfl hbr))
      have hst3 : StR E sz M1 t1 [] (S1.upd l (.loop .busy pend1 fn1 tm1 sz1 ps1 asg1 body1 df1)) a1 { w1 with heap := w1.heap.setIfInBounds c (.loop ⟨.busy, pend1, fn1, a2, ps1, asg1, body1, cd1⟩) } := ⟨hst2.rel, h5.glob, h5.tm, h5.ds⟩
      rcases codeW_S hE sz fn true body R hRc l t1 [] _ endN outs1 h1 M1 _ a1 b [] (cf :: cs) hst3 (hctx.mono h4.le) with ⟨t4, ds4, S4, outs4, g1, g2, a4, w4, M4, g3, g4, g5⟩ | ⟨o, ho, a4, w4, M4, g3, g4, g5⟩
      · cases g1
        exact fin _ (h2 _ (g2 _ (List.mem_singleton.2 rfl))) M4 w4 a4 _ (h4.trans (hst2.trans g4)) g5 (fun _ => hsteps.trans g3) (fun id he => by cases he) (fun he => by cases he)
      · exact finLeft o (h2 o ho) M4 w4 a4 _ [] (fun id => rfl) (h4.trans (hst2.trans g4)) g5 (.of_steps hsteps g3)
    · cases h1
  · exact finLeft o ho M1 w1 a1 _ _ (fun id => by simp [exitTo]) h4 h5 h3
end
end Go.Am

namespace Go.Am

/-! ## outcomes that are alike -/
theorem FnR.back {M M1 : Loc} (hle : M.le M1) {f g h : Fn} (h0 : FnR M f g) (h1 : FnR M1 f h) : FnR M f h := by
  cases h0 with
  | func => cases h1; exact .func _
  | method => cases h1; exact .method _
  | methodOf => cases h1; exact .methodOf _ _
  | via => cases h1; exact .via _ _ _ _
  | yield l c n hM => cases h1 with
    | yield _ c' n' hM' => have := hle _ _ hM; rw [hM'] at this; cases this; exact .yield l c n hM
mutual
theorem VR.back {M M1 : Loc} (hle : M.le M1) : ∀ {v w0 w1 : Value}, VR M v w0 → VR M1 v w1 → VR M v w1
  | _, _, _, .top k _ _, h1 => by cases h1 with | top _ _ h => exact .top k _ h
  | _, _, _, .any k a b _, h1 => by cases h1; exact .any _ _ _ _
  | _, _, _, .bool b, h1 => by cases h1; exact .bool _
  | _, _, _, .int k n, h1 => by cases h1; exact .int _ _
  | _, _, _, .float k n, h1 => by cases h1; exact .float _ _
  | _, _, _, .string s, h1 => by cases h1; exact .string _
  | _, _, _, .ptr0, h1 => by cases h1; exact .ptr0
  | _, _, _, .ptr b o c n h, h1 => by cases h1 with | ptr _ _ c' n' h' => have := hle _ _ h; rw [h'] at this; cases this; exact .ptr _ _ _ _ h
  | _, _, _, .slice0, h1 => by cases h1; exact .slice0
  | _, _, _, .slice b o len sz c n o' cap h g1 g2 g3, h1 => by
    cases h1 with | slice _ _ _ _ c' n' o2 cap2 h' k1 k2 k3 => have := hle _ _ h; rw [h'] at this; cases this; exact .slice _ _ _ _ _ _ _ _ h k1 k2 k3
  | _, _, _, .map0, h1 => by cases h1; exact .map0
  | _, _, _, .map r c n h, h1 => by cases h1 with | map _ c' n' h' => have := hle _ _ h; rw [h'] at this; cases this; exact .map _ _ _ h
  | _, _, _, .chan0, h1 => by cases h1; exact .chan0
  | _, _, _, .func f g a b c d h g1 g2, h1 => by cases h1 with | func _ g' _ b' _ d' h' k1 k2 => exact .func _ _ _ _ _ _ (h.back hle h') (VRL.back hle g1 k1) (VRL.back hle g2 k2)
  | _, _, _, .nilFunc, h1 => by cases h1; exact .nilFunc
  | _, _, _, .iface t v w h, h1 => by cases h1 with | iface _ _ u h' => exact .iface _ _ _ (VR.back hle h h')
  | _, _, _, .nilIface, h1 => by cases h1; exact .nilIface
  | _, _, _, .agg a b h g, h1 => by cases h1 with | agg _ b' h' g' => exact .agg _ _ (VRL.back hle h h') g'
  | _, _, _, .tuple a b h, h1 => by cases h1 with | tuple _ b' h' => exact .tuple _ _ (VRL.back hle h h')
theorem VRL.back {M M1 : Loc} (hle : M.le M1) : ∀ {v w0 w1 : List Value}, VRL M v w0 → VRL M1 v w1 → VRL M v w1
  | _, _, _, .nil, h1 => by cases h1; exact .nil
  | _, _, _, .cons v w l m hv ht, h1 => by cases h1 with | cons _ w' _ m' hv' ht' => exact .cons _ _ _ _ (VR.back hle hv hv') (VRL.back hle ht ht')
end

theorem subPT_get {α : Type} {eq : α → α → Bool} : ∀ {t u : PT α}, subPT eq t u = true → ∀ {i : Nat} {a : α}, t.get i = some a → ∃ b, u.get i = some b ∧ eq a b = true
  | .lf, u, h, i, a, hi => by rw [PT.get_lf] at hi; cases hi
  | .nd l v r, .lf, h, i, a, hi => by
    cases v with
    | some v => simp [subPT] at h
    | none =>
      simp only [subPT, Bool.and_eq_true] at h
      cases i with
      | zero => rw [PT.get_nd_zero] at hi; cases hi
      | succ m =>
        rw [PT.get_nd_succ] at hi
        split at hi
        · obtain ⟨b, hb, _⟩ := subPT_get h.1 hi; rw [PT.get_lf] at hb; cases hb
        · obtain ⟨b, hb, _⟩ := subPT_get h.2 hi; rw [PT.get_lf] at hb; cases hb
  | .nd l v r, .nd l' v' r', h, i, a, hi => by
    simp only [subPT, Bool.and_eq_true] at h
    cases i with
    | zero =>
      rw [PT.get_nd_zero] at hi ⊢
      subst hi
      have h1 := h.1.1
      cases v' with
      | none => simp at h1
      | some b => exact ⟨b, rfl, h1⟩
    | succ m =>
      rw [PT.get_nd_succ] at hi ⊢
      split at hi
      · rename_i hp; rw [if_pos hp]; exact subPT_get h.1.2 hi
      · rename_i hp; rw [if_neg hp]; exact subPT_get h.2 hi
theorem entsEq_eq : ∀ {a b : List MapEntry}, entsEq a b = true → a = b
  | [], [], _ => rfl
  | [], _ :: _, h => by simp [entsEq] at h
  | _ :: _, [], h => by simp [entsEq] at h
  | a :: x, b :: y, h => by
    simp only [entsEq, Bool.and_eq_true, beq_true] at h
    have h1 := veq_eq h.1.1.1
    have h2 := veq_eq h.1.1.2
    have h3 := entsEq_eq h.2
    cases a; cases b
    simp only at h1 h2 h
    rw [h1, h2, h.1.2, h3]
theorem natsEq_eq : ∀ {a b : List Nat}, natsEq a b = true → a = b
  | [], [], _ => rfl
  | [], _ :: _, h => by simp [natsEq] at h
  | _ :: _, [], h => by simp [natsEq] at h
  | a :: x, b :: y, h => by
    simp only [natsEq, Bool.and_eq_true, beq_true] at h
    rw [h.1, natsEq_eq h.2]
theorem famEq_eq {a b : Fam} (h : famEq a b = true) : a = b := by
  cases a with | mk a1 a2 a3 a4 => cases b with | mk b1 b2 b3 b4 =>
  simp only [famEq, Bool.and_eq_true, beq_true] at h
  have h1 := natsEq_eq h.1.1.1
  have h4 : a4 = b4 := by cases a4 <;> cases b4 <;> simp_all
  rw [h1, h.1.1.2, h.1.2, h4]
theorem LR.back {M M1 : Loc} (hle : M.le M1) {a b c : List MapEntry} (h0 : LR (EntR M) a b) (h1 : LR (EntR M1) a c) : LR (EntR M) a c := by
  induction h0 generalizing c with
  | nil => cases h1; exact .nil
  | cons x y l m hx _ ih => cases h1 with
    | cons _ z _ m' hz ht => exact .cons _ _ _ _ ⟨hx.1.back hle hz.1, hx.2.1.back hle hz.2.1, hz.2.2⟩ (ih ht)
theorem Fits.back {M M1 : Loc} (hle : M.le M1) {t u : PT Value} {n : Nat} {cs cs1 : Array Value} (h0 : Fits M t n cs) (hs : subPT veq t u = true) (h1 : Fits M1 u n cs1) : Fits M t n cs1 := by
  intro i v hi hv
  obtain ⟨b, hb, he⟩ := subPT_get hs hv
  have := veq_eq he
  subst this
  obtain ⟨w0, _, hr0, _⟩ := h0 i v hi hv
  obtain ⟨w1, hw1, hr1, ho1⟩ := h1 i v hi hb
  exact ⟨w1, hw1, hr0.back hle hr1, ho1⟩
theorem obj_back {M M1 : Loc} (hle : M.le M1) {fams fams1 : PT Fam} (hf : ∀ g F, fams.get g = some F → fams1.get g = some F) {i n : Nat} {o o' : AObj} {p0 p : Obj} (h0 : ObjR M fams i n o p0) (he : objEq o o' = true) (h1 : ObjR M1 fams1 i n o' p) :
    ObjR M fams i n o p := by
  cases h0 with
  | cells0 t e cs lo hi hs hf0 fit =>
    cases o' <;> simp only [objEq, reduceCtorEq, Bool.false_eq_true] at he
    rename_i u m d g
    simp only [Bool.and_eq_true, beq_true] at he
    obtain ⟨⟨⟨rfl, rfl⟩, rfl⟩, hsub⟩ := he
    cases h1 with
    | cells0 _ _ cs1 lo1 hi1 hs1 hf1 fit1 => exact .cells0 _ _ _ _ _ hs1 hf1 (fit.back hle hsub fit1)
  | cellsF t k e g F cs lo hi hs hk hF hm hz hb =>
    cases o' <;> simp only [objEq, reduceCtorEq, Bool.false_eq_true] at he
    rename_i u m d g'
    simp only [Bool.and_eq_true, beq_true] at he
    obtain ⟨⟨⟨rfl, rfl⟩, rfl⟩, hsub⟩ := he
    cases h1 with
    | cellsF _ _ _ _ F1 cs1 lo1 hi1 hs1 hk1 hF1 hm1 hz1 hb1 =>
      have := hf g F hF
      rw [hF1] at this
      cases this
      exact .cellsF _ _ _ _ F _ _ _ hs1 hk1 hF (fun hmem => ⟨(hm hmem).1, (hm hmem).2.back hle hsub (hm1 hmem).2⟩) hz1 hb1
  | map es es' clock h =>
    cases o' <;> simp only [objEq, reduceCtorEq, Bool.false_eq_true] at he
    simp only [Bool.and_eq_true, beq_true] at he
    obtain ⟨rfl, he⟩ := he
    have := entsEq_eq he
    subst this
    cases h1 with
    | map _ es1 _ h1 => exact .map _ _ _ (h.back hle h1)
  | iter0 since st seen seen' h =>
    cases o' <;> simp only [objEq, reduceCtorEq, Bool.false_eq_true] at he
    simp only [Bool.and_eq_true, beq_true] at he
    obtain ⟨⟨⟨hm, rfl⟩, hsn⟩, rfl⟩ := he
    have h2 := natsEq_eq hsn
    subst h2
    have hm' := onEq_true hm
    subst hm'
    cases h1 with
    | iter0 _ _ _ seen1 h1 => exact .iter0 _ _ _ _ h1
  | iter m c n' since st seen seen' hM h =>
    cases o' <;> simp only [objEq, reduceCtorEq, Bool.false_eq_true] at he
    simp only [Bool.and_eq_true, beq_true] at he
    obtain ⟨⟨⟨hm, rfl⟩, hsn⟩, rfl⟩ := he
    have h2 := natsEq_eq hsn
    subst h2
    have hm' := onEq_true hm
    subst hm'
    cases h1 with
    | iter _ c1 n1 _ _ _ seen1 hM1 h1 =>
      have := hle _ _ hM
      rw [hM1] at this
      cases this
      exact .iter _ _ _ _ _ _ _ hM h1
  | loop st pend fn tm sz ps asg body df c n' a ht hM => cases o' <;> simp [objEq] at he
  | dfr ds ds' h =>
    cases ds with
    | cons d ds => cases o' <;> simp [objEq] at he
    | nil =>
      cases o' with
      | dfr l =>
        cases l with
        | nil =>
          cases h1 with
          | dfr _ l' h1 => cases h1; exact .dfr _ _ .nil
        | cons => simp [objEq] at he
      | _ => simp [objEq] at he
  | dead => exact .dead _
  | ro t cs e fr hs fit =>
    cases o' <;> simp only [objEq, Bool.false_eq_true] at he
    rename_i u m
    simp only [Bool.and_eq_true, beq_true] at he
    obtain ⟨rfl, hsub⟩ := he
    cases h1 with
    | ro _ cs1 e1 fr1 hs1 fit1 => exact .ro _ _ _ _ hs1 (fit.back hle hsub fit1)

/-- nothing that was there is turned -/
theorem base_step {M M1 : Loc} {S0 S1 : AS} {w w' : World} (hR : Rel M S0 w) (h : Step M S0 w M1 S1 w') (hh : subPT objEq S0.heap S1.heap = true) (hf : subPT famEq S0.fams S1.fams = true) : Step M S0 w M S0 w' := by
  have hfam : ∀ g F, S0.fams.get g = some F → S1.fams.get g = some F := by
    intro g F hg
    obtain ⟨F', h1, h2⟩ := subPT_get hf hg
    rw [famEq_eq h2]; exact h1
  refine ⟨M.le_refl, ⟨fun i c n e => ⟨(hR.dom i c n e).1, Nat.lt_of_lt_of_le (hR.dom i c n e).2 h.size⟩, hR.hdom, hR.inj, hR.fam, fun i o c n ho e => ?_, hR.tot⟩, fun _ _ _ e h' => (by rw [h'] at e; cases e), fun _ _ e h' => (by rw [h'] at e; cases e), Nat.le_refl _, fun _ _ _ => rfl, h.size, h.frame, fun i t n hi => ⟨hi, (h.ro i t n hi).2⟩, h.tape, h.os, h.output⟩
  obtain ⟨p0, _, hr0⟩ := hR.obj i o c n ho e
  obtain ⟨o', ho', he⟩ := subPT_get hh ho
  obtain ⟨p, hp, hr⟩ := h.rel.obj i o' c n ho' (h.le _ _ e)
  exact ⟨p, hp, obj_back h.le hfam hr0 he hr⟩
/-- a block of the machine's is taken in as one of a family of its own -/
theorem Step.takeIn {M : Loc} {S0 : AS} {w w' : World} (h : Step M S0 w M S0 w') {cb N m e fl fh : Nat} {t : PT Value} {cs : Array Value} (hc : w'.heap[cb]? = some (.cells cs e (fl, fh))) (hN : cs.size = N) (hlone : ∀ i n, M i ≠ some (cb, n))
    (hnew : w.heap.size ≤ cb) (hfit : Fits M t m cs) (hm : m ≤ N) (hfh : fh = 0) :
    Step M S0 w (M.add S0.next cb N) ⟨S0.heap.set S0.next (.cells t m e (S0.nfam + 1)), S0.next + 1, S0.fams.set S0.nfam ⟨[S0.next], m, 0, false⟩, S0.nfam + 1⟩ w' := by
  have hR := h.rel
  have hfr := hR.fresh
  have hle : M.le (M.add S0.next cb N) := Loc.le_add hfr
  have hold : ∀ i c1 m1, (M.add S0.next cb N) i = some (c1, m1) → (i = S0.next ∧ c1 = cb ∧ m1 = N) ∨ (i ≠ S0.next ∧ M i = some (c1, m1)) := by
    intro i c1 m1 e1
    unfold Loc.add at e1
    split at e1
    · cases e1; exact .inl ⟨‹_›, rfl, rfl⟩
    · exact .inr ⟨‹_›, e1⟩
  have hcb : cb < w'.heap.size := (Array.getElem?_eq_some_iff.1 hc).1
  refine ⟨hle, ⟨?_, ?_, ?_, ?_, ?_, fun i c m e => by
      rcases hold i c m e with ⟨rfl, _, _⟩ | ⟨hi, e⟩
      · exact ⟨_, PT.get_set_self _ _ _⟩
      · obtain ⟨o2, h2⟩ := hR.tot i c m e
        exact ⟨o2, by rw [PT.get_set_ne _ _ hi]; exact h2⟩⟩, ?_, ?_, Nat.le_succ _, ?_, h.size, ?_, fun i t1 m1 hi => ⟨by rw [PT.get_set_ne _ _ (by have := hR.hdom _ _ hi; omega)]; exact hi, (h.ro i t1 m1 hi).2⟩, h.tape, h.os, h.output⟩
  · intro i c1 m1 e1
    rcases hold i c1 m1 e1 with ⟨rfl, rfl, rfl⟩ | ⟨_, e1⟩
    · exact ⟨Nat.lt_succ_self _, hcb⟩
    · have := hR.dom i c1 m1 e1; exact ⟨Nat.lt_succ_of_lt this.1, this.2⟩
  · intro i q e1
    simp only [PT.get_set] at e1
    split at e1
    · subst_vars; exact Nat.lt_succ_self _
    · exact Nat.lt_succ_of_lt (hR.hdom i q e1)
  · intro i j c1 m1 m2 ei ej hij
    rcases hold i c1 m1 ei with ⟨hi, hc1, _⟩ | ⟨hi, ei'⟩ <;> rcases hold j c1 m2 ej with ⟨hj, hc2, _⟩ | ⟨hj, ej'⟩
    · exact absurd (hi.trans hj.symm) hij
    · subst hc1; exact absurd ej' (hlone j m2)
    · subst hc2; exact absurd ei' (hlone i m1)
    · obtain ⟨t1, k1, e1, t2, k2, e2, g', h1, h2⟩ := hR.inj i j c1 m1 m2 ei' ej' hij
      exact ⟨t1, k1, e1, t2, k2, e2, g', by rw [PT.get_set_ne _ _ hi]; exact h1, by rw [PT.get_set_ne _ _ hj]; exact h2⟩
  · intro i t1 k1 e1 g1 hg
    simp only [PT.get_set] at hg
    split at hg
    · cases hg; exact Nat.lt_succ_self _
    · exact Nat.lt_succ_of_lt (hR.fam i _ _ _ _ hg)
  · intro i q c1 m1 hq ei
    simp only [PT.get_set] at hq
    rcases hold i c1 m1 ei with ⟨hi, hc1, hm1⟩ | ⟨hi, ei'⟩
    · rw [if_pos hi] at hq; cases hq; subst hc1; subst hm1; subst hi
      exact ⟨.cells cs e (fl, fh), hc, .cellsF t m e S0.nfam ⟨[S0.next], m, 0, false⟩ cs fl fh hN hm (by rw [PT.get_set_self]) (fun _ => ⟨Nat.le_refl _, hfit.mono hle⟩) (fun x _ h2 _ => by omega) (fun _ => by show fh ≤ 0; omega)⟩
    · rw [if_neg hi] at hq
      obtain ⟨p, hp, hr⟩ := hR.obj i q c1 m1 hq ei'
      refine ⟨p, hp, (hr.mono hle).congr fun t1 k1 e1 g1 he => PT.get_set_ne _ _ ?_⟩
      subst he
      have := hR.fam i _ _ _ _ hq; omega
  · intro i c1 m1 e1 hn
    rcases hold i c1 m1 e1 with ⟨_, rfl, _⟩ | ⟨_, e1⟩
    · exact .inr hnew
    · rw [hn] at e1; cases e1
  · intro i x e1 hn
    rcases hold i x.1 x.2 e1 with ⟨rfl, _, _⟩ | ⟨_, e1⟩
    · exact Nat.le_refl _
    · rw [hn] at e1; cases e1
  · intro i hi _
    exact PT.get_set_ne _ _ (by omega)
  · intro x hx hr
    exact h.frame x hx hr

/-! ### what the values come to -/
theorem canon1_some {lo nf : Nat} {S : AS} {v : Value} {c : CV} (h : canon1 lo nf S v = some c) :
    (gnd v = true ∧ c = .g v) ∨ ∃ b n sz t m e f l, v = .slice (some ⟨b, 0, none⟩) n sz ∧ c = .s l n sz e ∧ lo ≤ b ∧ S.heap.get b = some (.cells t m e f) ∧ Valid S b f ∧ m = n * sz ∧ readN t 0 m = some l ∧ gndO l = true ∧
      famFree S f = true ∧ famNew nf f = true := by
  unfold canon1 at h
  split at h
  · rename_i hg; cases h; exact .inl ⟨hg, rfl⟩
  · rename_i hng
    split at h
    · rename_i b n sz
      rw [ifB_eq] at h
      split at h
      case isFalse => cases h
      rename_i hlo
      obtain ⟨t, m, e, f, hb, hv, h⟩ := cellsK_some h
      rw [ifB_eq] at h
      split at h
      case isFalse => cases h
      rename_i hm
      split at h
      · rename_i l hl
        rw [ifB_eq] at h
        split at h
        · rename_i hok
          simp only [Bool.and_eq_true] at hok
          cases h
          exact .inr ⟨b, n, sz, t, m, e, f, l, rfl, rfl, ble_true.1 hlo, hb, hv, beq_true.1 hm, hl, hok.1.1, hok.1.2, hok.2⟩
        · cases h
      · cases h
    · cases h
theorem noS_back {lo nf : Nat} {S1 : AS} {M1 : Loc} : ∀ {xs xs' : List Value} {c : List CV}, canonL lo nf S1 xs = some c → noS c = true → VRL M1 xs xs' →
    (∀ M : Loc, VRL M xs xs') ∧ ∀ {β : Type} (S : AS) (k : List Value → AS → Option β), rebuildK c S k = k xs S
  | [], xs', c, hc, hn, hv => by
    cases hv
    cases hc
    exact ⟨fun _ => .nil, fun _ _ => rfl⟩
  | x :: xs, xs', c, hc, hn, hv => by
    cases hv with
    | cons _ y _ ys hx ht =>
      simp only [canonL] at hc
      split at hc
      · rename_i a r ha hr
        cases hc
        simp only [noS, ifB_eq] at hn
        split at hn
        · cases hn
        · rename_i hone
          rcases canon1_some ha with ⟨hg, rfl⟩ | ⟨b, n, sz, t, m, e, f, l, _, rfl, _⟩
          · have hy := hx.gnd_eq hg
            subst hy
            obtain ⟨h1, h2⟩ := noS_back hr hn ht
            refine ⟨fun M => .cons _ _ _ _ (VR.of_gnd hg) (h1 M), fun S k => ?_⟩
            simp only [rebuildK, h2]
          · exact absurd rfl hone
      · cases hc
theorem fewS_back {M M1 : Loc} {S0 S1 : AS} {w w' : World} (hR : Rel M S0 w) (h : Step M S0 w M1 S1 w') (hh : subPT objEq S0.heap S1.heap = true) (hf : subPT famEq S0.fams S1.fams = true) :
    ∀ {xs xs' : List Value} {c : List CV}, canonL S0.next S0.nfam S1 xs = some c → fewS c = true → VRL M1 xs xs' → ∀ {β : Type} (k : List Value → AS → Option β),
    ∃ vs S' M', rebuildK c S0 k = k vs S' ∧ Step M S0 w M' S' w' ∧ VRL M' vs xs'
  | [], xs', c, hc, hn, hv, β, k => by
    cases hv
    cases hc
    exact ⟨[], S0, M, rfl, base_step hR h hh hf, .nil⟩
  | x :: xs, xs', c, hc, hn, hv, β, k => by
    cases hv with
    | cons _ y _ ys hx ht =>
      simp only [canonL] at hc
      split at hc
      case h_2 => cases hc
      rename_i a r ha hr
      cases hc
      rcases canon1_some ha with ⟨hg, rfl⟩ | ⟨b, n, sz, t, m, e, f, l, rfl, rfl, hlo, hb, hval, hm, hl, hgl, hff, hfn⟩
      · have hn' : fewS r = true := hn
        have hy := hx.gnd_eq hg
        subst hy
        obtain ⟨vs, S', M', h1, h2, h3⟩ := fewS_back hR h hh hf hr hn' ht (fun vs S => k (y :: vs) S)
        exact ⟨y :: vs, S', M', by simp only [rebuildK]; exact h1, h2, .cons _ _ _ _ (VR.of_gnd hg) h3⟩
      · have hn' : noS r = true := hn
        obtain ⟨h1, h2⟩ := noS_back hr hn' ht
        obtain ⟨_, cb, N, o', cap, hMb, g1, g2, g3, rfl⟩ := hx.slice_inv
        have ho' : o' = 0 := by omega
        subst ho'
        obtain ⟨cs, flo, fhi, hcell, hcs, hmN, hfit⟩ := h.rel.cells hb hval hMb
        have hMbn : M b = none := by
          cases hMb' : M b with
          | none => rfl
          | some q => have := (hR.dom b q.1 q.2 hMb').1; omega
        -- no block of before lies there
        have hlone : ∀ i n', M i ≠ some (cb, n') := by
          intro i n' hi
          have hib : i ≠ b := by rintro rfl; rw [hMbn] at hi; cases hi
          obtain ⟨t1, k1, e1, t2, k2, e2, g, q1, q2⟩ := h.rel.inj i b cb n' N (h.le _ _ hi) hMb hib
          rw [hb] at q2
          cases q2
          have hng : S0.nfam ≤ g := ble_true.1 hfn
          obtain ⟨o0, ho0⟩ := hR.tot i cb n' hi
          obtain ⟨o1, ho1, heq⟩ := subPT_get hh ho0
          rw [q1] at ho1
          cases ho1
          cases o0 <;> simp only [objEq, reduceCtorEq, Bool.false_eq_true] at heq
          rename_i u0 m0 d0 f0
          simp only [Bool.and_eq_true, beq_true] at heq
          obtain ⟨⟨_, rfl⟩, _⟩ := heq
          have := hR.fam i _ _ _ _ ho0
          omega
        have hnew : w.heap.size ≤ cb := by
          rcases h.newc b cb N hMb hMbn with ⟨j, m', hj⟩ | hge
          · exact absurd hj (hlone j m')
          · exact hge
        have hfh : fhi = 0 := by
          obtain ⟨p, hp, hr'⟩ := h.rel.obj b _ cb N hb hMb
          rw [hcell] at hp; cases hp
          cases hr' with
          | cells0 _ _ _ _ _ _ hf0 _ => exact hf0
          | cellsF _ _ _ g F _ _ _ _ _ hF _ _ hbb =>
            unfold famFree at hff
            simp only at hff
            rw [hF] at hff
            obtain ⟨Fm, Fx, Fz, Fs⟩ := F
            split at hff
            · rename_i heq; cases heq
              have := hbb rfl
              simp at this; exact this
            · cases hff
        obtain ⟨l', q1, q2, q3, q4⟩ := hfit.read hl (by omega)
        have hl' : l' = l := by
          have := VRL.gndO_eq q2 hgl
          exact this
        subst hl'
        have hfit' : Fits M (PT.lf.write 0 l') l'.length cs := by
          intro j v hj hjv
          rw [PT.get_write, if_pos ⟨Nat.zero_le _, by omega⟩, Nat.sub_zero] at hjv
          have hg : VR M v v := by
            obtain ⟨u, hu, hr⟩ := (VRL.of_gndO (M := M) hgl).get hjv
            rw [hjv] at hu; cases hu; exact hr
          exact ⟨v, by have := q4 j v hjv; simpa using this, hg, q3 v (List.mem_of_getElem? hjv)⟩
        have hst := (base_step hR h hh hf).takeIn (m := l'.length) hcell hcs hlone hnew hfit' (by omega) hfh
        refine ⟨.slice (some ⟨S0.next, 0, none⟩) n sz :: xs, _, _, ?_, hst, .cons _ _ _ _ (.slice _ _ _ _ _ _ _ _ (Loc.add_self _ _ _ _) g1 g2 (.inl rfl)) (h1 _)⟩
        simp only [rebuildK]
        rw [fromList_eq, newFam_eq]
        simp only [h2]
theorem cvsEq_eq : ∀ {a b : List CV}, cvsEq a b = true → a = b
  | [], [], _ => rfl
  | [], _ :: _, h => by simp [cvsEq] at h
  | _ :: _, [], h => by simp [cvsEq] at h
  | a :: x, b :: y, h => by
    simp only [cvsEq, Bool.and_eq_true] at h
    have h1 : a = b := by
      have h2 := h.1
      cases a <;> cases b <;> simp only [cvEq, Bool.false_eq_true] at h2
      · rw [veq_eq h2]
      · simp only [Bool.and_eq_true, beq_true] at h2
        rw [veqL_eq h2.1.1.1, h2.1.1.2, h2.1.2, h2.2]
    rw [h1, cvsEq_eq h.2]
theorem allSame_mem {S0 : AS} {tup : Bool} {c : List CV} : ∀ {l : List (Value × AS)}, allSame S0 tup c l = true → ∀ x ∈ l, likeOne S0 tup c x.1 x.2 = true
  | [], _, x, hx => by cases hx
  | (v, S) :: l, h, x, hx => by
    simp only [allSame, ifB_eq] at h
    split at h
    · rcases List.mem_cons.1 hx with rfl | hx
      · assumption
      · exact allSame_mem h x hx
    · cases h
theorem merge_S {M : Loc} {S0 : AS} {w : World} (hR : Rel M S0 w) {outs : List (Value × AS)} {v' : Value} {w' : World} (h : After M S0 w outs v' w') : After M S0 w (merge S0 outs) v' w' := by
  unfold merge
  split
  · exact h
  · exact h
  · rename_i v S l _
    split
    · exact h
    · rename_i c hc
      rw [ifB_eq]
      split
      case isFalse => exact h
      rename_i hok
      simp only [Bool.and_eq_true] at hok
      obtain ⟨hfew, hall⟩ := hok
      obtain ⟨v1, S1, M1, hm, hst, hv⟩ := h
      have hl := allSame_mem hall _ hm
      simp only [likeOne, Bool.and_eq_true] at hl
      obtain ⟨⟨⟨htup, hcan⟩, hheap⟩, hfams⟩ := hl
      split at hcan
      case h_2 => cases hcan
      rename_i d hd
      have hcd := cvsEq_eq hcan
      subst hcd
      have htup' : isTuple v = isTuple v1 := by
        revert htup
        cases isTuple v <;> cases isTuple v1 <;> simp [sameB, ifB_eq]
      rw [htup']
      obtain ⟨xs', hxs, hfin⟩ : ∃ xs', VRL M1 (parts v1) xs' ∧ ∀ {M' : Loc} {vs : List Value}, VRL M' vs xs' → VR M' (tupOr (isTuple v1) vs) v' := by
        by_cases ht : isTuple v1 = true
        · cases v1 <;> simp only [isTuple, Bool.false_eq_true] at ht
          rename_i a
          obtain ⟨b, hb, rfl⟩ := hv.tuple_inv
          exact ⟨b.toList, hb, fun hvs => .tuple _ _ hvs⟩
        · have ht' : isTuple v1 = false := by simpa using ht
          have hp : parts v1 = [v1] := by cases v1 <;> first | rfl | (simp [isTuple] at ht')
          refine ⟨[v'], by rw [hp]; exact .cons _ _ _ _ hv .nil, fun hvs => ?_⟩
          rw [ht']
          cases hvs with
          | cons u _ _ _ hu ht => cases ht; exact hu
      obtain ⟨vs, S', M', h1, h2, h3⟩ := fewS_back hR hst hheap hfams hd hfew hxs (fun vs S => some (vs, S))
      rw [h1]
      exact ⟨_, S', M', List.mem_singleton.2 rfl, h2, hfin h3⟩

/-! ## calls -/
section
variable {E : Env} (hE : EnvOk E) (mg : List FuncId)
include hE
theorem whoC_S {R : CallF} (hRc : CallS E R) : CallS E (whoC E mg R) := by
  intro who S outs h M w s hR hG hwho
  cases hwho with
  | yield l c n args args' hM ha => exact yieldC_S hE hRc h hR hG hM ha
  | fn f args args' ha =>
    have hfn := fnW_S hE f
    have hd := defersN_S hE hRc (fun f => fnW_S hE f) 1000
    have h1 : Bool.casesOn (motive := fun _ => Outs (Value × AS)) (memb f mg) ((fnW E f).f R (defersN E R 1000) args S)
      (match (fnW E f).f R (defersN E R 1000) args S with | some outs => some (merge S outs) | none => none) = some outs := h
    cases hm : memb f mg with
    | false =>
      rw [hm] at h1
      obtain ⟨n, w1, g1, g2⟩ := hfn R _ hRc hd args S outs h1 M w args' hR hG ha
      exact ⟨n, w1, g1, g2.goes⟩
    | true =>
      rw [hm] at h1
      simp only at h1
      split at h1
      · rename_i lo hlo
        cases h1
        obtain ⟨n, w1, g1, g2⟩ := hfn R _ hRc hd args S lo hlo M w args' hR hG ha
        exact ⟨n, w1, g1, g2.goes.mono fun v w hv => merge_S hR hv⟩
      · cases h1
theorem callN_S : ∀ n, CallS E (callN E mg n)
  | 0 => fun _ _ _ h => by cases h
  | n + 1 => whoC_S hE mg (callN_S n)
/-- the evaluator's word is the machine's: whatever the tape -/
theorem calls_of_eval {n : Nat} {f : FuncId} {fn : Func} {c : Code} (hf : E.P.funcs[f]? = some fn) (hbody : fn.body = some c) {args : List Value} {S : AS} {outs : List (Value × AS)} (h : callN E mg n (.fn f args) S = some outs)
    {M : Loc} {w : World} (hR : Rel M S w) (hG : GlobOk E M) {args' : List Value} (ha : VRL M args args') :
    Calls E.P f args'.toArray w fun e w' => match e with
      | .returned v' => After M S w outs v' w'
      | _ => False := by
  obtain ⟨nx, w1, h1, h2⟩ := callN_S hE mg n (.fn f args) S outs h M w _ hR hG (.fn f args args' ha)
  intro cs
  have henter : nx = .enter f args'.toArray ∧ w1 = w := by
    unfold callFunc at h1
    simp only [program, Sem.run_bind, Sem.run, Result.andThen_ok, hf] at h1
    split at h1
    · cases h1; exact h2.elim
    · simp only [hbody] at h1
      cases h1; exact ⟨rfl, rfl⟩
  obtain ⟨rfl, rfl⟩ := henter
  obtain ⟨v, w', fr, g1, g2, g3⟩ := h2 .normal cs (.inl rfl)
  obtain ⟨fn', q1, q2⟩ := g3.res
  exact ⟨.returned v, w', fr, g1, g2, g3.fn, g3.mode, g3.defers, g3.kind, fn', by rw [g3.fn]; exact q1, q2⟩
end
theorem ofListK_get {α : Type} (l : List α) : ∀ (n : Nat) (t : PT α) (i : Nat) (a : α), (PT.ofListK l n t fun t => t).get i = some a → (n ≤ i ∧ l[i - n]? = some a) ∨ t.get i = some a := by
  induction l with
  | nil => intro n t i a h; exact .inr h
  | cons x l ih =>
    intro n t i a h
    simp only [PT.ofListK, PT.setK_eq] at h
    rcases ih _ _ _ _ h with ⟨h1, h2⟩ | h1
    · left
      refine ⟨by omega, ?_⟩
      rw [show i - n = (i - Nat.succ n) + 1 by omega]
      simpa using h2
    · rw [PT.get_set] at h1
      split at h1
      · rename_i hi; subst hi; cases h1; left; simp
      · exact .inr h1
/-- the tables of P, with n package-level variables that are known -/
noncomputable def envOf (P : Program) (n : List Nat) : Env := ⟨P, n, PT.ofListK P.types.toList 0 .lf fun t => t, PT.ofListK P.funcs.toList 0 .lf fun t => t⟩
theorem envOf_ok (P : Program) (n : List Nat) (h : P.follows .mixedOrders = true) : EnvOk (envOf P n) where
  ty t i h := by
    rcases ofListK_get _ _ _ _ _ h with ⟨_, h1⟩ | h1
    · have h2 : P.types[t]? = some i := by simpa using h1
      have hlt : t < P.types.size := (Array.getElem?_eq_some_iff.1 h2).1
      show Tables.info? P.toTables t = some i
      unfold Tables.info?
      rw [if_pos hlt]; exact h2
    · rw [PT.get_lf] at h1; cases h1
  fs f fn h := by
    rcases ofListK_get _ _ _ _ _ h with ⟨_, h1⟩ | h1
    · simpa [envOf] using h1
    · rw [PT.get_lf] at h1; cases h1
  mixed := h
end Go.Am
