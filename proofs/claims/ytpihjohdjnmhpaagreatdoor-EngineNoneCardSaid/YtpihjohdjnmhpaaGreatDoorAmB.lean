/-
  WHAT THE EVALUATOR SAYS OF ONE OPERATION IS WHAT THE MODEL DOES, for every program and every tape. Conditions: the tables of the evaluator are the program's.
-/
import Derived.Test.YtpihjohdjnmhpaaGreatDoorAmA
import Derived.Calls
import Derived.Room.AppendAsks
import Derived.WalkSpells
import Derived.Laws.BitsLemmas
import Derived.Laws.Strings
import Derived.Laws.BytesString
import Derived.Deep.Upon
set_option autoImplicit false
set_option linter.unusedSectionVars false
set_option linter.unusedVariables false
set_option linter.unusedSimpArgs false
namespace Go.Am

/-! ## operands -/
noncomputable def evA (ng : List Nat) (t : PT Value) : Operand → Value
  | .tmp n => (t.get n).getD undefV
  | .const v => if gnd v = true then v else anyV
  | .global g => if memb g ng = true then .pointer (some ⟨g, 0, none⟩) else anyV
  | .func f => .func (.func f) #[] #[]
theorem evW_eq {β : Type} (ng : List Nat) (x : Operand) (t : PT Value) (k : Value → β) : (evW ng x).f t k = k (evA ng t x) := by
  cases x with
  | tmp n =>
    have := getW_eq (β := β) (Nat.succ n) n t (fun _ => k undefV) k (Nat.lt_succ_self n)
    have h2 : (evW (β := β) ng (.tmp n)).f t k = (getW (β := β) (Nat.succ n) n).f t (fun _ => k undefV) k := rfl
    rw [h2, this]
    simp only [evA]
    cases t.get n <;> rfl
  | const v =>
    simp only [evW, evA]
    cases h : gnd v <;> simp
  | global g =>
    simp only [evW, evA]
    cases h : memb g ng <;> simp
  | func f => rfl
theorem evsW_eq {β : Type} (ng : List Nat) (l : List Operand) (t : PT Value) (k : List Value → β) : (evsW ng l).f t k = k (l.map (evA ng t)) := by
  induction l generalizing k with
  | nil => rfl
  | cons x l ih =>
    have : (evsW (β := β) ng (x :: l)).f t k = (evW (β := β) ng x).f t (fun v => (evsW (β := β) ng l).f t fun vs => k (v :: vs)) := rfl
    rw [this, evW_eq, ih]; rfl
theorem evoW_eq {β : Type} (ng : List Nat) (o : Option Operand) (t : PT Value) (k : Option Value → β) : (evoW ng o).f t k = k (o.map (evA ng t)) := by
  cases o with
  | none => rfl
  | some x =>
    have : (evoW (β := β) ng (some x)).f t k = (evW (β := β) ng x).f t (fun v => k (some v)) := rfl
    rw [this, evW_eq]; rfl

/-! ## what a value must be -/
section
variable {M : Loc} {w : Value}
theorem VR.bool_inv {b : Bool} (h : VR M (.bool b) w) : w = .bool b := by cases h; rfl
theorem VR.int_inv {k : IntKind} {n : Int} (h : VR M (.int k n) w) : w = .int k n := by cases h; rfl
theorem VR.string_inv {s : ByteArray} (h : VR M (.string s) w) : w = .string s := by cases h; rfl
theorem VR.ptr_inv {b o : Nat} {s : Option Nat} (h : VR M (.pointer (some ⟨b, o, s⟩)) w) : s = none ∧ ∃ c n, M b = some (c, n) ∧ w = .pointer (some ⟨c, o, none⟩) := by
  cases h with | ptr _ _ c n h => exact ⟨rfl, c, n, h, rfl⟩
theorem VR.ptr0_inv (h : VR M (.pointer none) w) : w = .pointer none := by cases h; rfl
theorem VR.slice_inv {b o len sz : Nat} {s : Option Nat} (h : VR M (.slice (some ⟨b, o, s⟩) len sz) w) :
    s = none ∧ ∃ c n o' cap, M b = some (c, n) ∧ len ≤ cap ∧ o' + cap * sz ≤ n ∧ (o' = o ∨ (len = 0 ∧ o ≠ 0)) ∧ w = .slice (some ⟨c, o', none⟩) len cap := by
  cases h with | slice _ _ _ _ c n o' cap h h1 h2 h3 => exact ⟨rfl, c, n, o', cap, h, h1, h2, h3, rfl⟩
theorem VR.slice0_inv {len sz : Nat} (h : VR M (.slice none len sz) w) : len = 0 ∧ sz = 0 ∧ w = .slice none 0 0 := by cases h; exact ⟨rfl, rfl, rfl⟩
theorem VR.map_inv {r : Nat} (h : VR M (.map (some r)) w) : ∃ c n, M r = some (c, n) ∧ w = .map (some c) := by cases h with | map _ c n h => exact ⟨c, n, h, rfl⟩
theorem VR.map0_inv (h : VR M (.map none) w) : w = .map none := by cases h; rfl
theorem VR.iface_inv {t : TypeId} {v : Value} (h : VR M (.iface t v) w) : ∃ u, VR M v u ∧ w = .iface t u := by cases h with | iface _ _ u h => exact ⟨u, h, rfl⟩
theorem VR.nilIface_inv (h : VR M .nilIface w) : w = .nilIface := by cases h; rfl
theorem VR.nilFunc_inv (h : VR M .nilFunc w) : w = .nilFunc := by cases h; rfl
theorem VR.func_inv {f : Fn} {a c : Array Value} (h : VR M (.func f a c) w) : ∃ g b d, FnR M f g ∧ VRL M a.toList b.toList ∧ VRL M c.toList d.toList ∧ w = .func g b d := by
  cases h with | func _ g _ b _ d h h1 h2 => exact ⟨g, b, d, h, h1, h2, rfl⟩
theorem VR.agg_inv {a : Array Value} (h : VR M (.agg a) w) : ∃ b, VRL M a.toList b.toList ∧ (∀ x ∈ b.toList, x.oneCell' = true) ∧ w = .agg b := by
  cases h with | agg _ b h h1 => exact ⟨b, h, h1, rfl⟩
theorem VR.tuple_inv {a : Array Value} (h : VR M (.tuple a) w) : ∃ b, VRL M a.toList b.toList ∧ w = .tuple b := by
  cases h with | tuple _ b h => exact ⟨b, h, rfl⟩
end

/-! ## the program's tables -/
structure EnvOk (E : Env) : Prop where
  ty : ∀ t i, E.ty.get t = some i → E.P.info? t = some i
  fs : ∀ f fn, E.fs.get f = some fn → E.P.funcs[f]? = some fn
  mixed : E.P.follows .mixedOrders = true
section
variable {E : Env} (hE : EnvOk E)
include hE
theorem EnvOk.und {t : TypeId} {d : TypeDesc} (h : E.und t = some d) : E.P.underlying t = some d := by
  unfold Env.und at h
  split at h
  · rename_i i hi
    have h1 := hE.ty _ _ hi
    unfold Program.underlying
    rw [h1]
    cases i with
    | mk desc str size bytes hp al fa zero cm ms =>
      cases desc with
      | named a u =>
        simp only at h ⊢
        split at h
        · rename_i j hj
          rw [hE.ty _ _ hj]; simpa using h
        · cases h
      | _ => simpa using h
  · cases h
theorem EnvOk.info {t : TypeId} (h : E.cells t ≠ 0) : ∃ i, E.P.info? t = some i ∧ i.size = E.cells t ∧ i.bytes = E.bytes t := by
  unfold Env.cells at h
  split at h
  · rename_i i hi
    exact ⟨i, hE.ty _ _ hi, by simp [Env.cells, hi], by simp [Env.bytes, hi]⟩
  · exact absurd rfl h
theorem EnvOk.size {t : TypeId} (h : E.cells t ≠ 0) (w : World) : (sizeOf t).run E.P w = .ok (E.cells t) w := by
  obtain ⟨i, hi, hs, _⟩ := hE.info h
  simp [sizeOf, typeInfo, hi, hs]
theorem EnvOk.zero {t : TypeId} {z : Value} (h : zeroOf E t = some z) : ∃ i, E.P.info? t = some i ∧ i.zero = some z ∧ gnd z = true := by
  unfold zeroOf at h
  split at h
  · rename_i i hi
    split at h
    · rename_i z' hz
      rw [ifB_eq] at h
      split at h
      · cases h; exact ⟨i, hE.ty _ _ hi, hz, ‹_›⟩
      · cases h
    · cases h
  · cases h
theorem EnvOk.isAgg {t : TypeId} {b : Bool} (h : isAggO E t = some b) (w : World) : (isAgg t).run E.P w = .ok b w := by
  unfold isAggO at h
  split at h
  · rename_i fs hd; cases h; simp [Go.isAgg, run_underlying (hE.und hd)]
  · rename_i n e hd; cases h; simp [Go.isAgg, run_underlying (hE.und hd)]
  · rename_i d h1 h2 hd; cases h
    simp only [Go.isAgg, Sem.run_bind, run_underlying (hE.und hd), Result.andThen_ok]
    cases d <;> first | rfl | (exact absurd rfl (h1 _)) | (exact absurd rfl (h2 _ _))
  · cases h
end

/-! ## what an operation does -/
inductive IsVal : Next → Value → Prop
  | value (v : Value) : IsVal (.value v) v
  | skip : IsVal .skip undef
/-- what is owed of an operation: where the evaluator goes on with v and S', the machine comes there -/
def OpS {β : Type} (E : Env) (f : OpF β) (op : Op) : Prop :=
  ∀ (t : PT Value) (S : AS) (kk : Value → AS → Option β) (r : β), f t S kk = some r →
    ∀ (M : Loc) (w : World) (ρ : Operand → Value), Rel M S w → (∀ x ∈ op.operands, VR M (evA E.ng t x) (ρ x)) → ∀ o : Oper, o.op = op →
    ∃ v S', kk v S' = some r ∧ ∃ n v' w' M', (execOp ρ o).run E.P w = .ok n w' ∧ IsVal n v' ∧ Step M S w M' S' w' ∧ VR M' v v'

/-- what is owed of an operation that leaves the world alone -/
def OpP {β : Type} (E : Env) (f : OpF β) (op : Op) : Prop :=
  ∀ (t : PT Value) (S : AS) (kk : Value → AS → Option β) (r : β), f t S kk = some r →
    ∀ (M : Loc) (w : World) (ρ : Operand → Value), Rel M S w → (∀ x ∈ op.operands, VR M (evA E.ng t x) (ρ x)) → ∀ o : Oper, o.op = op →
    ∃ v v', kk v S = some r ∧ (execOp ρ o).run E.P w = .ok (.value v') w ∧ VR M v v'

section
variable {E : Env} {β : Type}
theorem un1_f (x : Operand) (g : AS → Value → (Value → AS → Option β) → Option β) (t : PT Value) (S : AS) (kk : Value → AS → Option β) : (un1 E x g).f t S kk = g S (evA E.ng t x) kk := by
  have : (un1 E x g).f t S kk = (evW (β := Option β) E.ng x).f t (fun v => g S v kk) := rfl
  rw [this, evW_eq]
theorem un2_f (x y : Operand) (g : AS → Value → Value → (Value → AS → Option β) → Option β) (t : PT Value) (S : AS) (kk : Value → AS → Option β) : (un2 E x y g).f t S kk = g S (evA E.ng t x) (evA E.ng t y) kk := by
  have : (un2 E x y g).f t S kk = (evW (β := Option β) E.ng x).f t (fun v => (evW (β := Option β) E.ng y).f t fun w => g S v w kk) := rfl
  rw [this, evW_eq, evW_eq]
theorem un3_f (x y z : Operand) (g : AS → Value → Value → Value → (Value → AS → Option β) → Option β) (t : PT Value) (S : AS) (kk : Value → AS → Option β) :
    (un3 E x y z g).f t S kk = g S (evA E.ng t x) (evA E.ng t y) (evA E.ng t z) kk := by
  have : (un3 E x y z g).f t S kk = (evW (β := Option β) E.ng x).f t (fun v => (evW (β := Option β) E.ng y).f t fun w => (evW (β := Option β) E.ng z).f t fun u => g S v w u kk) := rfl
  rw [this, evW_eq, evW_eq, evW_eq]

theorem OpP.toS {f : OpF β} {op : Op} (h : OpP E f op) : OpS E f op := by
  intro t S kk r hf M w ρ hR hρ o ho
  obtain ⟨v, v', h1, h2, h3⟩ := h t S kk r hf M w ρ hR hρ o ho
  exact ⟨v, S, h1, ⟨_, v', w, M, h2, .value _, Step.refl hR, h3⟩⟩

theorem move_P (x : Operand) : OpP E (moveW (β := β) E x).f (.move x) := fun t S kk r hf M w ρ hR hρ o ho => by
  have h1 : (moveW (β := β) E x).f t S kk = (evW (β := Option β) E.ng x).f t (fun v => kk v S) := rfl
  rw [h1, evW_eq] at hf
  exact ⟨_, ρ x, hf, by unfold execOp; rw [ho]; rfl, hρ x (by simp [Op.operands])⟩
theorem assign_P (x : Operand) : OpP E (moveW (β := β) E x).f (.assign x) := fun t S kk r hf M w ρ hR hρ o ho => by
  have h1 : (moveW (β := β) E x).f t S kk = (evW (β := Option β) E.ng x).f t (fun v => kk v S) := rfl
  rw [h1, evW_eq] at hf
  exact ⟨_, ρ x, hf, by unfold execOp; rw [ho]; rfl, hρ x (by simp [Op.operands])⟩
theorem pick_P (c a b : Operand) : OpP E (pickW (β := β) E c a b).f (.pick c a b) := fun t S kk r hf M w ρ hR hρ o ho => by
  have h1 : (pickW (β := β) E c a b).f t S kk = (evW (β := Option β) E.ng c).f t (fun c => aPick c ((evW (β := Option β) E.ng a).f t fun v => kk v S) ((evW (β := Option β) E.ng b).f t fun v => kk v S)) := rfl
  rw [h1, evW_eq, evW_eq, evW_eq] at hf
  have hc := hρ c (by simp [Op.operands])
  have ha := hρ a (by simp [Op.operands])
  have hb := hρ b (by simp [Op.operands])
  unfold aPick at hf
  split at hf
  · rename_i bb hbb
    rw [hbb] at hc
    have hcc := hc.bool_inv
    cases bb
    · exact ⟨_, ρ b, hf, by unfold execOp; rw [ho]; simp [asBool, hcc], hb⟩
    · exact ⟨_, ρ a, hf, by unfold execOp; rw [ho]; simp [asBool, hcc], ha⟩
  · cases hf
end
end Go.Am

namespace Go.Am

theorem fromList_eq {β : Type} (l : List Value) (k : PT Value → Nat → β) : fromList l k = k (PT.lf.write 0 l) l.length := by
  unfold fromList; rw [writeK_to, fN_eq]
theorem Fits.new {M : Loc} {l l' : List Value} (h : VRL M l l') (h1 : ∀ x ∈ l', x.oneCell' = true) : Fits M (PT.lf.write 0 l) l.length l'.toArray := by
  intro i v hi hv
  rw [PT.get_write, if_pos (by omega)] at hv
  obtain ⟨u, hu, hr⟩ := h.get hv
  exact ⟨u, by simpa using hu, hr, h1 u (List.mem_of_getElem? hu)⟩
/-- a new block of cells, of no family -/
theorem Rel.newCells {M : Loc} {S : AS} {w : World} (h : Rel M S w) {l l' : List Value} (hl : VRL M l l') (h1 : ∀ x ∈ l', x.oneCell' = true) (e : TypeId) :
    Step M S w (M.add S.next w.heap.size l.length) (S.add (.cells (PT.lf.write 0 l) l.length e 0)) { w with heap := w.heap.push (.cells l'.toArray e) } := by
  have hlen := hl.length
  refine h.alloc trivial ?_
  exact .cells0 _ _ _ 0 0 (by simp [hlen]) rfl ((Fits.new hl h1).mono (Loc.le_add h.fresh))
theorem zero_cells {E : Env} (hE : EnvOk E) {t : TypeId} {zl : List Value} (h : (zeroOf E t).bind cellsO = some zl) :
    ∃ i z, E.P.info? t = some i ∧ i.zero = some z ∧ gnd z = true ∧ cellsO z = some zl ∧ z.cells.toList = zl ∧ (∀ M, VRL M zl zl) ∧ ∀ x ∈ zl, x.oneCell' = true := by
  cases hz : zeroOf E t with
  | none => rw [hz] at h; cases h
  | some z =>
    rw [hz] at h
    obtain ⟨i, hi, hzi, hg⟩ := hE.zero hz
    have key : ∀ M, VRL M zl z.cells.toList ∧ ∀ x ∈ z.cells.toList, x.oneCell' = true := fun M => (VR.of_gnd (M := M) hg).cells h
    have heq : z.cells.toList = zl := by
      cases z <;> simp only [Option.bind_some, cellsO, Option.some.injEq, reduceCtorEq] at h <;> subst h <;> simp [Value.cells]
    exact ⟨i, z, hi, hzi, hg, h, heq, fun M => by have := (key M).1; rwa [heq] at this, by have := (key fun _ => none).2; rwa [heq] at this⟩

section
variable {E : Env} {β : Type} (hE : EnvOk E)
include hE
theorem alloc_S (t : TypeId) : OpS E (allocW (β := β) E t).f (.alloc t) := by
  intro tm S kk r hf M w ρ hR hρ o ho
  unfold allocW at hf
  split at hf
  · cases hf
  · rename_i zl hz
    obtain ⟨i, z, hi, hzi, hg, hc, heq, hv, h1⟩ := zero_cells hE hz
    rw [fromList_eq] at hf
    simp only [AS.alloc_eq] at hf
    refine ⟨_, _, hf, ⟨.value (.pointer (some ⟨w.heap.size, 0, none⟩)), _, _, _, ?_, .value _, hR.newCells (hv M) h1 t, .ptr _ _ _ _ (Loc.add_self _ _ _ _)⟩⟩
    unfold execOp; rw [ho]
    simp [Instr.alloc, zeroValue, typeInfo, hi, hzi, newVar, newRow, ← heq]
theorem box_S (t : TypeId) (x : Operand) : OpS E (boxW (β := β) E t x).f (.box t x) := by
  intro tm S kk r hf M w ρ hR hρ o ho
  unfold boxW at hf
  rw [un1_f] at hf
  have hx := hρ x (by simp [Op.operands])
  split at hf
  · rename_i c hc
    obtain ⟨hv, h1⟩ := hx.cells hc
    unfold newCells at hf
    rw [fromList_eq, AS.alloc_eq] at hf
    refine ⟨_, _, hf, ⟨.value (.pointer (some ⟨w.heap.size, 0, none⟩)), _, _, _, ?_, .value _, hR.newCells hv h1 t, .ptr _ _ _ _ (Loc.add_self _ _ _ _)⟩⟩
    unfold execOp; rw [ho]
    simp [Instr.box, newVar, newRow]
  · cases hf
/-- what is loaded -/
theorem load_val {S : AS} {M : Loc} {w : World} (hR : Rel M S w) {t : TypeId} {agg : Bool} (ha : isAggO E t = some agg) {b off c n : Nat} (hM : M b = some (c, n)) {γ : Type} {k : Value → Option γ} {r : γ}
    (h : (match agg with
      | true => S.readK b fun tr n => loadAgg (E.cells t) off tr n k
      | false => S.readK b fun tr n => loadOne off tr n k) = some r) :
    ∃ v v', k v = some r ∧ VR M v v' ∧ (loadVar t ⟨c, off, none⟩).run E.P w = .ok v' w := by
  have hagg := hE.isAgg ha w
  cases agg with
  | true =>
    simp only at h
    obtain ⟨tr, m, h, hread⟩ := readK_some h
    obtain ⟨cs, e, lo, hi, hc, hs, hn, hfit⟩ := hread hR hM
    unfold loadAgg at h
    rw [ifB_eq] at h
    split at h
    · rename_i hle
      split at h
      · rename_i l hl
        have hle' : off + E.cells t ≤ m := ble_true.1 hle
        obtain ⟨l', h1, h2, h3, h4⟩ := hfit.read hl hle'
        have hrun := run_loadCells_of (P := E.P) hc h4
        rw [h1] at hrun
        have hsz : (sizeOf t).run E.P w = .ok (E.cells t) w := by
          have : ∃ i, E.ty.get t = some i := by
            unfold isAggO Env.und at ha
            cases hg : E.ty.get t with
            | none => simp [hg] at ha
            | some i => exact ⟨i, rfl⟩
          obtain ⟨i, hi⟩ := this
          simp [sizeOf, typeInfo, hE.ty _ _ hi, Env.cells, hi]
        refine ⟨_, .agg l'.toArray, h, .agg _ _ (by simpa using h2) (by simpa using h3), ?_⟩
        simp [loadVar, hagg, hsz, hrun]
      · cases h
    · cases h
  | false =>
    simp only at h
    obtain ⟨tr, m, h, hread⟩ := readK_some h
    obtain ⟨cs, e, lo, hi, hc, hs, hn, hfit⟩ := hread hR hM
    unfold loadOne at h
    rw [ifB_eq] at h
    split at h
    · rename_i hle
      split at h
      · rename_i v hv
        obtain ⟨u, hu, hr, ho⟩ := hfit off v (by have := ble_true.1 hle; omega) hv
        refine ⟨v, u, h, hr, ?_⟩
        simp [loadVar, hagg, cell_of hc, hu]
      · cases h
    · cases h
theorem loadV_val {S : AS} {M : Loc} {w : World} (hR : Rel M S w) {t : TypeId} {a a' : Value} (ha : VR M a a') {γ : Type} {k : Value → Option γ} {r : γ} (h : aLoadV E t S a k = some r) :
    ∃ v v' c off, k v = some r ∧ VR M v v' ∧ a' = .pointer (some ⟨c, off, none⟩) ∧ (loadVar t ⟨c, off, none⟩).run E.P w = .ok v' w := by
  unfold aLoadV at h
  split at h
  · rename_i b off
    obtain ⟨_, c, n, hM, rfl⟩ := ha.ptr_inv
    unfold aLoadK at h
    split at h
    · cases h
    · rename_i hagg
      obtain ⟨v, v', h1, h2, h3⟩ := load_val hE hR hagg hM (k := k) (r := r) h
      exact ⟨v, v', c, off, h1, h2, rfl, h3⟩
    · rename_i hagg
      obtain ⟨v, v', h1, h2, h3⟩ := load_val hE hR hagg hM (k := k) (r := r) h
      exact ⟨v, v', c, off, h1, h2, rfl, h3⟩
  · cases h
theorem loadF_S {t : TypeId} {agg : Bool} (hagg : isAggO E t = some agg) {S : AS} {a a' : Value} {kk : Value → AS → Option β} {r : β} (h : (loadF (β := β) agg (E.cells t)).f S a kk = some r)
    {M : Loc} {w : World} (hR : Rel M S w) (ha : VR M a a') : ∃ v v' c off, kk v S = some r ∧ a' = .pointer (some ⟨c, off, none⟩) ∧ (loadVar t ⟨c, off, none⟩).run E.P w = .ok v' w ∧ VR M v v' := by
  cases agg <;> simp only [loadF] at h <;> split at h
  · rename_i b off
    obtain ⟨_, c, n, hM, hp⟩ := ha.ptr_inv
    obtain ⟨v, v', h1, h2, h3⟩ := load_val hE hR hagg hM (k := fun v => kk v S) (r := r) h
    exact ⟨v, v', c, off, h1, hp, h3, h2⟩
  · cases h
  · rename_i b off
    obtain ⟨_, c, n, hM, hp⟩ := ha.ptr_inv
    obtain ⟨v, v', h1, h2, h3⟩ := load_val hE hR hagg hM (k := fun v => kk v S) (r := r) h
    exact ⟨v, v', c, off, h1, hp, h3, h2⟩
  · cases h
theorem load_P (t : TypeId) (a : Operand) : OpP E (loadW (β := β) E t a).f (.load t a) := fun tm S kk r hf M w ρ hR hρ o ho => by
  have ha := hρ a (by simp [Op.operands])
  unfold loadW at hf
  split at hf
  · cases hf
  · rename_i agg hagg
    obtain ⟨g, hg⟩ : ∃ g, loadF (β := β) agg (E.cells t) = ⟨g⟩ := ⟨_, rfl⟩
    have h2 := fun h => loadF_S (β := β) hE hagg (S := S) (a := evA E.ng tm a) (kk := kk) (r := r) h hR ha
    rw [hg] at hf h2
    simp only [un1_f] at hf
    obtain ⟨v, v', c, off, h1, hp, h3, h4⟩ := h2 hf
    refine ⟨v, v', h1, ?_, h4⟩
    unfold execOp; rw [ho]
    simp [Instr.loadAt, Instr.sureAddr, hp, h3]
theorem store_S (t : TypeId) (a x : Operand) : OpS E (storeW (β := β) E t a x).f (.store t a x) := by
  intro tm S kk r hf M w ρ hR hρ o ho
  have ha := hρ a (by simp [Op.operands])
  have hx := hρ x (by simp [Op.operands])
  unfold storeW at hf
  split at hf
  · cases hf
  · rename_i sz hsz
    rw [un2_f] at hf
    unfold aStoreV at hf
    split at hf
    · rename_i b off hb
      rw [hb] at ha
      obtain ⟨_, c, n, hM, hp⟩ := ha.ptr_inv
      split at hf
      · rename_i cl hcl
        rw [ifB_eq] at hf
        split at hf
        · rename_i hlen
          obtain ⟨hv, h1⟩ := hx.cells hcl
          obtain ⟨S', w', hk, hrun, hst⟩ := aStoreK_sound hR hf hM hv h1 (P := E.P)
          have hl := hv.length
          have hlen' := beq_true.1 hlen
          have hsize := hE.size (t := t) (by omega) w
          refine ⟨_, _, hk, ⟨.skip, _, _, _, ?_, .skip, hst, .tuple _ _ .nil⟩⟩
          unfold execOp; rw [ho]
          have : (ρ x).cells.size = E.cells t := by rw [← Array.length_toList]; omega
          simp [Instr.storeAt, Instr.sureAddr, hp, storeVar, hsize, this, hrun]
        · cases hf
      · cases hf
    · cases hf
end
end Go.Am

namespace Go.Am

theorem pureRun_run {α : Type} {P : Program} {s : Sem α} {a : α} (h : pureRun P s = some a) (w : World) : s.run P w = .ok a w := by
  induction s with
  | pure b => simp only [pureRun, Option.some.injEq] at h; subst h; rfl
  | program k ih => simp only [pureRun] at h; exact ih P h
  | _ => simp [pureRun] at h

section
variable {E : Env} {β : Type} (hE : EnvOk E)
include hE
theorem EnvOk.info' {t : TypeId} {d : TypeDesc} (h : E.und t = some d) : ∃ i, E.P.info? t = some i ∧ i.size = E.cells t := by
  unfold Env.und at h
  split at h
  · rename_i i hi; exact ⟨i, hE.ty _ _ hi, by simp [Env.cells, hi]⟩
  · cases h
theorem EnvOk.size' {t : TypeId} {agg : Bool} (h : isAggO E t = some agg) (w : World) : (sizeOf t).run E.P w = .ok (E.cells t) w := by
  have : ∃ d, E.und t = some d := by
    unfold isAggO at h
    cases hd : E.und t with
    | none => simp [hd] at h
    | some d => exact ⟨d, rfl⟩
  obtain ⟨d, hd⟩ := this
  obtain ⟨i, hi, hs⟩ := hE.info' hd
  simp [sizeOf, typeInfo, hi, hs]
theorem part_val {M : Loc} {t : TypeId} {cs : List Value} {cs' : Array Value} {off : Nat} {kk : Value → Option β} {r : β} (h : aggPart E t cs off kk = some r)
    (hv : VRL M cs cs'.toList) (h1 : ∀ x ∈ cs'.toList, x.oneCell' = true) (w : World) :
    ∃ v v', kk v = some r ∧ (part t cs' off).run E.P w = .ok v' w ∧ VR M v v' := by
  unfold aggPart at h
  split at h
  · cases h
  · rename_i ha
    rw [takeK_eq, dropL_eq, ifB_eq] at h
    split at h
    · have hr := hE.isAgg ha w
      refine ⟨_, .agg (cs'.extract off (off + E.cells t)), h, ?_, .agg _ _ ?_ ?_⟩
      · simp [part, hr, hE.size' ha w]
      · have := (hv.drop off).take (E.cells t)
        simpa [Array.toList_extract, List.extract_eq_take_drop] using this
      · intro x hx
        apply h1
        rw [Array.toList_extract, List.extract_eq_take_drop] at hx
        exact List.mem_of_mem_drop (List.mem_of_mem_take hx)
    · cases h
  · rename_i ha
    have hr := hE.isAgg ha w
    split at h
    · rename_i v hg
      rw [listGet_eq] at hg
      obtain ⟨u, hu, hvu⟩ := hv.get hg
      refine ⟨v, u, h, ?_, hvu⟩
      have : cs'[off]? = some u := by simpa using hu
      simp [part, hr, this]
    · cases h

theorem func_P (fn : Fn) (hfn : ∀ l, fn ≠ .yield l) (a c : Array Operand) : OpP E (funcW (β := β) E fn a.toList c.toList).f (.makeFunc fn a c) := fun tm S kk r hf M w ρ hR hρ o ho => by
  have h1 : (funcW (β := β) E fn a.toList c.toList).f tm S kk = (evsW (β := Option β) E.ng a.toList).f tm fun a => (evsW (β := Option β) E.ng c.toList).f tm fun c => kk (.func fn a.toArray c.toArray) S := rfl
  rw [h1, evsW_eq, evsW_eq] at hf
  refine ⟨_, .func fn (a.map ρ) (c.map ρ), hf, by unfold execOp; rw [ho]; simp [Instr.makeFunc], .func _ _ _ _ _ _ ?_ ?_ ?_⟩
  · cases fn with
    | func => exact .func _
    | method => exact .method _
    | methodOf => exact .methodOf _ _
    | via => exact .via _ _ _ _
    | yield l => exact absurd rfl (hfn l)
  · apply VRL.of_get (by simp)
    intro i v w hv hw
    simp at hv hw
    obtain ⟨x, hx, rfl⟩ := hv
    obtain ⟨y, hy, rfl⟩ := hw
    rw [hx] at hy; cases hy
    exact hρ x (by simp [Op.operands]; exact .inl (Array.mem_of_getElem? hx))
  · apply VRL.of_get (by simp)
    intro i v w hv hw
    simp at hv hw
    obtain ⟨x, hx, rfl⟩ := hv
    obtain ⟨y, hy, rfl⟩ := hw
    rw [hx] at hy; cases hy
    exact hρ x (by simp [Op.operands]; exact .inr (Array.mem_of_getElem? hx))
theorem iface_P (t : TypeId) (x : Operand) : OpP E (ifaceW (β := β) E t x).f (.makeInterface t x) := fun tm S kk r hf M w ρ hR hρ o ho => by
  have hx := hρ x (by simp [Op.operands])
  unfold ifaceW at hf
  split at hf
  · rename_i hi
    rw [un1_f] at hf
    refine ⟨_, .iface t (ρ x), hf, ?_, .iface _ _ _ hx⟩
    unfold isIfaceT at hi
    unfold execOp; rw [ho]
    split at hi
    · cases hi
    · rename_i d hnot hd
      simp only [Instr.makeInterface, Sem.run_bind, run_underlying (hE.und hd), Result.andThen_ok]
      cases d <;> first | rfl | (exact absurd rfl (hnot _))
    · cases hi
  · cases hf
theorem extract_P (i : Nat) (x : Operand) : OpP E (extractW (β := β) E i x).f (.extract x i) := fun tm S kk r hf M w ρ hR hρ o ho => by
  have hx := hρ x (by simp [Op.operands])
  unfold extractW at hf
  rw [un1_f] at hf
  unfold tupleGet at hf
  split at hf
  · rename_i vs hv
    rw [hv] at hx
    obtain ⟨b, hb, hbb⟩ := hx.tuple_inv
    split at hf
    · rename_i v hg
      rw [listGet_eq] at hg
      obtain ⟨u, hu, hr⟩ := hb.get hg
      refine ⟨v, u, hf, ?_, hr⟩
      have : b[i]? = some u := by simpa using hu
      unfold execOp; rw [ho]
      simp [Instr.extract, hbb, this]
    · cases hf
  · cases hf
theorem not_P (t : TypeId) (x : Operand) (op : UnOp) : OpP E (unopW (β := β) E op x).f (.unOp op t x) := fun tm S kk r hf M w ρ hR hρ o ho => by
  have hx := hρ x (by simp [Op.operands])
  have hn : ∀ {op : UnOp}, o.op = .unOp op t x → (aUn E op (evA E.ng tm x) fun v => kk v S) = some r → ∃ v v', kk v S = some r ∧ (execOp ρ o).run E.P w = .ok (.value v') w ∧ VR M v v' := by
    intro op ho hf
    unfold aUn at hf
    split at hf
    · rename_i k n hv
      rw [hv] at hx
      have hxx := hx.int_inv
      split at hf
      · rename_i k' z hp
        rw [fI_eq] at hf
        refine ⟨_, _, hf, ?_, .int _ _⟩
        have := pureRun_run hp w
        unfold execOp; rw [ho]
        simp [hxx, this]
      · cases hf
    · cases hf
  unfold unopW at hf
  split at hf
  · rw [un1_f] at hf
    unfold aNot at hf
    split at hf
    · rename_i b hv
      rw [hv] at hx
      have hxx := hx.bool_inv
      rw [fB_eq] at hf
      refine ⟨_, _, hf, ?_, .bool _⟩
      unfold execOp; rw [ho]
      simp [hxx, Op.unary]
    · cases hf
  · rw [un1_f] at hf
    exact hn ho hf
theorem field_P (t : TypeId) (x : Operand) (f : Nat) : OpP E (fieldW (β := β) E t x f).f (.field t x f) := fun tm S kk r hf M w ρ hR hρ o ho => by
  have hx := hρ x (by simp [Op.operands])
  unfold fieldW at hf
  split at hf
  · rename_i fl hfl
    rw [un1_f] at hf
    unfold aFieldV at hf
    split at hf
    · rename_i cs hv
      rw [hv] at hx
      obtain ⟨b, hb, h1, hbb⟩ := hx.agg_inv
      obtain ⟨v, v', hk, hrun, hvr⟩ := part_val hE hf hb h1 w
      refine ⟨v, v', hk, ?_, hvr⟩
      unfold fieldOf at hfl
      split at hfl
      · rename_i fs hd
        unfold execOp; rw [ho]
        simp only [Instr.field, Sem.run_bind, run_underlying (hE.und hd), Result.andThen_ok, hfl, hbb]
        simp [asAgg, hrun]
      · cases hfl
    · cases hf
  · cases hf
theorem fieldAddr_P (t : TypeId) (x : Operand) (f : Nat) : OpP E (fieldAddrW (β := β) E t x f).f (.fieldAddr t x f) := fun tm S kk r hf M w ρ hR hρ o ho => by
  have hx := hρ x (by simp [Op.operands])
  unfold fieldAddrW at hf
  split at hf
  · rename_i fl hfl
    simp only [un1_f] at hf
    unfold aFieldAddr at hf
    split at hf
    · rename_i b off hv
      rw [hv] at hx
      obtain ⟨_, c, n, hM, hp⟩ := hx.ptr_inv
      rw [ifB_eq] at hf
      split at hf
      · cases hf
      · rename_i hz
        rw [fN_eq] at hf
        have hz' : E.cells fl.type ≠ 0 := fun h => hz (beq_true.2 h)
        refine ⟨_, .pointer (some ⟨c, off + fl.offset, none⟩), hf, ?_, .ptr _ _ _ _ hM⟩
        unfold fieldOf at hfl
        split at hfl
        · rename_i fs hd
          unfold execOp; rw [ho]
          simp only [Instr.fieldAt, Sem.run_bind, run_underlying (hE.und hd), Result.andThen_ok, hfl, hp]
          simp [Instr.sureAddr, fieldPlace, hE.size hz' w, hz', add_off]
        · cases hfl
    · cases hf
  · cases hf
theorem nilCheck_P (x : Operand) : OpP E (nilCheckW (β := β) E x).f (.nilCheck x) := fun tm S kk r hf M w ρ hR hρ o ho => by
  have hx := hρ x (by simp [Op.operands])
  unfold nilCheckW at hf
  rw [un1_f] at hf
  unfold aNilCheck at hf
  refine ⟨_, ρ x, ?_, ?_, hx⟩
  · split at hf
    · rename_i a hv; rw [hv]; exact hf
    · rename_i name first cap hv
      split at hf
      · rename_i t u hl
        rw [ifB_eq] at hf
        split at hf
        · rw [hv]; exact hf
        · cases hf
      · cases hf
    · rename_i fn first cap hnot hv; rw [hv]; exact hf
    · rename_i t v hv; rw [hv]; exact hf
    · cases hf
  · unfold execOp; rw [ho]
    split at hf
    · rename_i a hv
      rw [hv] at hx
      obtain ⟨b, off, sp⟩ := a
      obtain ⟨_, c, n, hM, hp⟩ := hx.ptr_inv
      simp [hp]
    · rename_i name first cap hv
      rw [hv] at hx
      obtain ⟨g, b, d, hg, hb, hd, hp⟩ := hx.func_inv
      cases hg
      split at hf
      · rename_i t u hl
        rw [hl] at hb
        rw [ifB_eq] at hf
        split at hf
        · rename_i hok
          have hb0 : ∃ u', b[0]? = some (.iface t u') := by
            cases hb' : b.toList with
            | nil => rw [hb'] at hb; cases hb
            | cons y l =>
              rw [hb'] at hb
              cases hb with
              | cons _ _ _ _ h _ =>
                obtain ⟨u', _, rfl⟩ := h.iface_inv
                exact ⟨u', by rw [← Array.getElem?_toList, hb']; rfl⟩
          obtain ⟨u', hb0⟩ := hb0
          have hna : (nilAhead (E.P.types.size + Made.depth) t u' name).run E.P w = .ok (some false) w := by
            unfold nilOk at hok
            split at hok
            · cases hok
            · rename_i i hi
              have hty := hE.ty _ _ hi
              split at hok
              · cases hok
              · rename_i m hm
                split at hok
                · rename_i hpath
                  show (nilAhead (E.P.types.size + 99 + 1) t u' name).run E.P w = _
                  unfold nilAhead
                  simp only [Sem.run_bind, typeInfo, program, Sem.run, Result.andThen_ok, hty, hm, hpath, followBlind, Sem.run_pure]
                  split at hok
                  · rename_i f hf'; simp [hf', Sem.run]
                  · rename_i f hf'
                    split at hok
                    · cases hok
                    · rename_i d hnot hd
                      simp only [hf', Sem.run_bind, run_underlying (hE.und hd), Result.andThen_ok]
                      cases d <;> first | rfl | (exact absurd rfl (hnot _))
                    · cases hok
                  · cases hok
                · cases hok
          simp only [hp, hb0]
          simp [program, Sem.run, hna]
        · cases hf
      · cases hf
    · rename_i fn first cap hnot hv
      rw [hv] at hx
      obtain ⟨g, b, d, hg, hb, hd, hp⟩ := hx.func_inv
      cases hg with
      | method n => exact absurd rfl (hnot n)
      | _ => simp [hp]
    · rename_i t v hv
      rw [hv] at hx
      obtain ⟨u, _, hp⟩ := hx.iface_inv
      simp [hp]
    · cases hf
end
end Go.Am

namespace Go.Am

theorem nmod_eq (m n : Nat) : Nat.mod m n = m % n := rfl
theorem wrapF_eq (k : IntKind) (z : Int) : wrapF k z = k.wrap z := by
  unfold wrapF
  cases z with
  | negSucc m => rfl
  | ofNat m =>
    cases k <;> simp only [ifB_eq, nmod_eq]
    case i64 =>
      split
      · rename_i h
        have h' := ble_true.1 h
        rw [IntKind.wrap_i64, Int.ofNat_eq_natCast]
        omega
      · rfl
    case u8 => rw [IntKind.wrap_u8]; simp
    case u32 => rw [IntKind.wrap_u32]; simp
    case u64 =>
      have : IntKind.u64.wrap (Int.ofNat m) = (m : Int) % 18446744073709551616 := by simp [IntKind.wrap, IntKind.bits, IntKind.signed]
      rw [this]; simp
theorem eqI_eq (a b : Int) : eqI a b = (a == b) := by
  cases a <;> cases b <;> simp only [eqI]
  · rw [Bool.eq_iff_iff, beq_true, beq_iff_eq]; simp only [Int.ofNat_eq_natCast]; omega
  · rfl
  · rfl
  · rw [Bool.eq_iff_iff, beq_true, beq_iff_eq]; simp
theorem ltI_eq (a b : Int) : ltI a b = decide (a < b) := by
  cases a <;> cases b <;> simp only [ltI]
  · rw [Bool.eq_iff_iff, ble_true]; simp; omega
  · rename_i m n
    have : ¬ (Int.ofNat m < Int.negSucc n) := by rw [Int.ofNat_eq_natCast]; omega
    rw [decide_eq_false this]
  · rename_i m n
    have : (Int.negSucc m < Int.ofNat n) := by rw [Int.ofNat_eq_natCast]; omega
    rw [decide_eq_true this]
  · rw [Bool.eq_iff_iff, ble_true]; simp; omega
theorem kindEq_iff (k j : IntKind) : kindEq k j = true ↔ k = j := by cases k <;> cases j <;> simp [kindEq]
theorem kindBits_eq (k : IntKind) : kindBits k = k.bits := by cases k <;> rfl
theorem kindMax_lt (k : IntKind) : ∃ j, j ≤ k.bits ∧ kindMax k = 2 ^ j - 1 ∧ ∀ n : Int, 0 ≤ n → n < 2 ^ j → k.wrap n = n := by
  cases k
  · exact ⟨7, by decide, by decide, fun n h0 h1 => by simp [IntKind.wrap, IntKind.bits, IntKind.signed]; omega⟩
  · exact ⟨15, by decide, by decide, fun n h0 h1 => by simp [IntKind.wrap, IntKind.bits, IntKind.signed]; omega⟩
  · exact ⟨31, by decide, by decide, fun n h0 h1 => by simp [IntKind.wrap, IntKind.bits, IntKind.signed]; omega⟩
  · exact ⟨63, by decide, by decide, fun n h0 h1 => by simp [IntKind.wrap, IntKind.bits, IntKind.signed]; omega⟩
  · exact ⟨8, by decide, by decide, fun n h0 h1 => by simp [IntKind.wrap, IntKind.bits, IntKind.signed]; omega⟩
  · exact ⟨16, by decide, by decide, fun n h0 h1 => by simp [IntKind.wrap, IntKind.bits, IntKind.signed]; omega⟩
  · exact ⟨32, by decide, by decide, fun n h0 h1 => by simp [IntKind.wrap, IntKind.bits, IntKind.signed]; omega⟩
  · exact ⟨64, by decide, by decide, fun n h0 h1 => by simp [IntKind.wrap, IntKind.bits, IntKind.signed]; omega⟩

section
variable {E : Env} {β : Type}
/-- an operation on integers -/
def IntS (E : Env) (op : BinOp) (t : TypeId) (k : IntKind) (a : Int) (j : IntKind) (b : Int) (kk : Value → Option β) (r : β) : Prop :=
  ∃ v, kk v = some r ∧ (∀ M, VR M v v) ∧ ∀ w, (binOp op t (.int k a) (.int j b)).run E.P w = .ok v w
theorem slowInt_S {op : BinOp} {t : TypeId} {k j : IntKind} {a b : Int} {kk : Value → Option β} {r : β} (h : slowInt E op t k j a b kk = some r) : IntS E op t k a j b kk r := by
  unfold slowInt at h
  split at h
  · rename_i k' z hp; rw [fI_eq] at h; exact ⟨_, h, fun M => .int _ _, pureRun_run hp⟩
  · rename_i b hp; rw [fB_eq] at h; exact ⟨_, h, fun M => .bool _, pureRun_run hp⟩
  · cases h
theorem natInt_S {op : BinOp} {f : Nat → Nat → Nat} {t : TypeId} {k : IntKind} {a b : Int} {kk : Value → Option β} {r : β}
    (hop : (op = .and ∧ f = Nat.land) ∨ (op = .or ∧ f = Nat.lor) ∨ (op = .xor ∧ f = Nat.xor)) (h : natInt E f op t k a b kk = some r) : IntS E op t k a k b kk r := by
  unfold natInt at h
  split at h
  · rename_i m n
    rw [ifB_eq] at h
    split at h
    · rename_i hm
      rw [ifB_eq] at h
      split at h
      · rename_i hn
        rw [fN_eq] at h
        refine ⟨_, h, fun M => .int _ _, fun w => ?_⟩
        obtain ⟨jj, hj, hmax, hw⟩ := kindMax_lt k
        have hpos : 0 < 2 ^ jj := Nat.two_pow_pos jj
        have hm' : m < 2 ^ jj := by have := ble_true.1 hm; omega
        have hn' : n < 2 ^ jj := by have := ble_true.1 hn; omega
        have hle : 2 ^ jj ≤ 2 ^ k.bits := Nat.pow_le_pow_right (by decide) hj
        have e1 : (BitVec.ofInt k.bits (Int.ofNat m)).toNat = m := by
          show (BitVec.ofInt k.bits (m : Int)).toNat = m
          simp; exact Nat.mod_eq_of_lt (by omega)
        have e2 : (BitVec.ofInt k.bits (Int.ofNat n)).toNat = n := by
          show (BitVec.ofInt k.bits (n : Int)).toNat = n
          simp; exact Nat.mod_eq_of_lt (by omega)
        have fin : ∀ x : Nat, x < 2 ^ jj → k.wrap (x : Int) = Int.ofNat x := fun x hx => hw x (by omega) (by exact_mod_cast hx)
        rcases hop with ⟨rfl, rfl⟩ | ⟨rfl, rfl⟩ | ⟨rfl, rfl⟩
        · simp only [binOp, Op.intBits, BitVec.toNat_and, e1, e2, if_neg, ne_eq, not_true_eq_false, not_false_eq_true, Sem.run_pure]
          rw [fin _ (Nat.lt_of_le_of_lt Nat.and_le_left hm')]; rfl
        · simp only [binOp, Op.intBits, BitVec.toNat_or, e1, e2, if_neg, ne_eq, not_true_eq_false, not_false_eq_true, Sem.run_pure]
          rw [fin _ (Nat.or_lt_two_pow hm' hn')]; rfl
        · simp only [binOp, Op.intBits, BitVec.toNat_xor, e1, e2, if_neg, ne_eq, not_true_eq_false, not_false_eq_true, Sem.run_pure]
          rw [fin _ (Nat.xor_lt_two_pow hm' hn')]; rfl
      · exact slowInt_S h
    · exact slowInt_S h
  · exact slowInt_S h
theorem intOp_S {op : BinOp} {t : TypeId} {k j : IntKind} {a b : Int} {kk : Value → Option β} {r : β} (h : (intOp (β := β) E op t).f k a j b kk = some r) : IntS E op t k a j b kk r := by
  have arith : ∀ {f : Int → Int → Int}, (∀ x y, Op.intArith op k x y = pure (.int k (k.wrap (f x y)))) → (op = .add ∨ op = .sub ∨ op = .mul) → ∀ z, z = f a b → (ifB (kindEq k j) (fI (wrapF k z) fun r => kk (.int k r)) none) = some r → IntS E op t k a j b kk r := by
    clear h
    intro f hf hop z hz h
    rw [ifB_eq] at h
    split at h
    · rename_i hk
      have := (kindEq_iff _ _).1 hk; subst this
      rw [fI_eq, wrapF_eq] at h
      refine ⟨_, h, fun M => .int _ _, fun w => ?_⟩
      subst hz
      rcases hop with rfl | rfl | rfl <;> simp [binOp, hf]
    · cases h
  have cmp : ∀ {f : Int → Int → Bool}, (∀ x y, Op.intCmp op x y = pure (.bool (f x y))) → (op = .eql ∨ op = .neq ∨ op = .lss ∨ op = .leq ∨ op = .gtr ∨ op = .geq) → (cmpInt f k a j b kk) = some r → IntS E op t k a j b kk r := by
    clear h
    intro f hf hop h
    unfold cmpInt at h
    rw [ifB_eq] at h
    split at h
    · rename_i hk
      have := (kindEq_iff _ _).1 hk; subst this
      rw [fB_eq] at h
      refine ⟨_, h, fun M => .bool _, fun w => ?_⟩
      rcases hop with rfl | rfl | rfl | rfl | rfl | rfl <;> simp [binOp, hf]
    · cases h
  cases op
  case add =>
    simp only [intOp, addInt] at h
    split at h
    · exact arith (f := fun x y => x + y) (fun x y => rfl) (.inl rfl) _ rfl h
    · exact arith (f := fun x y => x + y) (fun x y => rfl) (.inl rfl) _ rfl h
  case sub =>
    simp only [intOp, subInt] at h
    split at h
    · rename_i m n
      rw [ifB_eq] at h
      split at h
      · rename_i hk
        rw [ifB_eq] at h
        split at h
        · rename_i hle
          refine arith (f := fun x y => x - y) (fun x y => rfl) (.inr (.inl rfl)) _ ?_ (by rw [ifB_eq, if_pos hk]; exact h)
          have := ble_true.1 hle
          show ((m - n : Nat) : Int) = (m : Int) - (n : Int)
          omega
        · exact arith (f := fun x y => x - y) (fun x y => rfl) (.inr (.inl rfl)) _ rfl (by rw [ifB_eq, if_pos hk]; exact h)
      · cases h
    · exact arith (f := fun x y => x - y) (fun x y => rfl) (.inr (.inl rfl)) _ rfl h
  case mul =>
    simp only [intOp, mulInt] at h
    split at h
    · exact arith (f := fun x y => x * y) (fun x y => rfl) (.inr (.inr rfl)) _ rfl h
    · exact arith (f := fun x y => x * y) (fun x y => rfl) (.inr (.inr rfl)) _ rfl h
  case and =>
    simp only [intOp, ifB_eq] at h
    split at h
    · rename_i hk; have := (kindEq_iff _ _).1 hk; subst this; exact natInt_S (.inl ⟨rfl, rfl⟩) h
    · cases h
  case or =>
    simp only [intOp, ifB_eq] at h
    split at h
    · rename_i hk; have := (kindEq_iff _ _).1 hk; subst this; exact natInt_S (.inr (.inl ⟨rfl, rfl⟩)) h
    · cases h
  case xor =>
    simp only [intOp, ifB_eq] at h
    split at h
    · rename_i hk; have := (kindEq_iff _ _).1 hk; subst this; exact natInt_S (.inr (.inr ⟨rfl, rfl⟩)) h
    · cases h
  case eql => exact cmp (f := eqI) (fun x y => by rw [eqI_eq]; rfl) (by simp) h
  case neq => exact cmp (f := neI) (fun x y => by unfold neI; rw [eqI_eq]; rfl) (by simp) h
  case lss => exact cmp (f := ltI) (fun x y => by rw [ltI_eq]; rfl) (by simp) h
  case leq => exact cmp (f := leI) (fun x y => by
    unfold leI; rw [ltI_eq]
    have : (!decide (y < x)) = decide (x ≤ y) := by rw [Bool.eq_iff_iff]; simp
    rw [this]; rfl) (by simp) h
  case gtr => exact cmp (f := gtI) (fun x y => by unfold gtI; rw [ltI_eq]; rfl) (by simp) h
  case geq => exact cmp (f := geI) (fun x y => by
    unfold geI; rw [ltI_eq]
    have : (!decide (x < y)) = decide (x ≥ y) := by rw [Bool.eq_iff_iff]; simp
    rw [this]; rfl) (by simp) h
  case quo =>
    simp only [intOp, ifB_eq] at h
    split at h
    · rename_i hk
      have := (kindEq_iff _ _).1 hk; subst this
      unfold quoInt at h
      split at h
      · rename_i m n
        rw [fI_eq, wrapF_eq] at h
        refine ⟨_, h, fun M => .int _ _, fun w => ?_⟩
        have hne : ¬ (Int.ofNat (n + 1) = 0) := by rw [Int.ofNat_eq_natCast]; omega
        simp only [binOp, ne_eq, not_true_eq_false, if_false, Op.intDiv, hne, Sem.run_pure]
        rfl
      · exact slowInt_S h
    · cases h
  case rem =>
    simp only [intOp, ifB_eq] at h
    split at h
    · rename_i hk
      have := (kindEq_iff _ _).1 hk; subst this
      unfold remInt at h
      split at h
      · rename_i m n
        rw [fN_eq] at h
        refine ⟨_, h, fun M => .int _ _, fun w => ?_⟩
        have hne : ¬ (Int.ofNat (n + 1) = 0) := by rw [Int.ofNat_eq_natCast]; omega
        simp only [binOp, ne_eq, not_true_eq_false, if_false, Op.intDiv, hne, Sem.run_pure]
        rfl
      · exact slowInt_S h
    · cases h
  case shl =>
    simp only [intOp] at h
    unfold shlInt at h
    split at h
    · rename_i m n
      rw [ifB_eq] at h
      split at h
      · rename_i hn
        rw [fI_eq, wrapF_eq] at h
        refine ⟨_, h, fun M => .int _ _, fun w => ?_⟩
        have hn' := ble_true.1 hn
        rw [kindBits_eq] at hn'
        have hge : ¬ (Int.ofNat n < 0) := by rw [Int.ofNat_eq_natCast]; omega
        simp only [binOp, Op.shift, hge, if_false, Sem.run_pure]
        rw [show min (Int.ofNat n).toNat k.bits = n by rw [Int.ofNat_eq_natCast]; omega]
        rfl
      · exact slowInt_S h
    · exact slowInt_S h
  case shr =>
    simp only [intOp] at h
    unfold shrInt at h
    split at h
    · rename_i m n
      rw [ifB_eq] at h
      split at h
      · rename_i hn
        rw [fN_eq] at h
        refine ⟨_, h, fun M => .int _ _, fun w => ?_⟩
        have hn' := ble_true.1 hn
        rw [kindBits_eq] at hn'
        have hge : ¬ (Int.ofNat n < 0) := by rw [Int.ofNat_eq_natCast]; omega
        simp only [binOp, Op.shift, hge, if_false, Sem.run_pure]
        rw [show min (Int.ofNat n).toNat k.bits = n by rw [Int.ofNat_eq_natCast]; omega]
        have : (Int.ofNat m).fdiv (2 ^ n) = Int.ofNat (m / 2 ^ n) := by
          rw [Int.fdiv_eq_ediv_of_nonneg _ (by exact_mod_cast Nat.zero_le _)]
          show (m : Int) / 2 ^ n = ((m / 2 ^ n : Nat) : Int)
          simp
        rw [this]; rfl
      · exact slowInt_S h
    · exact slowInt_S h
  case andNot => simp only [intOp] at h; exact slowInt_S h
end
end Go.Am

namespace Go.Am

theorem eqS_eq : ∀ a b : List UInt8, eqS a b = (a == b)
  | [], [] => rfl
  | [], _ :: _ => rfl
  | _ :: _, [] => rfl
  | a :: x, b :: y => by
    simp only [eqS, ifB_eq, eqS_eq x y, beq_true]
    rw [Bool.eq_iff_iff]
    simp only [UInt8.toNat_inj, beq_iff_eq, List.cons.injEq]
    split <;> simp_all
theorem ltS_eq : ∀ a b : List UInt8, ltS a b = Op.bytesLess a b
  | [], [] => rfl
  | [], _ :: _ => rfl
  | _ :: _, [] => rfl
  | a :: x, b :: y => by
    simp only [ltS, ifB_eq, ltS_eq x y, Op.bytesLess, ble_true, beq_true]
    rw [Bool.eq_iff_iff]
    simp only [UInt8.toNat_inj, Bool.or_eq_true, decide_eq_true_eq, Bool.and_eq_true, beq_iff_eq, UInt8.lt_iff_toNat_lt]
    split
    · rename_i h; simp; exact .inl h
    · rename_i h
      split
      · rename_i h2; simp [h2]
      · rename_i h2; simp [h2]; omega
theorem ltS_total : ∀ a b : List UInt8, (!(ltS b a)) = (ltS a b || a == b)
  | [], [] => rfl
  | [], _ :: _ => rfl
  | _ :: _, [] => rfl
  | a :: x, b :: y => by
    simp only [ltS, ifB_eq, ble_true, beq_true]
    have ih := ltS_total x y
    by_cases h : a.toNat < b.toNat
    · have h1 : ¬ (b.toNat + 1 ≤ a.toNat) := by omega
      have h2 : ¬ (b.toNat = a.toNat) := by omega
      have h3 : a.toNat + 1 ≤ b.toNat := h
      simp [h1, h2, h3]
    · by_cases h' : a.toNat = b.toNat
      · have h1 : ¬ (b.toNat + 1 ≤ a.toNat) := by omega
        have h3 : ¬ (a.toNat + 1 ≤ b.toNat) := by omega
        have hab : a = b := UInt8.toNat_inj.1 h'
        subst hab
        simp only [if_neg h3, ih, if_true]
        simp
      · have h1 : b.toNat + 1 ≤ a.toNat := by omega
        have h3 : ¬ (a.toNat + 1 ≤ b.toNat) := by omega
        have hab : a ≠ b := fun e => h' (by rw [e])
        simp [h1, h3, h', hab]
theorem strL_append (a b : ByteArray) : mkStr (strL a ++ strL b) = a ++ b := by
  unfold mkStr strL
  have : (a ++ b).data.toList = a.data.toList ++ b.data.toList := by simp
  rw [← this]
section
variable {E : Env} {β : Type}
theorem strOp_S {op : BinOp} {a b : ByteArray} {kk : Value → Option β} {r : β} (h : (strOp (β := β) op).f (strL a) (strL b) kk = some r) :
    ∃ v, kk v = some r ∧ (∀ M, VR M v v) ∧ ∀ w, (Op.stringOp op a b).run E.P w = .ok v w := by
  have cmp : ∀ {f : List UInt8 → List UInt8 → Bool}, (Op.stringOp op a b = pure (.bool (f (strL a) (strL b)))) → cmpStr f (strL a) (strL b) kk = some r →
      ∃ v, kk v = some r ∧ (∀ M, VR M v v) ∧ ∀ w, (Op.stringOp op a b).run E.P w = .ok v w := by
    clear h
    intro f hf h
    unfold cmpStr at h
    rw [fB_eq] at h
    exact ⟨_, h, fun M => .bool _, fun w => by rw [hf]; rfl⟩
  have e1 : (a.toList == b.toList) = eqS (strL a) (strL b) := by rw [eqS_eq, ByteArray.toList_eq, ByteArray.toList_eq]; rfl
  have e2 : Op.bytesLess a.toList b.toList = ltS (strL a) (strL b) := by rw [ltS_eq, ByteArray.toList_eq, ByteArray.toList_eq]; rfl
  have e3 := ltS_total (strL a) (strL b)
  rw [← eqS_eq] at e3
  cases op
  case add =>
    simp only [strOp, appK_eq, ifB_eq, ble_true] at h
    split at h
    · rename_i hl
      rw [strL_append] at h
      refine ⟨_, h, fun M => .string _, fun w => ?_⟩
      have : ¬ (((a.size + b.size : Nat) : Int) > IntKind.i64.max) := by
        have h1 : (strL a ++ strL b).length = a.size + b.size := by rw [List.length_append]; rfl
        have h2 : IntKind.i64.max = 9223372036854775807 := by decide
        rw [h1] at hl; rw [h2]; omega
      simp only [Op.stringOp, this, if_false]; rfl
    · cases h
  case eql => exact cmp (f := eqS) (by simp only [Op.stringOp, e1]) h
  case neq => exact cmp (f := neS) (by simp only [Op.stringOp, e1]; rfl) h
  case lss => exact cmp (f := ltS) (by simp only [Op.stringOp, e2]) h
  case leq => exact cmp (f := leS) (by simp only [Op.stringOp, e2, e1]; rw [← e3]; rfl) h
  case gtr => exact cmp (f := gtS) (by
    simp only [Op.stringOp, e2, e1]; rw [← e3, Bool.not_not]; rfl) h
  case geq => exact cmp (f := geS) (by simp only [Op.stringOp, e2]; rfl) h
  all_goals (simp [strOp] at h)
theorem binOp_string (op : BinOp) (t : TypeId) (a b : ByteArray) : binOp op t (.string a) (.string b) = Op.stringOp op a b := by cases op <;> rfl

/-! ## equality -/
theorem VR.isSlice {M : Loc} {w : Value} {a : Option Addr} {n c : Nat} (h : VR M (.slice a n c) w) : ∃ a' n' c', w = .slice a' n' c' ∧ a'.isNone = a.isNone := by
  cases h with
  | slice0 => exact ⟨_, _, _, rfl, rfl⟩
  | slice => exact ⟨_, _, _, rfl, rfl⟩
theorem VR.isPtr {M : Loc} {w : Value} {a : Option Addr} (h : VR M (.pointer a) w) : ∃ a', w = .pointer a' ∧ a'.isNone = a.isNone := by
  cases h with
  | ptr0 => exact ⟨_, rfl, rfl⟩
  | ptr => exact ⟨_, rfl, rfl⟩
theorem VR.isMap {M : Loc} {w : Value} {a : Option Nat} (h : VR M (.map a) w) : ∃ a', w = .map a' ∧ a'.isNone = a.isNone := by
  cases h with
  | map0 => exact ⟨_, rfl, rfl⟩
  | map => exact ⟨_, rfl, rfl⟩
theorem isSingle_some {S : AS} {b : Nat} (h : isSingle S b = true) : ∃ t n e, S.heap.get b = some (.cells t n e 0) := by
  unfold isSingle at h
  split at h
  · rename_i t n e hb; exact ⟨t, n, e, hb⟩
  · cases h
theorem single_heap {M : Loc} {S : AS} {w : World} (h : Rel M S w) {b c n : Nat} (hs : isSingle S b = true) (hM : M b = some (c, n)) : ∃ cs e lo, w.heap[c]? = some (.cells cs e (lo, 0)) := by
  obtain ⟨t, m, e, hb⟩ := isSingle_some hs
  obtain ⟨p, hp, hr⟩ := h.obj b _ c n hb hM
  cases hr with
  | cells0 _ _ cs lo hi hs hf fit => subst hf; exact ⟨cs, _, lo, hp⟩
theorem isNone_of {α : Type} {x : Option α} {y : α} (h : x.isNone = (some y).isNone) : ∃ z, x = some z := by
  cases x with
  | none => cases h
  | some z => exact ⟨z, rfl⟩
theorem isNone_of' {α β : Type} {x : Option α} (h : x.isNone = (none : Option β).isNone) : x = none := by
  cases x with
  | none => rfl
  | some z => cases h

theorem equal_eq (t : TypeId) (x y : Value) : Op.equal t x y = Op.equalIn (9999 + 1) t x y := rfl
section
variable (hE : EnvOk E)
include hE
theorem eqV_S {M : Loc} {S : AS} {w : World} (hR : Rel M S w) {t : TypeId} {x y x' y' : Value} (hx : VR M x x') (hy : VR M y y') {b : Bool} (h : eqV E S t x y = some b) :
    (∀ n, (Op.equalIn (n + 1) t x' y').run E.P w = .ok b w) ∧ (¬ (x' = .nilIface ∧ y' = .nilIface)) ∧ (∀ a c, ¬ (x' = .agg a ∧ y' = .agg c)) ∧
    (binOp .eql t x' y' = do pure (.bool (← Op.equal t x' y'))) ∧ (binOp .neq t x' y' = do pure (.bool (!(← Op.equal t x' y')))) := by
  unfold eqV at h
  split at h
  · rename_i e bb hd
    cases h
    cases hx
    obtain ⟨a', rfl, ha⟩ := hy.isPtr
    refine ⟨fun m => ?_, by simp, by simp, rfl, rfl⟩
    simp [Op.equalIn, run_underlying (hE.und hd), ha]
  · rename_i e aa hd
    cases h
    cases hy
    obtain ⟨a', rfl, ha⟩ := hx.isPtr
    obtain ⟨z, rfl⟩ := isNone_of ha
    refine ⟨fun m => ?_, by simp, by simp, rfl, rfl⟩
    simp [Op.equalIn, run_underlying (hE.und hd)]
  · rename_i e a i b' j hd
    rw [ifB_eq] at h
    split at h
    · cases h
    · rename_i hz
      have hz' : E.cells e ≠ 0 := fun h => hz (beq_true.2 h)
      obtain ⟨_, c, n, hMa, rfl⟩ := hx.ptr_inv
      obtain ⟨_, c', n', hMb, rfl⟩ := hy.ptr_inv
      refine ⟨fun m => ?_, by simp, by simp, rfl, rfl⟩
      simp only [Op.equalIn, Sem.run_bind, run_underlying (hE.und hd), Result.andThen_ok, hE.size hz' w]
      rw [if_pos hz']
      rw [ifB_eq] at h
      split at h
      · rename_i hab
        cases h
        have := beq_true.1 hab
        subst this
        rw [hMa] at hMb; cases hMb
        simp only [sameAddr, beq_self_eq_true, if_true, Sem.run_pure]
        congr 1
        rw [Bool.eq_iff_iff, beq_true]
        simp
      · rename_i hab
        have hne : a ≠ b' := fun e => hab (beq_true.2 e)
        rw [ifB_eq] at h
        split at h
        · rename_i hs
          cases h
          simp only [Bool.and_eq_true] at hs
          obtain ⟨cs, ee, lo, h1⟩ := single_heap hR hs.1 hMa
          obtain ⟨cs', ee', lo', h2⟩ := single_heap hR hs.2 hMb
          have hcc : c ≠ c' := by
            intro e; subst e
            obtain ⟨t1, k1, e1, t2, k2, e2, g, h3, h4⟩ := hR.inj _ _ _ _ _ hMa hMb hne
            obtain ⟨t5, n5, e5, h5⟩ := isSingle_some hs.1
            rw [h5] at h3; cases h3
          have hcb : (c == c') = false := by simp [hcc]
          have f1 : ∀ o, w.frozen? ⟨c, o, none⟩ = false := fun o => by simp [World.frozen?, h1]
          have f2 : ∀ o, w.frozen? ⟨c', o, none⟩ = false := fun o => by simp [World.frozen?, h2]
          have s1 : w.shape? c = some (ee, cs.size) := by simp [World.shape?, h1]
          have s2 : w.shape? c' = some (ee', cs'.size) := by simp [World.shape?, h2]
          simp [sameAddr, hcb, frozen, Sem.run, f1, f2, noView, viewAt, shape, s1, s2, mayBeOne, stringish]
        · cases h
  · rename_i e n c bb n' c' hd
    cases h
    cases hx
    obtain ⟨a', n'', c'', rfl, ha⟩ := hy.isSlice
    refine ⟨fun m => ?_, by simp, by simp, rfl, rfl⟩
    simp [Op.equalIn, run_underlying (hE.und hd), ha]
  · rename_i e aa n c n' c' hd
    cases h
    cases hy
    obtain ⟨a', n'', c'', rfl, ha⟩ := hx.isSlice
    obtain ⟨z, rfl⟩ := isNone_of ha
    refine ⟨fun m => ?_, by simp, by simp, rfl, rfl⟩
    simp [Op.equalIn, run_underlying (hE.und hd)]
  · rename_i k e bb hd
    cases h
    cases hx
    obtain ⟨a', rfl, ha⟩ := hy.isMap
    refine ⟨fun m => ?_, by simp, by simp, rfl, rfl⟩
    simp [Op.equalIn, run_underlying (hE.und hd), ha]
  · rename_i k e bb hd
    cases h
    cases hy
    obtain ⟨a', rfl, ha⟩ := hx.isMap
    obtain ⟨z, rfl⟩ := isNone_of ha
    refine ⟨fun m => ?_, by simp, by simp, rfl, rfl⟩
    simp [Op.equalIn, run_underlying (hE.und hd)]
  · rename_i hd
    cases h
    cases hx
    obtain ⟨g, b, d, _, _, _, rfl⟩ := hy.func_inv
    refine ⟨fun m => ?_, by simp, by simp, rfl, rfl⟩
    simp [Op.equalIn, run_underlying (hE.und hd)]
  · rename_i hd
    cases h
    cases hy
    obtain ⟨g, b, d, _, _, _, rfl⟩ := hx.func_inv
    refine ⟨fun m => ?_, by simp, by simp, rfl, rfl⟩
    simp [Op.equalIn, run_underlying (hE.und hd)]
  · rename_i hd
    cases h
    cases hx
    obtain ⟨u, _, rfl⟩ := hy.iface_inv
    refine ⟨fun m => ?_, by simp, by simp, rfl, rfl⟩
    simp [Op.equalIn, run_underlying (hE.und hd)]
  · rename_i hd
    cases h
    cases hy
    obtain ⟨u, _, rfl⟩ := hx.iface_inv
    refine ⟨fun m => ?_, by simp, by simp, rfl, rfl⟩
    simp [Op.equalIn, run_underlying (hE.und hd)]
  · cases h

omit hE in
theorem isConstO_iff {x : Operand} (h : isConstO x = true) : ∃ v, x = .const v := by cases x <;> simp [isConstO] at h; exact ⟨_, rfl⟩
omit hE in
theorem eqGuard_pure {P : Program} {op : BinOp} {t : TypeId} {xo yo : Operand} {x y : Value} (h1 : ¬ (x = .nilIface ∧ y = .nilIface)) (h2 : ∀ a c, ¬ (x = .agg a ∧ y = .agg c)) (w : World) :
    (eqGuard op t xo yo x y).run P w = .ok () w := by
  unfold eqGuard
  split <;> simp only [Bool.not_true, Bool.not_false, if_true, Bool.false_eq_true, if_false]
  · split
    · exact absurd ⟨rfl, rfl⟩ h1
    · exact absurd ⟨rfl, rfl⟩ (h2 _ _)
    · rfl
  · split
    · exact absurd ⟨rfl, rfl⟩ h1
    · exact absurd ⟨rfl, rfl⟩ (h2 _ _)
    · rfl
  · rfl
theorem bin_P (op : BinOp) (t : TypeId) (x y : Operand) (b0 : TypeId) : OpP E (binW (β := β) E op t x y).f (.binOp op t x y b0) := fun tm S kk r hf M w ρ hR hρ o ho => by
  have hx := hρ x (by simp [Op.operands])
  have hy := hρ y (by simp [Op.operands])
  have fin : ∀ {v : Value}, (eqGuard op t x y (ρ x) (ρ y)).run E.P w = .ok () w → (binOp op t (ρ x) (ρ y)).run E.P w = .ok v w → (execOp ρ o).run E.P w = .ok (.value v) w := by
    intro v h1 h2
    unfold execOp; rw [ho]
    simp [h1, h2]
  have hf' : (match evA E.ng tm x, evA E.ng tm y with
    | .int k a, .int j b => (intOp (β := β) E op t).f k a j b fun v => kk v S
    | .string a, .string b => (strOp (β := β) op).f (strL a) (strL b) fun v => kk v S
    | v, w => binRest E S op t x y v w fun v => kk v S) = some r := by
    have := un2_f (E := E) (β := β) x y (fun S v w kk => match v, w with
      | .int k a, .int j b => (intOp (β := β) E op t).f k a j b fun v => kk v S
      | .string a, .string b => (strOp (β := β) op).f (strL a) (strL b) fun v => kk v S
      | v, w => binRest E S op t x y v w fun v => kk v S) tm S kk
    rw [← hf, ← this]; rfl
  clear hf
  split at hf'
  · rename_i k a j b ha hb
    rw [ha] at hx; rw [hb] at hy
    have hx' := hx.int_inv
    have hy' := hy.int_inv
    obtain ⟨v, h1, h2, h3⟩ := intOp_S hf'
    exact ⟨v, v, h1, fin (eqGuard_pure (by simp [hx']) (by simp [hx']) w) (by rw [hx', hy']; exact h3 w), h2 M⟩
  · rename_i a b ha hb
    rw [ha] at hx; rw [hb] at hy
    have hx' := hx.string_inv
    have hy' := hy.string_inv
    obtain ⟨v, h1, h2, h3⟩ := strOp_S (E := E) hf'
    exact ⟨v, v, h1, fin (eqGuard_pure (by simp [hx']) (by simp [hx']) w) (by rw [hx', hy', binOp_string]; exact h3 w), h2 M⟩
  · unfold binRest at hf'
    rw [ifB_eq] at hf'
    split at hf'
    · rename_i hok
      split at hf'
      · rename_i b hb
        rw [fB_eq] at hf'
        unfold eqVop at hb
        split at hb
        · obtain ⟨h1, h2, h3, h4, h5⟩ := eqV_S hE hR hx hy hb
          refine ⟨_, _, hf', fin (eqGuard_pure h2 h3 w) ?_, .bool _⟩
          rw [h4, equal_eq]
          simp [h1 9999]
        · split at hb
          · rename_i bb hbb
            cases hb
            obtain ⟨h1, h2, h3, h4, h5⟩ := eqV_S hE hR hx hy hbb
            refine ⟨_, _, hf', fin (eqGuard_pure h2 h3 w) ?_, .bool _⟩
            rw [h5, equal_eq]
            simp [h1 9999]
          · cases hb
        · cases hb
      · rw [ifB_eq] at hf'
        split at hf'
        · rename_i hg
          simp only [Bool.and_eq_true] at hg
          split at hf'
          · rename_i b hb
            rw [fB_eq] at hf'
            have ex := hx.gnd_eq hg.1
            have ey := hy.gnd_eq hg.2
            refine ⟨_, _, hf', fin ?_ (by rw [ex, ey]; exact pureRun_run hb w), .bool _⟩
            rw [ex, ey]
            unfold eqOk at hok
            split at hok
            · rename_i e1 e2
              rw [e1, e2]
              unfold eqGuard
              simp only [Bool.or_eq_true] at hok
              split <;> simp only [Bool.not_true, Bool.not_false, if_true, Bool.false_eq_true, if_false]
              · rcases hok with h | h <;> obtain ⟨v, hv⟩ := isConstO_iff h <;> simp [hv]
              · rcases hok with h | h <;> obtain ⟨v, hv⟩ := isConstO_iff h <;> simp [hv]
              · rfl
            · rename_i a c e1 e2
              split at hok
              · rename_i u hu; exact pureRun_run hu w
              · cases hok
            · rename_i h1 h2
              exact eqGuard_pure (fun h => h1 h.1 h.2) (fun a c h => h2 a c h.1 h.2) w
          · cases hf'
        · cases hf'
    · cases hf'
end
end
end Go.Am

namespace Go.Am

theorem strL_get {s : ByteArray} {i : Nat} {b : UInt8} (h : (strL s)[i]? = some b) : s[i]? = some b := by
  unfold strL at h
  have hi : i < s.data.size := by
    have := (List.getElem?_eq_some_iff.1 h).1
    simpa using this
  have hi' : i < s.size := hi
  rw [getElem?_pos s i hi']
  have := (List.getElem?_eq_some_iff.1 h).2
  rw [← this]; rfl
theorem strL_length (s : ByteArray) : (strL s).length = s.size := rfl
theorem strL_mk (l : List UInt8) : strL (mkStr l) = l := rfl
theorem mkStr_strL (s : ByteArray) : mkStr (strL s) = s := rfl

theorem VRL.single_inv {M : Loc} {a : Value} {l : List Value} (h : VRL M [a] l) : ∃ b, l = [b] ∧ VR M a b := by
  cases h with | cons _ b _ _ h t => cases t; exact ⟨b, rfl, h⟩

section
variable {E : Env} {β : Type} (hE : EnvOk E)
include hE
theorem EnvOk.size1 {t : TypeId} (h : (Nat.beq (E.cells t) 0) = false) (w : World) : (sizeOf t).run E.P w = .ok (E.cells t) w :=
  hE.size (fun e => by rw [e] at h; cases h) w
theorem elemAddr_inv {b off i sz : Nat} {kk : Value → Option β} {r : β} (h : elemAddr b off i sz kk = some r) : sz ≠ 0 ∧ kk (.pointer (some ⟨b, off + i * sz, none⟩)) = some r := by
  unfold elemAddr at h
  rw [ifB_eq] at h
  split at h
  · cases h
  · rename_i hz
    rw [fN_eq] at h
    exact ⟨fun e => hz (beq_true.2 e), h⟩
theorem indexAddr_P (t : TypeId) (x i : Operand) : OpP E (indexAddrW (β := β) E t x i).f (.indexAddr t x i) := fun tm S kk r hf M w ρ hR hρ o ho => by
  have hx := hρ x (by simp [Op.operands])
  have hi := hρ i (by simp [Op.operands])
  unfold indexAddrW at hf
  rw [un2_f] at hf
  unfold aIndexAddr at hf
  split at hf
  · rename_i k n hn
    rw [hn] at hi
    have hi' := hi.int_inv
    have h0 : (0 : Int) ≤ Int.ofNat n := by rw [Int.ofNat_eq_natCast]; omega
    split at hf
    · rename_i len e b off hd hb
      rw [hb] at hx
      obtain ⟨_, c, m, hM, hp⟩ := hx.ptr_inv
      rw [ifB_eq] at hf
      split at hf
      · rename_i hlt
        have hlt' := ble_true.1 hlt
        obtain ⟨hz, hk⟩ := elemAddr_inv hE hf
        refine ⟨_, .pointer (some ⟨c, off + n * E.cells e, none⟩), hk, ?_, .ptr _ _ _ _ hM⟩
        have h1 : Int.ofNat n < (len : Int) := by rw [Int.ofNat_eq_natCast]; omega
        unfold execOp; rw [ho]
        simp only [Instr.indexAt, hi', hp, asIntOf, Sem.run_bind, Sem.run_pure, Result.andThen_ok, run_underlying (hE.und hd), Instr.sureAddr]
        rw [if_pos ⟨h0, h1⟩]
        simp [hE.size hz w, add_off]
      · cases hf
    · rename_i e b off len sz hd hb
      rw [hb] at hx
      obtain ⟨_, c, m, o', cap, hM, h1, h2, h3, hp⟩ := hx.slice_inv
      rw [ifB_eq] at hf
      split at hf
      · rename_i hlt
        have hlt' := ble_true.1 hlt
        obtain ⟨hz, hk⟩ := elemAddr_inv hE hf
        have ho' : o' = off := by omega
        subst ho'
        refine ⟨_, .pointer (some ⟨c, o' + n * E.cells e, none⟩), hk, ?_, .ptr _ _ _ _ hM⟩
        have h1 : Int.ofNat n < (len : Int) := by rw [Int.ofNat_eq_natCast]; omega
        unfold execOp; rw [ho]
        simp only [Instr.indexAt, hi', hp, asIntOf, Sem.run_bind, Sem.run_pure, Result.andThen_ok, run_underlying (hE.und hd), Instr.sureAddr]
        rw [if_pos ⟨h0, h1⟩]
        simp [hE.size hz w, add_off]
      · cases hf
    · cases hf
  · cases hf
theorem index_P (t : TypeId) (x i : Operand) : OpP E (indexW (β := β) E t x i).f (.index t x i) := fun tm S kk r hf M w ρ hR hρ o ho => by
  have hx := hρ x (by simp [Op.operands])
  have hi := hρ i (by simp [Op.operands])
  unfold indexW at hf
  rw [un2_f] at hf
  unfold aIndex at hf
  split at hf
  · rename_i k n hn
    rw [hn] at hi
    have hi' := hi.int_inv
    have h0 : (0 : Int) ≤ Int.ofNat n := by rw [Int.ofNat_eq_natCast]; omega
    split at hf
    · rename_i len e cs hd hb
      rw [hb] at hx
      obtain ⟨a, ha, h1, hp⟩ := hx.agg_inv
      rw [ifB_eq] at hf
      split at hf
      · rename_i hlt
        simp only [Bool.and_eq_true, ble_true] at hlt
        obtain ⟨v, v', hk, hrun, hvr⟩ := part_val hE hf ha h1 w
        refine ⟨v, v', hk, ?_, hvr⟩
        have h1 : Int.ofNat n < (len : Int) := by rw [Int.ofNat_eq_natCast]; omega
        have hz : E.cells e ≠ 0 := by omega
        unfold execOp; rw [ho]
        simp only [Instr.index, hi', hp, asIntOf, Sem.run_bind, Sem.run_pure, Result.andThen_ok, run_underlying (hE.und hd)]
        rw [if_pos ⟨h0, h1⟩]
        have : (Int.ofNat n).toNat = n := rfl
        simp only [Sem.run_bind, hE.size hz w, Result.andThen_ok, this]
        rw [show n * E.cells e = Nat.mul n (E.cells e) from rfl, hrun]; rfl
      · cases hf
    · rename_i s hd hb
      rw [hb] at hx
      have hp := hx.string_inv
      split at hf
      · rename_i b hg
        rw [listGet_eq] at hg
        rw [fN_eq] at hf
        refine ⟨_, _, hf, ?_, .int _ _⟩
        unfold execOp; rw [ho]
        simp only [Instr.index, hi', hp, asIntOf, Sem.run_bind, Sem.run_pure, Result.andThen_ok, run_underlying (hE.und hd)]
        have : (Int.ofNat n).toNat = n := rfl
        rw [if_pos h0, this, strL_get hg]; rfl
      · cases hf
    · cases hf
  · cases hf

/-! ### slices of slices, arrays, strings -/
omit hE in
theorem bound_S {v : Option Value} {v' : Option Value} {d n : Nat} (h : bound v d = some n) {M : Loc} (hv : ∀ x, v = some x → ∃ y, v' = some y ∧ VR M x y) (hn : v = none → v' = none) :
    (v = none ∧ v' = none ∧ n = d) ∨ (∃ k, v = some (.int k (.ofNat n)) ∧ v' = some (.int k (.ofNat n))) := by
  unfold bound at h
  split at h
  · cases h; exact .inl ⟨rfl, hn rfl, rfl⟩
  · rename_i k m; cases h
    obtain ⟨y, hy, hr⟩ := hv _ rfl
    rw [hr.int_inv] at hy
    exact .inr ⟨k, rfl, hy⟩
  · cases h
omit hE in
theorem run_sliceBound {P : Program} (k : IntKind) (n y : Nat) (code : BoundsCode) (h : n ≤ y) (w : World) : (Instr.sliceBound (.int k ((n : Nat) : Int)) y code).run P w = .ok n w := by
  have h0 : (0 : Int) ≤ ((n : Nat) : Int) := by omega
  have h1 : ((n : Nat) : Int) ≤ (y : Int) := by omega
  simp only [Instr.sliceBound, asIntOf, Sem.run_bind, Sem.run_pure, Result.andThen_ok]
  rw [if_pos ⟨h0, h1⟩]; rfl
omit hE in
/-- bounds that fit -/
theorem run_sliceBounds {P : Program} {isS : Bool} {len cap l h m : Nat} {lo hi mx : Option Value}
    (hm : (mx = none ∧ m = cap) ∨ (∃ k, mx = some (.int k (.ofNat m)) ∧ m ≤ cap)) (hh : (hi = none ∧ h = len ∧ mx = none) ∨ (∃ k, hi = some (.int k (.ofNat h)) ∧ h ≤ m))
    (hl : (lo = none ∧ l = 0) ∨ (∃ k, lo = some (.int k (.ofNat l)) ∧ l ≤ h)) (w : World) : (Instr.sliceBounds isS len cap lo hi mx).run P w = .ok (l, h, m) w := by
  unfold Instr.sliceBounds
  rcases hm with ⟨rfl, rfl⟩ | ⟨k, rfl, hm⟩
  · rcases hh with ⟨rfl, rfl, _⟩ | ⟨k, rfl, hh⟩
    · rcases hl with ⟨rfl, rfl⟩ | ⟨k, rfl, hl⟩
      · rfl
      · simp [run_sliceBound, hl]
    · rcases hl with ⟨rfl, rfl⟩ | ⟨k', rfl, hl⟩
      · simp [run_sliceBound, hh]
      · simp [run_sliceBound, hh, hl]
  · rcases hh with ⟨rfl, rfl, h⟩ | ⟨k2, rfl, hh⟩
    · cases h
    · rcases hl with ⟨rfl, rfl⟩ | ⟨k', rfl, hl⟩
      · simp [run_sliceBound, hh, hm]
      · simp [run_sliceBound, hh, hl, hm]

omit hE in
theorem strL_extract (s : ByteArray) (a h : Nat) : s.extract a h = mkStr (((strL s).drop a).take (h - a)) := by
  have : strL (s.extract a h) = ((strL s).drop a).take (h - a) := by
    unfold strL
    rw [ByteArray.data_extract, Array.toList_extract, List.extract_eq_take_drop]
  rw [← this]; rfl
theorem sliceTo_inv {b off l n sz : Nat} {kk : Value → Option β} {r : β} (h : sliceTo b off l n sz kk = some r) : sz ≠ 0 ∧ kk (.slice (some ⟨b, off + l * sz, none⟩) n sz) = some r := by
  unfold sliceTo at h
  rw [ifB_eq] at h
  split at h
  · cases h
  · rename_i hz
    rw [fN_eq, fN_eq] at h
    exact ⟨fun e => hz (beq_true.2 e), h⟩
theorem slice_P (t : TypeId) (x : Operand) (lo hi mx : Option Operand) : OpP E (sliceW (β := β) E t x lo hi mx).f (.slice t x lo hi mx) := fun tm S kk r hf M w ρ hR hρ o ho => by
  have hx := hρ x (by simp [Op.operands])
  have h1 : (sliceW (β := β) E t x lo hi mx).f tm S kk = (evW (β := Option β) E.ng x).f tm fun x => (evoW (β := Option β) E.ng lo).f tm fun lo => (evoW (β := Option β) E.ng hi).f tm fun hi => (evoW (β := Option β) E.ng mx).f tm fun mx => aSlice E t S x lo hi mx fun v => kk v S := rfl
  rw [h1, evW_eq, evoW_eq, evoW_eq, evoW_eq] at hf
  have hlo : ∀ y, lo.map (evA E.ng tm) = some y → ∃ z, lo.map ρ = some z ∧ VR M y z := by
    intro y hy
    cases hl : lo with
    | none => rw [hl] at hy; cases hy
    | some q => rw [hl] at hy; cases hy; exact ⟨_, rfl, hρ q (by simp [Op.operands, hl])⟩
  have hhi : ∀ y, hi.map (evA E.ng tm) = some y → ∃ z, hi.map ρ = some z ∧ VR M y z := by
    intro y hy
    cases hl : hi with
    | none => rw [hl] at hy; cases hy
    | some q => rw [hl] at hy; cases hy; exact ⟨_, rfl, hρ q (by simp [Op.operands, hl])⟩
  have hmx : ∀ y, mx.map (evA E.ng tm) = some y → ∃ z, mx.map ρ = some z ∧ VR M y z := by
    intro y hy
    cases hl : mx with
    | none => rw [hl] at hy; cases hy
    | some q => rw [hl] at hy; cases hy; exact ⟨_, rfl, hρ q (by simp [Op.operands, hl])⟩
  have nlo : lo.map (evA E.ng tm) = none → lo.map ρ = none := by cases lo <;> simp
  have nhi : hi.map (evA E.ng tm) = none → hi.map ρ = none := by cases hi <;> simp
  have nmx : mx.map (evA E.ng tm) = none → mx.map ρ = none := by cases mx <;> simp
  have fin : ∀ {v' : Value}, (Instr.sliceAt t (ρ x) (lo.map ρ) (hi.map ρ) (mx.map ρ)).run E.P w = .ok v' w → (execOp ρ o).run E.P w = .ok (.value v') w := by
    intro v' h
    unfold execOp; rw [ho]
    simp [h]
  generalize lo.map (evA E.ng tm) = alo at *
  generalize hi.map (evA E.ng tm) = ahi at *
  generalize mx.map (evA E.ng tm) = amx at *
  generalize lo.map ρ = clo at *
  generalize hi.map ρ = chi at *
  generalize mx.map ρ = cmx at *
  unfold aSlice at hf
  split at hf
  · rename_i s hd hv
    rw [hv] at hx
    have hp := hx.string_inv
    split at hf
    · have hm0 := nmx rfl
      unfold sliceStr at hf
      split at hf
      · rename_i h a hbh hba
        rw [ifB_eq] at hf
        split at hf
        · rename_i hle
          simp only [Bool.and_eq_true, ble_true] at hle
          rw [takeK_eq, dropL_eq] at hf
          refine ⟨_, .string (s.extract a h), hf, fin ?_, by rw [strL_extract]; exact .string _⟩
          have hb1 := bound_S hbh hhi nhi
          have hb2 := bound_S hba hlo nlo
          have hsb := run_sliceBounds (P := E.P) (isS := false) (len := s.size) (cap := s.size) (l := a) (h := h) (m := s.size) (lo := clo) (hi := chi) (mx := none) (.inl ⟨rfl, rfl⟩)
            (by rcases hb1 with ⟨_, h2, h3⟩ | ⟨k, _, h2⟩
                · exact .inl ⟨h2, h3, rfl⟩
                · exact .inr ⟨k, h2, hle.1⟩)
            (by rcases hb2 with ⟨_, h2, h3⟩ | ⟨k, _, h2⟩
                · exact .inl ⟨h2, h3⟩
                · exact .inr ⟨k, h2, hle.2⟩) w
          simp only [Instr.sliceAt, Instr.slice, Sem.run_bind, run_underlying (hE.und hd), Result.andThen_ok, hp, hm0, Option.isSome_none, Bool.false_eq_true, if_false, hsb]
          rfl
        · cases hf
      · cases hf
    · cases hf
  · rename_i n e b off hd hv
    rw [hv] at hx
    obtain ⟨_, c, N, hM, hp⟩ := hx.ptr_inv
    split at hf
    · have hm0 := nmx rfl
      split at hf
      · rename_i h a hbh hba
        rw [ifB_eq] at hf
        split at hf
        · rename_i hle
          simp only [Bool.and_eq_true, ble_true] at hle
          rw [ifB_eq] at hf
          split at hf
          · rename_i hin
            obtain ⟨hz, hk⟩ := sliceTo_inv hE hf
            have hin' := ble_true.1 hin
            have hN : cellsLen S b ≤ N ∨ cellsLen S b = 0 := by
              unfold cellsLen
              split
              · rename_i t' m e' f hb
                obtain ⟨p, hp, hr⟩ := hR.obj b _ c N hb hM
                cases hr with
                | cells0 => exact .inl (Nat.le_refl _)
                | cellsF _ _ _ _ _ _ _ _ _ hk => exact .inl hk
              · exact .inr rfl
            have hpos : 0 < n * E.cells e := Nat.mul_pos (by omega) (by omega)
            have hin2 : off + n * E.cells e ≤ N := by
              have : Nat.add off (Nat.mul n (E.cells e)) = off + n * E.cells e := rfl
              rw [this] at hin'
              omega
            have hle1 : a * E.cells e + (n - a) * E.cells e = n * E.cells e := by
              rw [← Nat.add_mul]; congr 1; omega
            refine ⟨_, .slice (some ⟨c, off + a * E.cells e, none⟩) (h - a) (n - a), hk, fin ?_, .slice _ _ _ _ _ N _ _ hM (by show h - a ≤ n - a; omega) ?_ (.inl rfl)⟩
            · have hb1 := bound_S hbh hhi nhi
              have hb2 := bound_S hba hlo nlo
              have hsb := run_sliceBounds (P := E.P) (isS := false) (len := n) (cap := n) (l := a) (h := h) (m := n) (lo := clo) (hi := chi) (mx := none) (.inl ⟨rfl, rfl⟩)
                (by rcases hb1 with ⟨_, h2, h3⟩ | ⟨k, _, h2⟩
                    · exact .inl ⟨h2, h3, rfl⟩
                    · exact .inr ⟨k, h2, hle.1.1⟩)
                (by rcases hb2 with ⟨_, h2, h3⟩ | ⟨k, _, h2⟩
                    · exact .inl ⟨h2, h3⟩
                    · exact .inr ⟨k, h2, hle.2⟩) w
              simp only [Instr.sliceAt, Instr.sureAddr, Sem.run_bind, Sem.run_pure, run_underlying (hE.und hd), Result.andThen_ok, hp, hm0, hsb, hE.size hz w]
              rw [if_neg (by omega), add_off]
            · omega
          · cases hf
        · cases hf
      · cases hf
    · cases hf
  · rename_i e a len sz hd hv
    rw [hv] at hx
    split at hf
    · rename_i m h l hbm hbh hbl
      rw [ifB_eq] at hf
      split at hf
      · rename_i hle
        simp only [Bool.and_eq_true, ble_true, Bool.or_eq_true] at hle
        obtain ⟨⟨⟨hle1, hle2⟩, hle3⟩, hle4⟩ := hle
        have hb0 := bound_S hbm hmx nmx
        have hb1 := bound_S hbh hhi nhi
        have hb2 := bound_S hbl hlo nlo
        have hsb : ∀ cap, len ≤ cap → ∃ m', l ≤ m' ∧ h ≤ m' ∧ m' ≤ cap ∧ (Instr.sliceBounds true len cap clo chi cmx).run E.P w = .ok (l, h, m') w := by
          intro cap hcap
          rcases hb0 with ⟨hm1, hm2, hm3⟩ | ⟨k, hm1, hm2⟩
          · refine ⟨cap, by omega, by omega, Nat.le_refl _, run_sliceBounds (.inl ⟨hm2, rfl⟩) ?_ ?_ w⟩
            · rcases hb1 with ⟨_, h2, h3⟩ | ⟨k, _, h2⟩
              · exact .inl ⟨h2, h3, hm2⟩
              · exact .inr ⟨k, h2, by omega⟩
            · rcases hb2 with ⟨_, h2, h3⟩ | ⟨k, _, h2⟩
              · exact .inl ⟨h2, h3⟩
              · exact .inr ⟨k, h2, hle3⟩
          · refine ⟨m, by omega, by omega, by omega, run_sliceBounds (.inr ⟨k, hm2, by omega⟩) ?_ ?_ w⟩
            · rcases hb1 with ⟨h1, h2, h3⟩ | ⟨k, _, h2⟩
              · exfalso; rw [hm1, h1] at hle4; simp at hle4
              · exact .inr ⟨k, h2, hle2⟩
            · rcases hb2 with ⟨_, h2, h3⟩ | ⟨k, _, h2⟩
              · exact .inl ⟨h2, h3⟩
              · exact .inr ⟨k, h2, hle3⟩
        split at hf
        · obtain ⟨rfl, rfl, hp⟩ := hx.slice0_inv
          obtain ⟨m', g1, g2, g3, hrun⟩ := hsb 0 (Nat.le_refl _)
          rw [ifB_eq] at hf
          split at hf
          · cases hf
          · rename_i hz
            have hz' : E.cells e ≠ 0 := fun h => hz (beq_true.2 h)
            have h1 : m' = 0 := by omega
            have h2 : l = 0 := by omega
            have h3 : h = 0 := by omega
            subst h1; subst h2; subst h3
            refine ⟨_, .slice none 0 0, hf, fin ?_, .slice0⟩
            simp only [Instr.sliceAt, Instr.slice, Sem.run_bind, Sem.run_pure, run_underlying (hE.und hd), Result.andThen_ok, hp, hrun, hE.size hz' w]
            rfl
        · rename_i b off
          obtain ⟨_, c, N, o', cap, hM, q1, q2, q3, hp⟩ := hx.slice_inv
          rw [ifB_eq] at hf
          split at hf
          · rename_i hszz
            have := beq_true.1 hszz
            subst this
            obtain ⟨hz, hk⟩ := sliceTo_inv hE hf
            obtain ⟨m', g1, g2, g3, hrun⟩ := hsb cap q1
            have hmul : l * E.cells e + (m' - l) * E.cells e = m' * E.cells e := by rw [← Nat.add_mul]; congr 1; omega
            have hmul2 : m' * E.cells e ≤ cap * E.cells e := Nat.mul_le_mul_right _ g3
            have hrun2 : (Instr.sliceAt t (ρ x) clo chi cmx).run E.P w = .ok (.slice (if m' = l then some ⟨c, o', none⟩ else some ⟨c, o' + l * E.cells e, none⟩) (h - l) (m' - l)) w := by
              simp only [Instr.sliceAt, Instr.slice, Sem.run_bind, Sem.run_pure, run_underlying (hE.und hd), Result.andThen_ok, hp, hrun, hE.size hz w, Option.map_some, add_off]
            refine ⟨_, _, hk, fin hrun2, ?_⟩
            split
            · rename_i hml
              refine .slice _ _ _ _ _ N _ _ hM (by show h - l ≤ m' - l; omega) (by rw [hml]; simp; omega) ?_
              by_cases hl0 : l = 0
              · subst hl0; simp; omega
              · right
                refine ⟨by show h - l = 0; omega, ?_⟩
                have : 0 < l * E.cells e := Nat.mul_pos (by omega) (by omega)
                omega
            · refine .slice _ _ _ _ _ N _ _ hM (by show h - l ≤ m' - l; omega) (by omega) ?_
              rcases q3 with q3 | ⟨q3, q4⟩
              · left; rw [q3]
              · right
                exact ⟨by show h - l = 0; omega, by omega⟩
          · cases hf
        · cases hf
      · cases hf
    · cases hf
  · cases hf
end
end Go.Am

namespace Go.Am

/-! ## bytes -/
def byteV (b : UInt8) : Value := .int .u8 (.ofNat b.toNat)
theorem byteValsK_eq {β : Type} (l : List UInt8) (k : List Value → β) : byteValsK l k = k (l.map byteV) := by
  induction l generalizing k with
  | nil => rfl
  | cons b l ih => simp only [byteValsK, fN_eq, ih, List.map_cons]; rfl
theorem valBytesK_some {β : Type} {vs : List Value} {k : List UInt8 → Option β} {r : β} (h : valBytesK vs k = some r) :
    ∃ ns : List Nat, vs = ns.map (fun n => .int .u8 (.ofNat n)) ∧ k (ns.map UInt8.ofNat) = some r := by
  induction vs generalizing k with
  | nil => exact ⟨[], rfl, h⟩
  | cons v vs ih =>
    unfold valBytesK at h
    split at h
    · rename_i heq; cases heq
    · rename_i n l hk
      cases hk
      obtain ⟨ns, rfl, hk⟩ := ih h
      exact ⟨n :: ns, rfl, hk⟩
    · cases h
theorem VRL.bytes {M : Loc} {l : List UInt8} {vs : List Value} (h : VRL M (l.map byteV) vs) : vs = l.map byteV := by
  induction l generalizing vs with
  | nil => cases h; rfl
  | cons b l ih => cases h with | cons _ w _ m hv ht => rw [hv.int_inv, ih ht]; rfl
theorem VRL.of_bytes (M : Loc) (l : List UInt8) : VRL M (l.map byteV) (l.map byteV) := by
  induction l with
  | nil => exact .nil
  | cons b l ih => exact .cons _ _ _ _ (.int _ _) ih
theorem VRL.ints {M : Loc} {ns : List Nat} {vs : List Value} (h : VRL M (ns.map fun n => .int .u8 (.ofNat n)) vs) : vs = ns.map fun n => .int .u8 (.ofNat n) := by
  induction ns generalizing vs with
  | nil => cases h; rfl
  | cons b l ih => cases h with | cons _ w _ m hv ht => rw [hv.int_inv, ih ht]; rfl
theorem foldl_push (ns : List Nat) (s : ByteArray) : (ns.map fun n => (Int.ofNat n)).foldl (fun r n => r.push (UInt8.ofNat n.toNat)) s = s ++ mkStr (ns.map UInt8.ofNat) := by
  induction ns generalizing s with
  | nil => 
    apply ByteArray.ext
    simp [mkStr]
  | cons n ns ih =>
    simp only [List.map_cons, List.foldl_cons, ih]
    apply ByteArray.ext
    simp [mkStr]

/-- what a source holds -/
structure Src (w : World) (size n : Nat) (x' : Value) (vs' : List Value) : Prop where
  len : vs'.length = n * size
  src : (∃ a m cap, x' = .slice (some a) m cap ∧ n ≤ m ∧ ∀ (j : Nat) (u : Value), vs'[j]? = some u → w.cell? (a.add j) = some u) ∨ (x' = .slice none 0 0 ∧ n = 0) ∨ (∃ s, x' = .string s ∧ size = 1 ∧ n ≤ s.size ∧ vs' = ((strL s).take n).map byteV)
theorem srcK_some {β : Type} {S : AS} {size n : Nat} {x x' : Value} {k : List Value → Option β} {r : β} (h : srcK S size n x k = some r) {M : Loc} {w : World} (hR : Rel M S w) (hx : VR M x x') :
    ∃ vs vs', k vs = some r ∧ VRL M vs vs' ∧ (∀ y ∈ vs', y.oneCell' = true) ∧ Src w size n x' vs' := by
  unfold srcK at h
  split at h
  · rename_i b off len sz
    obtain ⟨_, c, N, o', cap, hM, h1, h2, h3, hp⟩ := hx.slice_inv
    rw [ifB_eq] at h
    split at h
    · rename_i hle
      simp only [Bool.and_eq_true, ble_true, beq_true] at hle
      obtain ⟨hle, rfl⟩ := hle
      split at h
      · exact ⟨[], [], h, .nil, by simp, by simp, .inl ⟨_, _, _, hp, Nat.zero_le _, by simp⟩⟩
      · rename_i hn
        have hn' : n ≠ 0 := fun e => hn (by rw [e])
        have ho' : o' = off := by omega
        subst ho'
        obtain ⟨tr, m, e, f, hb, hval, h⟩ := cellsK_some h
        obtain ⟨cs, lo, hi, hc, hs, hm, hfit⟩ := hR.cells hb hval hM
        rw [ifB_eq] at h
        split at h
        · rename_i hle2
          have hle2' : o' + n * sz ≤ m := ble_true.1 hle2
          split at h
          · rename_i l hl
            obtain ⟨l', g1, g2, g3, g4⟩ := hfit.read hl hle2'
            exact ⟨l, l', h, g2, g3, g1, .inl ⟨_, _, _, hp, hle, fun j u hu => by rw [add_off, cell_of hc]; exact g4 j u hu⟩⟩
          · cases h
        · cases h
    · cases h
  · obtain ⟨rfl, rfl, hp⟩ := hx.slice0_inv
    split at h
    · exact ⟨[], [], h, .nil, by simp, by simp, .inr (.inl ⟨hp, rfl⟩)⟩
    · cases h
  · rename_i s
    have hp := hx.string_inv
    rw [ifB_eq] at h
    split at h
    · rename_i h1
      have := beq_true.1 h1
      subst this
      rw [takeK_eq, ifB_eq] at h
      split at h
      · rename_i hl
        rw [byteValsK_eq] at h
        have hl' := beq_true.1 hl
        refine ⟨_, _, h, .of_bytes M _, ?_, by simpa using hl', .inr (.inr ⟨s, hp, rfl, ?_, rfl⟩)⟩
        · intro y hy
          obtain ⟨b, _, rfl⟩ := List.mem_map.1 hy
          rfl
        · rw [List.length_take, strL_length] at hl'; omega
      · cases h
    · cases h
  · cases h
theorem Src.run {P : Program} {w : World} {size n : Nat} {x' : Value} {vs' : List Value} (h : Src w size n x' vs') : (Builtin.firstCells size n x').run P w = .ok vs'.toArray w := by
  have hl := h.len
  rcases h.src with ⟨a, m, cap, rfl, hle, hc⟩ | ⟨rfl, rfl⟩ | ⟨s, rfl, rfl, hle, rfl⟩
  · simp only [Builtin.firstCells]
    rw [← hl]
    exact run_loadCells_list w a vs' hc
  · have : vs' = [] := List.eq_nil_of_length_eq_zero (by simpa using hl)
    subst this; rfl
  · have e1 : ((s.extract 0 n).data.map fun b => (Value.int .u8 b.toNat)) = (((strL s).take n).map byteV).toArray := by
      apply Array.toList_inj.1
      rw [Array.toList_map, ByteArray.data_extract, Array.toList_extract, List.extract_eq_take_drop]
      simp [strL]; rfl
    simp only [Builtin.firstCells, e1]; rfl
end Go.Am

namespace Go.Am

/-! ## conversions -/
theorem newFam_eq {β : Type} (S : AS) (t : PT Value) (m : Nat) (e : TypeId) (frz : Nat) (sb : Bool) (k : Nat → AS → β) :
    newFam S t m e frz sb k = k S.next ⟨S.heap.set S.next (.cells t m e (S.nfam + 1)), S.next + 1, S.fams.set S.nfam ⟨[S.next], m, frz, sb⟩, S.nfam + 1⟩ := by
  cases S; unfold newFam; simp only [PT.setK_eq]
section
variable {E : Env} {β : Type} (hE : EnvOk E)
include hE
theorem cv_ints {src dst : TypeId} {k : IntKind} (h : cvOf E src dst = .ints k) : (∃ j, E.und src = some (.int j)) ∧ E.und dst = some (.int k) := by
  unfold cvOf at h
  split at h
  all_goals (try (cases h))
  · rename_i h1 h2; exact ⟨⟨_, h1⟩, h2⟩
  · split at h
    · rw [ifB_eq] at h; split at h <;> cases h
    · cases h
  · split at h <;> cases h
  · rw [ifB_eq] at h; split at h <;> cases h
theorem cv_str {src dst : TypeId} (h : cvOf E src dst = .str) : E.und src = some .string ∧ E.und dst = some .string := by
  unfold cvOf at h
  split at h
  all_goals (try (cases h))
  · rename_i h1 h2; exact ⟨h1, h2⟩
  · split at h
    · rw [ifB_eq] at h; split at h <;> cases h
    · cases h
  · split at h <;> cases h
  · rw [ifB_eq] at h; split at h <;> cases h
theorem cv_bytes {src dst e : TypeId} (h : cvOf E src dst = .bytes e) : E.und src = some .string ∧ E.und dst = some (.slice e) ∧ E.und e = some (.int .u8) ∧ E.cells e = 1 := by
  unfold cvOf at h
  split at h
  all_goals (try (cases h))
  · rename_i h1 h2
    split at h
    · rename_i h3
      rw [ifB_eq] at h
      split at h
      · rename_i h4; cases h; exact ⟨h1, h2, h3, beq_true.1 h4⟩
      · cases h
    · cases h
  · split at h <;> cases h
  · rw [ifB_eq] at h; split at h <;> cases h
theorem cv_toStr {src dst : TypeId} (h : cvOf E src dst = .toStr) : ∃ e, E.und src = some (.slice e) ∧ E.und dst = some .string ∧ E.und e = some (.int .u8) := by
  unfold cvOf at h
  split at h
  all_goals (try (cases h))
  · split at h
    · rw [ifB_eq] at h; split at h <;> cases h
    · cases h
  · rename_i e h1 h2
    split at h
    · rename_i h3; exact ⟨e, h1, h2, h3⟩
    · cases h
  · rw [ifB_eq] at h; split at h <;> cases h
theorem cv_unsafeP {src dst : TypeId} (h : cvOf E src dst = .unsafeP) : ∃ t, E.und src = some (.pointer t) ∧ E.und dst = some .unsafePointer ∧ E.cells t ≠ 0 := by
  unfold cvOf at h
  split at h
  all_goals (try (cases h))
  · split at h
    · rw [ifB_eq] at h; split at h <;> cases h
    · cases h
  · split at h <;> cases h
  · rename_i t h1 h2
    rw [ifB_eq] at h
    split at h
    · cases h
    · rename_i h3; exact ⟨t, h1, h2, fun e => h3 (beq_true.2 e)⟩
theorem cv_backP {src dst u : TypeId} (h : cvOf E src dst = .backP u) : E.und src = some .unsafePointer ∧ E.und dst = some (.pointer u) := by
  unfold cvOf at h
  split at h
  all_goals (try (cases h))
  · split at h
    · rw [ifB_eq] at h; split at h <;> cases h
    · cases h
  · split at h <;> cases h
  · rw [ifB_eq] at h; split at h <;> cases h
  · rename_i h1 h2; exact ⟨h1, h2⟩
omit hE in
theorem run_markStringish {P : Program} {w : World} {c e : Nat} {cs : Array Value} {fr : Nat × Nat} (hc : w.heap[c]? = some (.cells cs e fr)) :
    (markStringish ⟨c, 0, none⟩).run P w = .ok () (w.freeze ⟨c, cs.size, none⟩ 1) := by
  have : w.shape? c = some (e, cs.size) := by simp [World.shape?, hc]
  simp [markStringish, shape, freeze, Sem.run, this]
omit hE in
theorem modify_push (h : Array Obj) (o : Obj) (f : Obj → Obj) : (h.push o).modify h.size f = h.push (f o) := by
  apply Array.ext_getElem?
  intro i
  rw [Array.getElem?_modify, Array.getElem?_push, Array.getElem?_push]
  by_cases hi : h.size = i
  · simp [hi]
  · have : ¬ (i = h.size) := fun e => hi e.symm
    simp [hi, this]
omit hE in
theorem run_stringToBytes (P : Program) (e : TypeId) (s : ByteArray) (w : World) : ∃ cap cs, s.size ≤ cap ∧ cs = (s.data.map fun b => (Value.int .u8 b.toNat)) ++ Array.replicate (cap - s.size) (Value.int .u8 0) ∧
    (Conv.stringToBytes e s).run P w = .ok (.slice (some ⟨w.heap.size, 0, none⟩) s.size cap) { w with heap := w.heap.push (.cells cs e (cs.size, cs.size + 1)), drawn := w.drawn + 1 } := by
  refine ⟨(Question.appendCap s.size 0 e).cut (w.tape w.drawn (.appendCap s.size 0 e)), _, ?_, rfl, ?_⟩
  · simp [Question.cut]
  · have hq : (Question.appendCap s.size 0 e).forced = false := rfl
    unfold Conv.stringToBytes
    simp only [Sem.run_bind, choose, Sem.run, hq, Bool.false_eq_true, if_false, Result.andThen_ok, Sem.run_pure, newRow, newObj]
    generalize (Array.map (fun b => Value.int IntKind.u8 b.toNat) s.data ++ Array.replicate _ (Value.int IntKind.u8 0)) = cs
    have hm := run_markStringish (P := P) (w := { w with heap := w.heap.push (.cells cs e (0, 0)), drawn := w.drawn + 1 }) (c := w.heap.size) (e := e) (cs := cs) (fr := (0, 0)) (by simp)
    rw [hm]
    simp only [Result.andThen_ok, World.freeze]
    congr 2
    rw [modify_push]
    simp
theorem conv_S (src dst : TypeId) (x : Operand) : OpS E (convW (β := β) E src dst x).f (.convert src dst x) := by
  intro tm S kk r hf M w ρ hR hρ o ho
  have hx := hρ x (by simp [Op.operands])
  have fin : ∀ {v' : Value} {w' : World}, (convert src dst (ρ x)).run E.P w = .ok v' w' → (execOp ρ o).run E.P w = .ok (.value v') w' := by
    intro v' w' h
    unfold execOp; rw [ho]
    simp [h]
  have h1 : (convW (β := β) E src dst x).f tm S kk = aConvert E (cvOf E src dst) S (evA E.ng tm x) kk := by
    have := un1_f (E := E) (β := β) x (fun S v kk => aConvert E (cvOf E src dst) S v kk) tm S kk
    rw [← this]; rfl
  rw [h1] at hf
  unfold aConvert at hf
  split at hf
  · rename_i k j n hc hv
    rw [hv] at hx
    have hp := hx.int_inv
    obtain ⟨⟨j', hs⟩, hd⟩ := cv_ints hE hc
    rw [fI_eq, wrapF_eq] at hf
    refine ⟨_, _, hf, ⟨_, _, w, M, fin ?_, .value _, Step.refl hR, .int _ _⟩⟩
    simp [convert, run_underlying (hE.und hs), run_underlying (hE.und hd), hp, Conv.intToInt]
  · rename_i s hc hv
    rw [hv] at hx
    have hp := hx.string_inv
    obtain ⟨hs, hd⟩ := cv_str hE hc
    refine ⟨_, _, hf, ⟨_, _, w, M, fin ?_, .value _, Step.refl hR, .string _⟩⟩
    simp [convert, run_underlying (hE.und hs), run_underlying (hE.und hd), hp]
  · rename_i e s hc hv
    rw [hv] at hx
    have hp := hx.string_inv
    obtain ⟨hs, hd, he, hz⟩ := cv_bytes hE hc
    rw [byteValsK_eq, fromList_eq, newFam_eq] at hf
    obtain ⟨cap, cs, hcap, hcs, hrun⟩ := run_stringToBytes E.P e s w
    have hsz : cs.size = cap := by rw [hcs]; simp; have : s.data.size = s.size := rfl; omega
    have hcv : (convert src dst (ρ x)).run E.P w = (Conv.stringToBytes e s).run E.P w := by
      simp [convert, run_underlying (hE.und hs), run_underlying (hE.und hd), run_underlying (hE.und he), hp]
    have hfit : Fits M (PT.lf.write 0 ((strL s).map byteV)) ((strL s).map byteV).length cs := by
      intro i v hi hv
      rw [PT.get_write, if_pos (by omega)] at hv
      simp only [Nat.sub_zero, List.getElem?_map] at hv
      simp only [List.length_map] at hi
      cases hg : (strL s)[i]? with
      | none => rw [hg] at hv; cases hv
      | some b =>
        rw [hg] at hv; cases hv
        refine ⟨byteV b, ?_, .int _ _, rfl⟩
        rw [hcs]
        have hi' : i < s.data.size := by simpa [strL] using hi
        rw [Array.getElem?_append_left (by simpa using hi')]
        have : s.data[i]? = some b := by simpa [strL] using hg
        simp [this, byteV]
    have hlen : ((strL s).map byteV).length ≤ cs.size := by simp; rw [strL_length]; omega
    have e1 : ((strL s).map byteV).length = s.size := by rw [List.length_map, strL_length]
    rw [e1] at hf hfit hlen
    have hst := hR.newFam (m := s.size) (e := e) (N := cs.size) (frz := 0) (fl := cs.size) (fh := cs.size + 1) (sb := true) rfl hfit hlen (by omega) (by simp)
    refine ⟨_, _, hf, ⟨_, _, _, _, fin (hcv.trans hrun), .value _, hst.drawn _, .slice _ _ _ _ _ _ _ _ (Loc.add_self _ _ _ _) ?_ ?_ (.inl rfl)⟩⟩
    · exact hcap
    · omega
  · rename_i n c' hc hv
    rw [hv] at hx
    obtain ⟨rfl, rfl, hp⟩ := hx.slice0_inv
    obtain ⟨e, hs, hd, he⟩ := cv_toStr hE hc
    simp only at hf
    refine ⟨_, _, hf, ⟨_, .string (mkStr []), w, M, fin ?_, .value _, Step.refl hR, .string _⟩⟩
    simp [convert, run_underlying (hE.und hs), run_underlying (hE.und hd), run_underlying (hE.und he), hp, Conv.bytesToString]
    rfl
  · rename_i a n sz hc hv
    rw [hv] at hx
    obtain ⟨e, hs, hd, he⟩ := cv_toStr hE hc
    obtain ⟨vs, vs', hk, hvv, h1, hsrc⟩ := srcK_some hf hR hx
    obtain ⟨ns, rfl, hk'⟩ := valBytesK_some hk
    have hvs := hvv.ints
    rcases hsrc.src with ⟨a', m, cap, hp, hle, hcell⟩ | ⟨hp, _⟩ | ⟨s, hp, _⟩
    · refine ⟨_, _, hk', ⟨_, .string (mkStr (ns.map UInt8.ofNat)), w, M, fin ?_, .value _, Step.refl hR, .string _⟩⟩
      have hm : m = n := by
        obtain ⟨b, off, sp⟩ := a
        obtain ⟨_, c, N, o', cap', hM, g1, g2, g3, hp'⟩ := hx.slice_inv
        rw [hp] at hp'; cases hp'; rfl
      subst hm
      have hrun : (loadCells a' m).run E.P w = .ok vs'.toArray w := by
        have h3 := run_loadCells_list (P := E.P) w a' vs' hcell
        rwa [hsrc.len, Nat.mul_one] at h3
      rw [hvs] at hrun
      have : (ns.map fun n => Value.int .u8 (.ofNat n)) = ((ns.map fun n => (Int.ofNat n)).map (Value.int .u8)) := by simp
      rw [this] at hrun
      have h2 := run_bytesToString w a' m cap _ hrun
      rw [foldl_push] at h2
      rw [hp, run_convert_bytes_string w src dst e (some a') m cap (hE.und hs) (hE.und he) (hE.und hd), h2]
      simp
    · cases a; rw [hp] at hx; cases hx
    · cases a; rw [hp] at hx; cases hx
  · rename_i b off hc hv
    rw [hv] at hx
    obtain ⟨t, hs, hd, hz⟩ := cv_unsafeP hE hc
    obtain ⟨_, c, N, hM, hp⟩ := hx.ptr_inv
    rw [ifB_eq] at hf
    split at hf
    · rename_i hok
      simp only [Bool.and_eq_true, beq_true, ble_true] at hok
      obtain ⟨⟨hsin, rfl⟩, hpos⟩ := hok
      refine ⟨_, _, hf, ⟨_, .pointer (some ⟨c, 0, none⟩), w, M, fin ?_, .value _, Step.refl hR, .ptr _ _ _ _ hM⟩⟩
      obtain ⟨t1, n1, e1, hb⟩ := isSingle_some hsin
      obtain ⟨cs, lo, hi, hcell, hcs, hn, _⟩ := hR.cells hb (.inl rfl) hM
      have hpos' : 1 ≤ n1 := by unfold cellsLen at hpos; rw [hb] at hpos; exact hpos
      have hsh : w.shape? c = some (e1, cs.size) := by simp [World.shape?, hcell]
      have hne : ¬ (cs.size = 0) := by omega
      simp [convert, run_underlying (hE.und hs), run_underlying (hE.und hd), hp, Conv.unsafePointer, Conv.seenAt, viewAt, shape, Sem.run, hsh, cellsIn, hE.size hz w, hz, hne]
    · cases hf
  · rename_i u b hc hv
    rw [hv] at hx
    obtain ⟨hs, hd⟩ := cv_backP hE hc
    obtain ⟨_, c, N, hM, hp⟩ := hx.ptr_inv
    split at hf
    · rename_i t1 n1 e1 hb
      rw [ifB_eq] at hf
      split at hf
      · rename_i hok
        simp only [Bool.and_eq_true, beq_true, ble_true] at hok
        obtain ⟨⟨rfl, hz⟩, hn1⟩ := hok
        refine ⟨_, _, hf, ⟨_, .pointer (some ⟨c, 0, none⟩), w, M, fin ?_, .value _, Step.refl hR, .ptr _ _ _ _ hM⟩⟩
        obtain ⟨cs, lo, hi, hcell, hcs, hn, _⟩ := hR.cells hb (.inl rfl) hM
        have hsh : w.shape? c = some (e1, cs.size) := by simp [World.shape?, hcell]
        have hz' : E.cells e1 ≠ 0 := by omega
        obtain ⟨i, hi, his, _⟩ := hE.info hz'
        have hcof : E.P.cellsOf e1 = E.cells e1 := by simp [Program.cellsOf, hi, his]
        have hcount : 1 ≤ cs.size / E.cells e1 := by
          rw [Nat.le_div_iff_mul_le (by omega)]; omega
        have hrow : rowAt E.P (sameLayout E.P E.P.depth · e1) E.P.depth e1 (cs.size / E.P.cellsOf e1) 0 1 = true := by
          have hdep : ∃ d, E.P.depth = d + 1 := ⟨2 * (E.P.types.size + Made.depth) + 1, rfl⟩
          obtain ⟨d, hdep⟩ := hdep
          rw [hdep, hcof]
          simp [rowAt, hcof, hz', sameLayout, hcount]
        have hlies : liesAt E.P E.P.depth e1 (cs.size / E.P.cellsOf e1) 0 e1 1 = true := by
          have hdep : ∃ d, E.P.depth = d + 1 := ⟨2 * (E.P.types.size + Made.depth) + 1, rfl⟩
          obtain ⟨d, hdep⟩ := hdep
          rw [hdep]
          unfold liesAt
          rw [hrow]; rfl
        simp [convert, run_underlying (hE.und hs), run_underlying (hE.und hd), hp, Conv.unsafePointer, Conv.seenAt, viewAt, shape, Sem.run, hsh, hE.size hz' w, variablesAt, program, hlies]
      · cases hf
    · cases hf
  · cases hf
end
end Go.Am

namespace Go.Am

/-! ## maps -/
theorem eqS_ba (x y : ByteArray) : eqS (strL x) (strL y) = (x == y) := by
  have h1 : (x == y) = (x.data == y.data) := by cases x; cases y; rfl
  rw [eqS_eq, h1, Bool.eq_iff_iff, beq_iff_eq, beq_iff_eq]
  unfold strL
  exact ⟨fun h => Array.toList_inj.1 h, fun h => by rw [h]⟩
/-- what the keys of a map are -/
def KeyKind (P : Program) (kt : TypeId) (k : Value) : Prop :=
  (P.underlying kt = some .string ∧ ∃ x, k = .string x) ∨ (∃ j, P.underlying kt = some (.int j) ∧ ∃ i z, k = .int i z) ∨ (P.underlying kt = some .bool ∧ ∃ x, k = .bool x) ∨
  ((∃ fs, P.underlying kt = some (.struct fs)) ∧ ∃ c, k = .agg c)
section
variable {E : Env} {β : Type} (hE : EnvOk E)
include hE
omit hE in
theorem keyOk_check {kt : TypeId} {k : Value} {P : Program} (n : Nat) (b : Bool) (w : World) (h : (P.underlying kt = some .string ∧ ∃ x, k = .string x) ∨ (∃ j, P.underlying kt = some (.int j) ∧ ∃ i z, k = .int i z) ∨ (P.underlying kt = some .bool ∧ ∃ x, k = .bool x)) :
    (Instr.checkKey b (n + 1) kt k).run P w = .ok () w := by
  rcases h with ⟨h, x, rfl⟩ | ⟨j, h, i, z, rfl⟩ | ⟨h, x, rfl⟩ <;> simp [Instr.checkKey, run_underlying h]
theorem keyOk_S {kt : TypeId} {k : Value} (h : keyOk E kt k = true) : gnd k = true ∧ KeyKind E.P kt k ∧ ∀ b w, (Instr.checkKey b 10000 kt k).run E.P w = .ok () w := by
  unfold keyOk at h
  split at h
  · rename_i hd; exact ⟨rfl, .inl ⟨hE.und hd, _, rfl⟩, fun b w => keyOk_check 9999 b w (.inl ⟨hE.und hd, _, rfl⟩)⟩
  · rename_i hd; exact ⟨rfl, .inr (.inl ⟨_, hE.und hd, _, _, rfl⟩), fun b w => keyOk_check 9999 b w (.inr (.inl ⟨_, hE.und hd, _, _, rfl⟩))⟩
  · rename_i hd; exact ⟨rfl, .inr (.inr (.inl ⟨hE.und hd, _, rfl⟩)), fun b w => keyOk_check 9999 b w (.inr (.inr ⟨hE.und hd, _, rfl⟩))⟩
  · rename_i fs c hd
    simp only [Bool.and_eq_true] at h
    obtain ⟨hg, h⟩ := h
    split at h
    · rename_i u v h1 h2
      refine ⟨hg, .inr (.inr (.inr ⟨⟨_, hE.und hd⟩, _, rfl⟩)), fun b w => ?_⟩
      cases b
      · exact pureRun_run h1 w
      · exact pureRun_run h2 w
    · cases h
  · cases h
omit hE in
theorem keyIs_gnd {kt : TypeId} {k y : Value} {b : Bool} (h : keyIs E kt k y = some b) : gnd y = true := by
  unfold keyIs at h
  split at h
  all_goals first
    | cases h; done
    | rfl
    | skip
  · rw [ifB_eq] at h
    split at h
    · rename_i hg; simp only [Bool.and_eq_true] at hg; exact hg.2
    · cases h

/-- how a place among the entries is found -/
def Found (M : Loc) (es : List MapEntry) (es' : List MapEntry) (i : Nat) : Option (Nat × MapEntry) → Option (Nat × Value) → Prop
  | none, none => True
  | some (j, e), some (j', v') => j' = j ∧ i ≤ j ∧ gnd e.key = true ∧ ∃ e', es[j - i]? = some e ∧ es'[j - i]? = some e' ∧ EntR M e e' ∧ v' = e'.val
  | _, _ => False
omit hE in
theorem Found.cons {M : Loc} {es es' : List MapEntry} {i : Nat} {a a' : MapEntry} {x : Option (Nat × MapEntry)} {y : Option (Nat × Value)} (h : Found M es es' (i + 1) x y) : Found M (a :: es) (a' :: es') i x y := by
  cases x with
  | none => cases y <;> exact h
  | some p =>
    obtain ⟨j, e⟩ := p
    cases y with
    | none => exact h
    | some q =>
      obtain ⟨j', v'⟩ := q
      obtain ⟨h1, h2, hg, e', h3, h4, h5, h6⟩ := h
      refine ⟨h1, by omega, hg, e', ?_, ?_, h5, h6⟩
      · rw [show j - i = (j - (i + 1)) + 1 by omega]; simpa using h3
      · rw [show j - i = (j - (i + 1)) + 1 by omega]; simpa using h4
omit hE in
theorem findNow_S {M : Loc} {kt : TypeId} {d : TypeDesc} {k : Value} (hk : (d = .string ∧ ∃ x, k = .string x) ∨ (∃ j, d = .int j ∧ ∃ i z, k = .int i z) ∨ (d = .bool ∧ ∃ x, k = .bool x)) :
    ∀ {es es' : List MapEntry}, LR (EntR M) es es' → ∀ {i : Nat} {res : Option (Nat × MapEntry)}, findE E kt k es i = some res → ∃ res', Instr.findNow d k es' i = some res' ∧ Found M es es' i res res' := by
  intro es es' h
  induction h with
  | nil => intro i res hf; simp only [findE] at hf; cases hf; exact ⟨none, rfl, trivial⟩
  | cons a b l m hab _ ih =>
    intro i res hf
    simp only [findE] at hf
    have hsame : ∀ bb, keyIs E kt k a.key = some bb → Instr.sameNow d k b.key = some bb := by
      intro bb hb
      have hg := keyIs_gnd hb
      rw [hab.1.gnd_eq hg]
      clear hg hf
      generalize a.key = q at hb
      rcases hk with ⟨rfl, x, rfl⟩ | ⟨j, rfl, i, z, rfl⟩ | ⟨rfl, x, rfl⟩
      · cases q <;> simp only [keyIs, reduceCtorEq, Option.some.injEq] at hb
        rw [← hb, eqS_ba]; rfl
      · cases q <;> simp only [keyIs, reduceCtorEq] at hb
        rw [ifB_eq] at hb
        split at hb
        · rename_i hkj; cases hb
          have := (kindEq_iff _ _).1 hkj; subst this
          simp [Instr.sameNow, eqI_eq]
        · cases hb
      · cases q <;> simp only [keyIs, reduceCtorEq, Option.some.injEq] at hb
        rename_i y
        rw [← hb]; cases x <;> cases y <;> rfl
    split at hf
    · rename_i hb
      cases hf
      exact ⟨some (i, b.val), by simp [Instr.findNow, hsame _ hb], rfl, Nat.le_refl _, keyIs_gnd hb, b, by simp, by simp, hab, rfl⟩
    · rename_i hb
      obtain ⟨res', h1, h2⟩ := ih hf
      exact ⟨res', by simp [Instr.findNow, hsame _ hb, h1], h2.cons⟩
    · cases hf
omit hE in
theorem findAsking_S {M : Loc} {kt : TypeId} {c : Array Value} (hg : gnd (.agg c) = true) (w : World) :
    ∀ {es es' : List MapEntry}, LR (EntR M) es es' → ∀ {i : Nat} {res : Option (Nat × MapEntry)}, findE E kt (.agg c) es i = some res → ∃ res', (Instr.findAsking kt (.agg c) es' i).run E.P w = .ok res' w ∧ Found M es es' i res res' := by
  intro es es' h
  induction h with
  | nil => intro i res hf; simp only [findE] at hf; cases hf; exact ⟨none, rfl, trivial⟩
  | cons a b l m hab _ ih =>
    intro i res hf
    simp only [findE] at hf
    have hsame : ∀ bb, keyIs E kt (.agg c) a.key = some bb → (Op.equal kt (.agg c) b.key).run E.P w = .ok bb w := by
      intro bb hb
      have hg := keyIs_gnd hb
      rw [hab.1.gnd_eq hg]
      simp only [keyIs] at hb
      rw [ifB_eq] at hb
      split at hb
      · exact pureRun_run hb w
      · cases hb
    split at hf
    · rename_i hb
      cases hf
      exact ⟨some (i, b.val), by simp [Instr.findAsking, hsame _ hb], rfl, Nat.le_refl _, keyIs_gnd hb, b, by simp, by simp, hab, rfl⟩
    · rename_i hb
      obtain ⟨res', h1, h2⟩ := ih hf
      exact ⟨res', by simp [Instr.findAsking, hsame _ hb, h1], h2.cons⟩
    · cases hf
omit hE in
theorem findKey_S {M : Loc} {kt : TypeId} {k : Value} (hg : gnd k = true) (hk : KeyKind E.P kt k) (w : World) {es : List MapEntry} {es' : List MapEntry} (h : LR (EntR M) es es')
    {res : Option (Nat × MapEntry)} (hf : findE E kt k es 0 = some res) : ∃ res', (Instr.findKey kt k es').run E.P w = .ok res' w ∧ Found M es es' 0 res res' := by
  rcases hk with ⟨hd, x, rfl⟩ | ⟨j, hd, i, z, rfl⟩ | ⟨hd, x, rfl⟩ | ⟨⟨fs, hd⟩, c, rfl⟩
  · obtain ⟨res', h1, h2⟩ := findNow_S (d := .string) (.inl ⟨rfl, _, rfl⟩) h hf
    exact ⟨res', by simp [Instr.findKey, run_underlying hd, h1], h2⟩
  · obtain ⟨res', h1, h2⟩ := findNow_S (d := .int j) (.inr (.inl ⟨_, rfl, _, _, rfl⟩)) h hf
    exact ⟨res', by simp [Instr.findKey, run_underlying hd, h1], h2⟩
  · obtain ⟨res', h1, h2⟩ := findNow_S (d := .bool) (.inr (.inr ⟨rfl, _, rfl⟩)) h hf
    exact ⟨res', by simp [Instr.findKey, run_underlying hd, h1], h2⟩
  · obtain ⟨res', h1, h2⟩ := findAsking_S hg w h hf
    refine ⟨res', ?_, h2⟩
    cases es' with
    | nil =>
      simp only [Instr.findKey, Sem.run_bind, run_underlying hd, Result.andThen_ok, Instr.findNow]
      simpa [Instr.findAsking] using h1
    | cons a l =>
      have : Instr.findNow (.struct fs) (.agg c) (a :: l) 0 = none := by simp [Instr.findNow, Instr.sameNow]
      simp only [Instr.findKey, Sem.run_bind, run_underlying hd, Result.andThen_ok, this, h1]
omit hE in
theorem mapOf_some {S : AS} {r : Nat} {es : List MapEntry} {c : Nat} (h : mapOf S r = some (es, c)) : S.heap.get r = some (.map es c) := by
  unfold mapOf at h
  split at h
  · rename_i h1; cases h; exact h1
  · cases h
omit hE in
theorem mapKE_some {t k e : TypeId} (h : mapKE E t = some (k, e)) : E.und t = some (.map k e) := by
  unfold mapKE at h
  split at h
  · rename_i h1; cases h; exact h1
  · cases h
omit hE in
theorem Rel.map {M : Loc} {S : AS} {w : World} (h : Rel M S w) {r c n clock : Nat} {es : List MapEntry} (hr : S.heap.get r = some (.map es clock)) (hM : M r = some (c, n)) :
    ∃ es' : Array MapEntry, w.heap[c]? = some (.map es' clock) ∧ LR (EntR M) es es'.toList := by
  obtain ⟨p, hp, ho⟩ := h.obj r _ c n hr hM
  cases ho with
  | map _ es' _ hl => exact ⟨es', hp, hl⟩
omit hE in
theorem run_getMap {P : Program} {w : World} {c clock : Nat} {es : Array MapEntry} (h : w.heap[c]? = some (.map es clock)) : (getObj c).run P w = .ok (.map es clock) w := by
  simp [getObj, Sem.run, h]
omit hE in
theorem run_setMap {P : Program} {w : World} {c clock : Nat} {es : Array MapEntry} (h : w.heap[c]? = some (.map es clock)) (o : Obj) : (setObj c o).run P w = .ok () { w with heap := w.heap.setIfInBounds c o } := by
  simp [setObj, Sem.run, h]
/-- the entries of a map -/
theorem mapEs_S {M : Loc} {S : AS} {w : World} (hR : Rel M S w) {m m' : Value} (hm : VR M m m') {es : List MapEntry} (h : mapEs S m = some es) :
    ∃ es' : Array MapEntry, LR (EntR M) es es'.toList ∧ ((m' = .map none ∧ es' = #[]) ∨ (∃ c clock, m' = .map (some c) ∧ w.heap[c]? = some (.map es' clock))) := by
  unfold mapEs at h
  split at h
  · cases h; exact ⟨#[], .nil, .inl ⟨hm.map0_inv, rfl⟩⟩
  · rename_i r
    split at h
    · rename_i es1 c1 h1
      cases h
      obtain ⟨c, n, hM, hp⟩ := hm.map_inv
      obtain ⟨es', h2, h3⟩ := hR.map (mapOf_some h1) hM
      exact ⟨es', h3, .inr ⟨c, _, hp, h2⟩⟩
    · cases h
  · cases h
theorem lookup_P (t : TypeId) (ok : Bool) (x k : Operand) : OpP E (lookupW (β := β) E t ok x k).f (.lookup t x k ok) := fun tm S kk r hf M w ρ hR hρ o ho => by
  have hx := hρ x (by simp [Op.operands])
  have hk := hρ k (by simp [Op.operands])
  unfold lookupW at hf
  rw [un2_f] at hf
  unfold aLookup at hf
  split at hf
  · cases hf
  · rename_i kt e hkt
    have hund := hE.und (mapKE_some hkt)
    split at hf
    · cases hf
    · rename_i es hes
      obtain ⟨es', hl, hm⟩ := mapEs_S hE hR hx hes
      rw [ifB_eq] at hf
      split at hf
      · rename_i hok
        obtain ⟨hg, hkk, hchk⟩ := keyOk_S hE hok
        have hk' := hk.gnd_eq hg
        have fin : ∀ {res' : Option (Nat × Value)} {v z : Value} {b : Bool}, (Instr.findKey kt (evA E.ng tm k) es'.toList).run E.P w = .ok res' w → (zeroValue e).run E.P w = .ok z w ∨ res' ≠ none →
            ((∃ i, res' = some (i, v) ∧ b = true) ∨ (res' = none ∧ v = z ∧ b = false)) → (execOp ρ o).run E.P w = .ok (.value (okV ok v b)) w := by
          intro res' v z b hres hz hb
          unfold execOp; rw [ho]
          rcases hm with ⟨hm1, hm2⟩ | ⟨c, clock, hm1, hm2⟩
          · subst hm2
            simp only [Instr.lookup, hm1, hk', Sem.run_bind, Sem.run_pure, run_underlying hund, Result.andThen_ok, hchk, hres]
            rcases hb with ⟨i, rfl, rfl⟩ | ⟨rfl, rfl, rfl⟩
            · cases ok <;> rfl
            · rcases hz with hz | hz
              · simp only [Sem.run_bind, hz, Result.andThen_ok, Sem.run_pure]
                cases ok <;> rfl
              · exact absurd rfl hz
          · simp only [Instr.lookup, hm1, hk', Sem.run_bind, Sem.run_pure, run_underlying hund, Result.andThen_ok, run_getMap hm2, hchk, hres]
            rcases hb with ⟨i, rfl, rfl⟩ | ⟨rfl, rfl, rfl⟩
            · cases ok <;> rfl
            · rcases hz with hz | hz
              · simp only [Sem.run_bind, hz, Result.andThen_ok, Sem.run_pure]
                cases ok <;> rfl
              · exact absurd rfl hz
        split at hf
        · cases hf
        · rename_i i q hq
          obtain ⟨res', hrun, hfound⟩ := findKey_S hg hkk w hl hq
          cases res' with
          | none => exact hfound.elim
          | some p =>
            obtain ⟨j', v'⟩ := p
            obtain ⟨_, _, _, e', _, _, hent, rfl⟩ := hfound
            refine ⟨_, _, hf, fin (z := undef) hrun (.inr (by simp)) (.inl ⟨_, rfl, rfl⟩), ?_⟩
            unfold okV; rw [ifB_eq, ifB_eq]
            split
            · exact .tuple _ _ (.cons _ _ _ _ hent.2.1 (.cons _ _ _ _ (.bool _) .nil))
            · exact hent.2.1
        · rename_i hq
          obtain ⟨res', hrun, hfound⟩ := findKey_S hg hkk w hl hq
          cases res' with
          | some p => exact hfound.elim
          | none =>
            split at hf
            · cases hf
            · rename_i z hz
              obtain ⟨zi, hzi, hzz, hzg⟩ := hE.zero hz
              have hzrun : (zeroValue e).run E.P w = .ok z w := by simp [zeroValue, typeInfo, hzi, hzz]
              refine ⟨_, _, hf, fin hrun (.inl hzrun) (.inr ⟨rfl, rfl, rfl⟩), ?_⟩
              unfold okV; rw [ifB_eq]
              split
              · exact .tuple _ _ (.cons _ _ _ _ (.of_gnd hzg) (.cons _ _ _ _ (.bool _) .nil))
              · exact .of_gnd hzg
      · cases hf
end
end Go.Am

namespace Go.Am

theorem modify_toList (a : Array MapEntry) (i : Nat) (f : MapEntry → MapEntry) {e : MapEntry} (h : a.toList[i]? = some e) : (a.modify i f).toList = a.toList.set i (f e) := by
  rw [Array.toList_modify]
  apply List.ext_getElem?
  intro j
  rw [List.getElem?_modify, List.getElem?_set]
  split
  · subst_vars
    rw [h]
    have := (List.getElem?_eq_some_iff.1 h).1
    rw [Array.length_toList] at this
    simp [this]
  · simp
section
variable {E : Env} {β : Type} (hE : EnvOk E)
include hE
omit hE in
theorem run_keyThatStays {P : Program} {w : World} {a b : Value} (h : Instr.sameBits 10000 a b = true) : (Instr.keyThatStays a b).run P w = .ok b w := by
  unfold Instr.keyThatStays
  rw [if_pos h]; rfl
theorem mapUpdate_run {M : Loc} {S : AS} {w : World} (hR : Rel M S w) {t : TypeId} {m k v m' k' v' : Value} (hm : VR M m m') (hk : VR M k k') (hv : VR M v v') {kk : AS → Option β} {r : β}
    (h : aMapUpdate E t S m k v kk = some r) : ∃ S' w', kk S' = some r ∧ (Instr.mapUpdate t m' k' v').run E.P w = .ok () w' ∧ Step M S w M S' w' := by
  unfold aMapUpdate at h
  split at h
  · rename_i kt e rr hke
    have hund := hE.und (mapKE_some hke)
    obtain ⟨c, n, hM, hp⟩ := hm.map_inv
    split at h
    · rename_i es clock hmo
      have hget := mapOf_some hmo
      obtain ⟨es', hc, hl⟩ := hR.map hget hM
      rw [ifB_eq] at h
      split at h
      · rename_i hok
        obtain ⟨hg, hkk, hchk⟩ := keyOk_S hE hok
        have hk' := hk.gnd_eq hg
        split at h
        · cases h
        · rename_i hq
          obtain ⟨res', hrun, hfound⟩ := findKey_S hg hkk w hl hq
          cases res' with
          | some p => exact hfound.elim
          | none =>
            rw [appK_eq, AS.put_eq] at h
            have hobj : ObjR M S.fams rr n (.map (es ++ [⟨k, v, clock⟩]) (clock + 1)) (.map (es'.push ⟨k', v', clock⟩) (clock + 1)) := by
              refine .map _ _ _ ?_
              rw [Array.toList_push]
              exact hl.append (.cons _ _ _ _ ⟨hk, hv, rfl⟩ .nil)
            refine ⟨_, _, h, ?_, hR.put hget hM trivial trivial hobj⟩
            simp only [Instr.mapUpdate, hp, Sem.run_bind, run_underlying hund, Result.andThen_ok, run_getMap hc, hk', hchk, hrun, run_setMap hc]
        · rename_i i e hq
          obtain ⟨res', hrun, hfound⟩ := findKey_S hg hkk w hl hq
          cases res' with
          | none => exact hfound.elim
          | some p =>
            obtain ⟨j', v1⟩ := p
            obtain ⟨rfl, _, hge, e', hi, hi', hent, rfl⟩ := hfound
            simp only [Nat.sub_zero] at hi hi'
            rw [ifB_eq] at h
            split at h
            · rename_i hsb
              rw [setAtK_eq, AS.put_eq] at h
              have hek := hent.1.gnd_eq hge
              have hobj : ObjR M S.fams rr n (.map (es.set j' ⟨k, v, e.born⟩) clock) (.map (es'.modify j' fun e => { e with key := k', val := v' }) clock) := by
                refine .map _ _ _ ?_
                rw [modify_toList _ _ _ hi']
                exact hl.set _ ⟨hk, hv, hent.2.2⟩
              refine ⟨_, _, h, ?_, hR.put hget hM trivial trivial hobj⟩
              have h0 : es'[j']? = some e' := by simpa using hi'
              simp only [Instr.mapUpdate, hp, Sem.run_bind, run_underlying hund, Result.andThen_ok, run_getMap hc, hk', hchk, hrun, h0, Option.map_some, Option.getD_some, hek, run_keyThatStays hsb, run_setMap hc]
            · cases h
      · cases h
    · cases h
  · cases h
theorem mapUpdate_S (t : TypeId) (m k x : Operand) : OpS E (mapUpdateW (β := β) E t m k x).f (.mapUpdate t m k x) := by
  intro tm S kk r hf M w ρ hR hρ o ho
  have hm := hρ m (by simp [Op.operands])
  have hk := hρ k (by simp [Op.operands])
  have hx := hρ x (by simp [Op.operands])
  unfold mapUpdateW at hf
  rw [un3_f] at hf
  obtain ⟨S', w', h1, h2, h3⟩ := mapUpdate_run hE hR hm hk hx hf
  refine ⟨_, _, h1, ⟨.skip, undef, w', M, ?_, .skip, h3, .tuple _ _ .nil⟩⟩
  unfold execOp; rw [ho]
  simp [h2]
theorem insert_S (t : TypeId) (m k x : Operand) : OpS E (mapUpdateW (β := β) E t m k x).f (.insert t m k x) := by
  intro tm S kk r hf M w ρ hR hρ o ho
  have hm := hρ m (by simp [Op.operands])
  have hk := hρ k (by simp [Op.operands])
  have hx := hρ x (by simp [Op.operands])
  unfold mapUpdateW at hf
  rw [un3_f] at hf
  obtain ⟨S', w', h1, h2, h3⟩ := mapUpdate_run hE hR hm hk hx hf
  refine ⟨_, _, h1, ⟨.skip, undef, w', M, ?_, .skip, h3, .tuple _ _ .nil⟩⟩
  unfold execOp; rw [ho]
  simp [h2]
theorem EnvOk.run_zero {t : TypeId} {z : Value} (h : zeroOf E t = some z) (w : World) : (zeroValue t).run E.P w = .ok z w := by
  obtain ⟨zi, hzi, hzz, hzg⟩ := hE.zero h
  simp [zeroValue, typeInfo, hzi, hzz]
theorem EnvOk.zero_gnd {t : TypeId} {z : Value} (h : zeroOf E t = some z) : gnd z = true := by
  obtain ⟨zi, hzi, hzz, hzg⟩ := hE.zero h; exact hzg
theorem mapEntry_S (t : TypeId) (m k : Operand) : OpS E (mapEntryW (β := β) E t m k).f (.mapEntry t m k) := by
  intro tm S kk r h M w ρ hR hρ o ho
  have hm := hρ m (by simp [Op.operands])
  have hk := hρ k (by simp [Op.operands])
  unfold mapEntryW at h
  rw [un2_f] at h
  have fin : ∀ {v' : Value} {w' : World}, (Instr.mapEntry t (ρ m) (ρ k)).run E.P w = .ok v' w' → (execOp ρ o).run E.P w = .ok (.value v') w' := by
    intro v' w' h
    unfold execOp; rw [ho]; simp [h]
  generalize evA E.ng tm m = am at *
  generalize evA E.ng tm k = ak at *
  generalize ρ m = m' at *
  generalize ρ k = k' at *
  unfold aMapEntry at h
  split at h
  · rename_i kt e rr hke
    have hund := hE.und (mapKE_some hke)
    obtain ⟨c, n, hM, hp⟩ := hm.map_inv
    split at h
    · rename_i es clock hmo
      have hget := mapOf_some hmo
      obtain ⟨es', hc, hl⟩ := hR.map hget hM
      rw [ifB_eq] at h
      split at h
      · rename_i hok
        obtain ⟨hg, hkk, hchk⟩ := keyOk_S hE hok
        have hk' := hk.gnd_eq hg
        split at h
        · cases h
        · rename_i hq
          obtain ⟨res', hrun, hfound⟩ := findKey_S hg hkk w hl hq
          cases res' with
          | some p => exact hfound.elim
          | none =>
            split at h
            · cases h
            · rename_i z hz
              rw [appK_eq, AS.put_eq] at h
              have hzg := hE.zero_gnd hz
              have hobj : ObjR M S.fams rr n (.map (es ++ [⟨ak, z, clock⟩]) (clock + 1)) (.map (es'.push ⟨k', z, clock⟩) (clock + 1)) := by
                refine .map _ _ _ ?_
                rw [Array.toList_push]
                exact hl.append (.cons _ _ _ _ ⟨hk, .of_gnd hzg, rfl⟩ .nil)
              refine ⟨_, _, h, ⟨_, .tuple #[z, goInt clock], _, _, fin ?_, .value _, hR.put hget hM trivial trivial hobj, .tuple _ _ (.cons _ _ _ _ (.of_gnd hzg) (.cons _ _ _ _ (.int _ _) .nil))⟩⟩
              simp only [Instr.mapEntry, hp, Sem.run_bind, run_underlying hund, Result.andThen_ok, run_getMap hc, hk', hchk, hrun, run_setMap hc, hE.run_zero hz, Sem.run_pure]
        · rename_i i e hq
          obtain ⟨res', hrun, hfound⟩ := findKey_S hg hkk w hl hq
          cases res' with
          | none => exact hfound.elim
          | some p =>
            obtain ⟨j', v1⟩ := p
            obtain ⟨rfl, _, hge, e', hi, hi', hent, rfl⟩ := hfound
            simp only [Nat.sub_zero] at hi hi'
            rw [ifB_eq] at h
            split at h
            · rename_i hsb
              rw [setAtK_eq, AS.put_eq] at h
              have hek := hent.1.gnd_eq hge
              have hobj : ObjR M S.fams rr n (.map (es.set j' ⟨ak, e.val, e.born⟩) clock) (.map (es'.modify j' fun e => { e with key := k' }) clock) := by
                refine .map _ _ _ ?_
                rw [modify_toList _ _ _ hi']
                exact hl.set _ ⟨hk, hent.2.1, hent.2.2⟩
              have h0 : es'[j']? = some e' := by simpa using hi'
              refine ⟨_, _, h, ⟨_, .tuple #[e'.val, goInt e'.born], _, _, fin ?_, .value _, hR.put hget hM trivial trivial hobj, .tuple _ _ (.cons _ _ _ _ hent.2.1 (.cons _ _ _ _ ?_ .nil))⟩⟩
              · simp only [Instr.mapEntry, hp, Sem.run_bind, run_underlying hund, Result.andThen_ok, run_getMap hc, hk', hchk, hrun, h0, Option.map_some, Option.getD_some, hek, run_keyThatStays hsb, run_setMap hc, Sem.run_pure]
              · unfold goInt; rw [hent.2.2]; exact .int _ _
            · cases h
      · cases h
    · cases h
  · cases h
omit hE in
theorem findBorn_S {M : Loc} {b : Nat} : ∀ {es es' : List MapEntry}, LR (EntR M) es es' → ∀ {i j : Nat} {e : MapEntry}, findBorn b es i = some (j, e) →
    i ≤ j ∧ ∃ e', es[j - i]? = some e ∧ es'[j - i]? = some e' ∧ EntR M e e' ∧ es'.find? (·.born == b) = some e' ∧ es'.findIdx? (fun e => (e.born : Int) == (b : Int)) = some (j - i) := by
  intro es es' h
  induction h with
  | nil => intro i j e hf; simp [findBorn] at hf
  | cons a a' l m hab _ ih =>
    intro i j e hf
    simp only [findBorn, ifB_eq] at hf
    split at hf
    · rename_i hb
      cases hf
      have hb' := beq_true.1 hb
      refine ⟨Nat.le_refl _, a', by simp, by simp, hab, ?_, ?_⟩
      · simp [hab.2.2, hb']
      · simp [List.findIdx?_cons, hab.2.2, hb']
    · rename_i hb
      have hb' : a.born ≠ b := fun e => hb (beq_true.2 e)
      obtain ⟨h1, e', h2, h3, h4, h5, h6⟩ := ih hf
      refine ⟨by omega, e', ?_, ?_, h4, ?_, ?_⟩
      · rw [show j - i = (j - (i + 1)) + 1 by omega]; simpa using h2
      · rw [show j - i = (j - (i + 1)) + 1 by omega]; simpa using h3
      · simp [hab.2.2, hb', h5]
      · have hne : ¬ ((a'.born : Int) = (b : Int)) := by rw [hab.2.2]; omega
        rw [List.findIdx?_cons]
        simp only [beq_iff_eq, hne, if_false, h6]
        simp; omega
theorem entryStore_S (t : TypeId) (m s x : Operand) : OpS E (entryStoreW (β := β) E m s x).f (.entryStore t m s x) := by
  intro tm S kk r h M w ρ hR hρ o ho
  have hm := hρ m (by simp [Op.operands])
  have hs := hρ s (by simp [Op.operands])
  have hx := hρ x (by simp [Op.operands])
  unfold entryStoreW at h
  rw [un3_f] at h
  have fin : ∀ {w' : World}, (Instr.entryStore t (ρ m) (ρ s) (ρ x)).run E.P w = .ok () w' → (execOp ρ o).run E.P w = .ok .skip w' := by
    intro w' h
    unfold execOp; rw [ho]; simp [h]
  generalize evA E.ng tm m = am at *
  generalize evA E.ng tm s = as at *
  generalize evA E.ng tm x = ax at *
  generalize ρ m = m' at *
  generalize ρ s = s' at *
  generalize ρ x = x' at *
  unfold aEntryStore at h
  split at h
  · rename_i rr k b
    obtain ⟨c, n, hM, hp⟩ := hm.map_inv
    have hsv := hs.int_inv
    split at h
    · rename_i es clock hmo
      have hget := mapOf_some hmo
      obtain ⟨es', hc, hl⟩ := hR.map hget hM
      split at h
      · rename_i j e hfb
        rw [setAtK_eq, AS.put_eq] at h
        obtain ⟨_, e', hi, hi', hent, _, hidx⟩ := findBorn_S hl hfb
        simp only [Nat.sub_zero] at hi hi' hidx
        have hobj : ObjR M S.fams rr n (.map (es.set j ⟨e.key, ax, e.born⟩) clock) (.map (es'.modify j fun e => { e with val := x' }) clock) := by
          refine .map _ _ _ ?_
          rw [modify_toList _ _ _ hi']
          exact hl.set _ ⟨hent.1, hx, hent.2.2⟩
        refine ⟨_, _, h, ⟨.skip, undef, _, _, fin ?_, .skip, hR.put hget hM trivial trivial hobj, .tuple _ _ .nil⟩⟩
        have hidx' : es'.findIdx? (fun e => (e.born : Int) == Int.ofNat b) = some j := by
          have h9 := List.findIdx?_toArray (p := fun e : MapEntry => (e.born : Int) == Int.ofNat b) (l := es'.toList); rw [show es'.toList.toArray = es' from rfl] at h9; rw [h9]; exact hidx
        simp only [Instr.entryStore, hp, hsv, asInt, asIntOf, Sem.run_bind, Sem.run_pure, Result.andThen_ok, run_getMap hc, hidx', run_setMap hc]
      · cases h
    · cases h
  · cases h
theorem range_S (t : TypeId) (x : Operand) : OpS E (rangeMapW (β := β) E t x).f (.range t x) := by
  intro tm S kk r h M w ρ hR hρ o ho
  have hx := hρ x (by simp [Op.operands])
  unfold rangeMapW at h
  rw [un1_f] at h
  have fin : ∀ {v' : Value} {w' : World}, (Instr.range t (ρ x)).run E.P w = .ok v' w' → (execOp ρ o).run E.P w = .ok (.value v') w' := by
    intro v' w' h
    unfold execOp; rw [ho]; simp [h]
  generalize evA E.ng tm x = ax at *
  generalize ρ x = x' at *
  unfold aRange at h
  split at h
  · rename_i p hp
    obtain ⟨k, e⟩ := p
    have hund := hE.und (mapKE_some hp)
    have hxx := hx.map0_inv
    rw [AS.alloc_eq] at h
    have hobj : ObjR (M.add S.next w.heap.size 0) S.fams S.next 0 (.iter none 0 [] 0) (.mapIter none 0 #[] 0) := .iter0 _ _ _ _ rfl
    refine ⟨_, _, h, ⟨_, .pointer (some ⟨w.heap.size, 0, none⟩), _, _, fin ?_, .value _, hR.alloc trivial hobj, .ptr _ _ _ _ (Loc.add_self _ _ _ _)⟩⟩
    simp [Instr.range, run_underlying hund, hxx]
  · rename_i p m hp
    obtain ⟨k, e⟩ := p
    have hund := hE.und (mapKE_some hp)
    obtain ⟨c, n, hM, hxx⟩ := hx.map_inv
    split at h
    · rename_i es clock hmo
      have hget := mapOf_some hmo
      obtain ⟨es', hc, hl⟩ := hR.map hget hM
      rw [AS.alloc_eq] at h
      have hobj : ObjR (M.add S.next w.heap.size 0) S.fams S.next 0 (.iter (some m) clock [] clock) (.mapIter (some c) clock #[] clock) := .iter _ _ _ _ _ _ _ (Loc.le_add hR.fresh _ _ hM) rfl
      refine ⟨_, _, h, ⟨_, .pointer (some ⟨w.heap.size, 0, none⟩), _, _, fin ?_, .value _, hR.alloc trivial hobj, .ptr _ _ _ _ (Loc.add_self _ _ _ _)⟩⟩
      simp [Instr.range, run_underlying hund, hxx, run_getMap hc]
    · cases h
  · cases h
theorem entry_P (it : Operand) : OpP E (entryW (β := β) E it).f (.entry it) := fun tm S kk r h M w ρ hR hρ o ho => by
  have hx := hρ it (by simp [Op.operands])
  unfold entryW at h
  rw [un1_f] at h
  have fin : ∀ {v' : Value} {w' : World}, (Instr.entry (ρ it)).run E.P w = .ok v' w' → (execOp ρ o).run E.P w = .ok (.value v') w' := by
    intro v' w' h
    unfold execOp; rw [ho]; simp [h]
  generalize evA E.ng tm it = ax at *
  generalize ρ it = x' at *
  unfold aEntry at h
  split at h
  · rename_i r0
    obtain ⟨_, c, n, hM, hp⟩ := hx.ptr_inv
    split at h
    · rename_i m since s seen stepped hit
      obtain ⟨p, hcp, ho⟩ := hR.obj r0 _ c n hit hM
      cases ho with
      | iter _ cm nm _ _ _ seen' hMm hseen =>
        split at h
        · rename_i es clock hmo
          have hget := mapOf_some hmo
          obtain ⟨es', hc, hl⟩ := hR.map hget hMm
          rw [ifB_eq] at h
          split at h
          · rename_i hclk
            have hclk' := beq_true.1 hclk
            split at h
            · rename_i j e hfb
              obtain ⟨_, e', hi, hi', hent, hfind, _⟩ := findBorn_S hl hfb
              refine ⟨_, _, h, fin (v' := .tuple #[e'.key, e'.val]) ?_, .tuple _ _ (.cons _ _ _ _ hent.1 (.cons _ _ _ _ hent.2.1 .nil))⟩
              have hback : seen'.back? = some s := by
                rw [Array.back?_eq_getElem?, ← Array.getElem?_toList]
                have : seen'.toList = (s :: seen).reverse := by rw [← hseen, List.reverse_reverse]
                rw [← Array.length_toList, this]
                simp
              have hf2 : es'.find? (·.born == s) = some e' := by rw [← Array.find?_toList]; exact hfind
              have hg : (getObj c).run E.P w = .ok (.mapIter (some cm) since seen' stepped) w := by simp [getObj, Sem.run, hcp]
              have hne : (clock != stepped) = false := by simp [hclk']
              simp only [Instr.entry, hp, Sem.run_bind, hg, Result.andThen_ok, hback, run_getMap hc, hne, Bool.false_eq_true, if_false, hf2, Sem.run_pure]
            · cases h
          · cases h
        · cases h
    · cases h
  · cases h
theorem makeMap_S (t : TypeId) (rs : Option Operand) : OpS E (makeMapW (β := β) rs).f (.makeMap t rs) := by
  intro tm S kk r h M w ρ hR hρ o ho
  unfold makeMapW at h
  split at h
  · simp only [AS.alloc_eq] at h
    have hobj : ObjR (M.add S.next w.heap.size 0) S.fams S.next 0 (.map [] 0) (.map #[] 0) := .map _ _ _ .nil
    refine ⟨_, _, h, ⟨_, .map (some w.heap.size), _, _, ?_, .value _, hR.alloc trivial hobj, .map _ _ _ (Loc.add_self _ _ _ _)⟩⟩
    unfold execOp; rw [ho]
    simp [Instr.makeMap]
  · cases h
theorem assert_P (x : Operand) (xt t : TypeId) (ok : Bool) : OpP E (assertW (β := β) E t ok x).f (.typeAssert x xt t ok) := fun tm S kk r h M w ρ hR hρ o ho => by
  have hx := hρ x (by simp [Op.operands])
  unfold assertW at h
  rw [un1_f] at h
  have fin : ∀ {v' : Value} {w' : World}, (Instr.typeAssert (ρ x) xt t ok).run E.P w = .ok v' w' → (execOp ρ o).run E.P w = .ok (.value v') w' := by
    intro v' w' h
    unfold execOp; rw [ho]; simp [h]
  generalize evA E.ng tm x = ax at *
  generalize ρ x = x' at *
  unfold aAssert at h
  split at h
  · rename_i u v
    obtain ⟨v', hv, hp⟩ := hx.iface_inv
    split at h
    · rename_i hi
      have hund : ∃ d, E.und t = some d ∧ ∀ ms, d ≠ .interface ms := by
        unfold isIfaceT at hi
        split at hi
        · cases hi
        · rename_i d hnot hd; exact ⟨d, hd, fun ms e => hnot ms e⟩
        · cases hi
      obtain ⟨d, hd, hnot⟩ := hund
      have key : (Instr.typeAssert x' xt t ok).run E.P w = (if u = t then (pure (if ok then .tuple #[v', .bool true] else v') : Sem Value) else
          (if ok then do pure (.tuple #[← zeroValue t, .bool false]) else runtimePanic (.typeAssertion (some xt) (some u) t ""))).run E.P w := by
        rw [hp]
        unfold Instr.typeAssert
        simp only [Sem.run_bind, run_underlying (hE.und hd), Result.andThen_ok]
      rw [ifB_eq] at h
      split at h
      · rename_i hut
        have := beq_true.1 hut
        subst this
        refine ⟨_, okV ok v' true, h, fin (by rw [key, if_pos rfl]; cases ok <;> simp [okV, ifB]), ?_⟩
        unfold okV; rw [ifB_eq, ifB_eq]
        split
        · exact .tuple _ _ (.cons _ _ _ _ hv (.cons _ _ _ _ (.bool _) .nil))
        · exact hv
      · rename_i hut
        have hne : u ≠ t := fun e => hut (beq_true.2 e)
        rw [ifB_eq] at h
        split at h
        · rename_i hok
          subst hok
          split at h
          · rename_i z hz
            refine ⟨_, okV true z false, h, fin (by rw [key, if_neg hne, if_pos rfl]; simp [hE.run_zero hz]; rfl), ?_⟩
            exact .tuple _ _ (.cons _ _ _ _ (.of_gnd (hE.zero_gnd hz)) (.cons _ _ _ _ (.bool _) .nil))
          · cases h
        · cases h
    · cases h
  · cases h
end
end Go.Am

namespace Go.Am

/-! ## literals -/
theorem fold_setL (l : List Value) : ∀ (cs : Array Value) (off k : Nat), (l.zipIdx k).foldl (fun cs (c, j) => cs.setIfInBounds (off + j) c) cs = setL cs (off + k) l := by
  induction l with
  | nil => intro cs off k; rfl
  | cons v l ih =>
    intro cs off k
    simp only [List.zipIdx_cons, List.foldl_cons, setL]
    rw [ih]; rfl
theorem fold_setA (a cs : Array Value) (off : Nat) : a.zipIdx.foldl (fun cs (c, j) => cs.setIfInBounds (off + j) c) cs = setL cs off a.toList := by
  rw [← Array.foldl_toList, Array.toList_zipIdx]
  exact fold_setL _ _ _ _
theorem readAllK_some {β : Type} {t : PT Value} : ∀ {n off : Nat} {k : List Value → Option β} {r : β}, readAllK t off n k = some r → ∃ l, k l = some r ∧ l.length = n ∧ ∀ (j : Nat) (v : Value), l[j]? = some v → t.get (off + j) = some v
  | 0, off, k, r, h => ⟨[], h, rfl, fun j v hj => by simp at hj⟩
  | n + 1, off, k, r, h => by
    simp only [readAllK] at h
    split at h
    · cases h
    · rename_i v hv
      obtain ⟨l, h1, h2, h3⟩ := readAllK_some h
      refine ⟨v :: l, h1, by simp [h2], fun j u hj => ?_⟩
      cases j with
      | zero => simp at hj; subst hj; exact hv
      | succ j => simp at hj; have := h3 j u hj; rw [← this]; congr 1; omega
theorem repl_length (z : List Value) (n : Nat) : (repl z n).length = n * z.length := by
  induction n with
  | zero => simp [repl]
  | succ n ih => simp only [repl, List.length_append, ih]; rw [Nat.add_mul]; omega
theorem repl_get (z : List Value) (n i : Nat) (h : i < n * z.length) : (repl z n)[i]? = z[i % z.length]? := by
  induction n generalizing i with
  | zero => omega
  | succ n ih =>
    simp only [repl]
    rcases Nat.lt_or_ge i z.length with hi | hi
    · rw [List.getElem?_append_left hi, Nat.mod_eq_of_lt hi]
    · rw [List.getElem?_append_right hi, ih _ (by rw [Nat.add_mul] at h; omega), ← Nat.mod_eq_sub_mod hi]
theorem repl_rows (z : Array Value) (n : Nat) (hz : 1 ≤ z.size) : ((Array.range (n * z.size)).map (z[· % z.size]!)).toList = repl z.toList n := by
  apply List.ext_getElem?
  intro i
  rcases Nat.lt_or_ge i (n * z.size) with hi | hi
  · rw [repl_get _ _ _ (by rw [Array.length_toList]; exact hi), Array.length_toList]
    have hm : i % z.size < z.size := Nat.mod_lt _ hz
    simp [hi, hm]
  · rw [List.getElem?_eq_none (by simp; exact hi), List.getElem?_eq_none (by rw [repl_length, Array.length_toList]; exact hi)]
theorem VRL.repl {M : Loc} {z z' : List Value} (h : VRL M z z') (n : Nat) : VRL M (repl z n) (Go.Am.repl z' n) := by
  induction n with
  | zero => exact .nil
  | succ n ih => exact h.append ih
theorem mem_repl {z : List Value} {n : Nat} {x : Value} (h : x ∈ repl z n) : x ∈ z := by
  induction n with
  | zero => cases h
  | succ n ih =>
    rcases List.mem_append.1 h with h | h
    · exact h
    · exact ih h

section
variable {E : Env} {β : Type} (hE : EnvOk E)
include hE
omit hE in
/-- the parts of a literal, put in their places -/
theorem fill_S {place : Nat → Option (Nat × Nat)} {n : Nat} {place' : Nat → Option (Nat × Nat)} (hpl : ∀ i p, place i = some p → place' i = some p) {M : Loc} {tm : PT Value} {ρ : Operand → Value} :
    ∀ {parts : List (Nat × Operand)} {t : PT Value} {cs : Array Value} {k : PT Value → Option β} {r : β}, (∀ p ∈ parts, VR M (evA E.ng tm p.2) (ρ p.2)) → Fits M t n cs → cs.size = n →
    (fillW E place n parts).f tm t k = some r → ∃ t' cs', k t' = some r ∧ Instr.fill place' cs (parts.map fun p => (p.1, ρ p.2)) = some cs' ∧ Fits M t' n cs' ∧ cs'.size = n
  | [], t, cs, k, r, _, hfit, hs, h => ⟨t, cs, h, rfl, hfit, hs⟩
  | (i, x) :: l, t, cs, k, r, hp, hfit, hs, h => by
    unfold fillW at h
    split at h
    · cases h
    · rename_i off size hpi
      split at h
      · cases h
      · rename_i hle
        have hle' : off + size ≤ n := ble_true.1 hle
        have h' : ((match cellsO (evA E.ng tm x) with | some c => ifB (Nat.beq c.length size) (writeK t off c fun t => (fillW E place n l).f tm t k) none | none => none) : Option β) = some r := by
          have := evW_eq (β := Option β) E.ng x tm (fun v => (match cellsO v with | some c => ifB (Nat.beq c.length size) (writeK t off c fun t => (fillW E place n l).f tm t k) none | none => none))
          rw [← this, ← h]; rfl
        clear h
        split at h'
        · rename_i c hc
          rw [ifB_eq] at h'
          split at h'
          · rename_i hlen
            rw [writeK_to] at h'
            have hx : VR M (evA E.ng tm x) (ρ x) := hp (i, x) (by simp)
            obtain ⟨hv, h1⟩ := hx.cells hc
            have hlen' := beq_true.1 hlen
            have hl2 := hv.length
            have hsz : (ρ x).cells.size = size := by rw [← Array.length_toList]; omega
            obtain ⟨t', cs', g1, g2, g3, g4⟩ := fill_S hpl (fun p hpp => hp p (by simp [hpp])) (hfit.write hv h1 (by rw [Array.length_toList]; omega)) (by rw [setL_size]; exact hs) h'
            refine ⟨t', cs', g1, ?_, g3, g4⟩
            simp only [List.map_cons, Instr.fill, hpl _ _ hpi]
            have hcond : ((ρ x).cells.size ≠ size || off + (ρ x).cells.size > cs.size) = false := by simp [hsz]; omega
            rw [if_neg (by simpa using hcond), fold_setA]
            exact g2
          · cases h'
        · cases h'

theorem knows_S {l : List Field} (h : knowsAll E l = true) : ∀ f ∈ l, ∃ i, E.P.info? f.type = some i ∧ i.size = E.cells f.type := by
  induction l with
  | nil => intro f hf; cases hf
  | cons a l ih =>
    intro f hf
    simp only [knowsAll] at h
    split at h
    · rename_i i hi
      rcases List.mem_cons.1 hf with rfl | hf
      · exact ⟨i, hE.ty _ _ hi, by simp [Env.cells, hi]⟩
      · exact ih h f hf
    · cases h
theorem places_S {l : List Field} (h : knowsAll E l = true) (w : World) : (l.mapM fun f => (do Pure.pure (f.offset, ← sizeOf f.type) : Sem (Nat × Nat))).run E.P w = .ok (l.map fun f => (f.offset, E.cells f.type)) w := by
  induction l with
  | nil => simp [Sem.run_pure]
  | cons a l ih =>
    obtain ⟨i, hi, his⟩ := knows_S hE h a (by simp)
    have hl : knowsAll E l = true := by
      simp only [knowsAll] at h
      split at h
      · exact h
      · cases h
    have : (sizeOf a.type).run E.P w = .ok (E.cells a.type) w := by simp [sizeOf, typeInfo, hi, his]
    simp only [List.mapM_cons, Sem.run_bind, this, Result.andThen_ok, Sem.run_pure, ih hl, List.map_cons]
omit hE in
theorem parts_map {parts : Array (Nat × Operand)} {ρ : Operand → Value} : (parts.map fun (i, x) => (i, ρ x)).toList = parts.toList.map fun p => (p.1, ρ p.2) := by
  rw [Array.toList_map]
theorem build_P (t : TypeId) (parts : Array (Nat × Operand)) : OpP E (buildW (β := β) E t parts.toList).f (.build t parts) := fun tm S kk r h M w ρ hR hρ o ho => by
  unfold buildW at h
  split at h
  · cases h
  · cases h
  · rename_i z hz hok
    obtain ⟨zi, zv, hzi, hzz, hzg, hc, heq, hv, h1⟩ := zero_cells hE hz
    rw [fromList_eq] at h
    have h' : ((fillW (β := β) E (placeOf E t) z.length parts.toList).f tm (PT.lf.write 0 z) fun tr => readAllK tr 0 z.length fun l => kk (.agg l.toArray) S) = some r := h
    clear h
    have hp : ∀ p ∈ parts.toList, VR M (evA E.ng tm p.2) (ρ p.2) := fun p hp => hρ p.2 (by simp [Op.operands]; exact ⟨p.1, by simpa using hp⟩)
    have hsz : zv.cells.size = z.length := by rw [← heq, Array.length_toList]
    have hfit : Fits M (PT.lf.write 0 z) z.length zv.cells := by
      have := Fits.new (hv M) h1
      rwa [← heq] at this ⊢
    have hzrun : (zeroValue t).run E.P w = .ok zv w := by simp [zeroValue, typeInfo, hzi, hzz]
    have key : ∃ place', (∀ i p, placeOf E t i = some p → place' i = some p) ∧ ∀ cs', Instr.fill place' zv.cells (parts.toList.map fun p => (p.1, ρ p.2)) = some cs' → (Instr.build t (parts.map fun (i, x) => (i, ρ x))).run E.P w = .ok (.agg cs') w := by
      unfold buildOk at hok
      split at hok
      · rename_i fs hd
        refine ⟨fun i => (fs.map fun f => (f.offset, E.cells f.type))[i]?, ?_, ?_⟩
        · intro i p hpl
          unfold placeOf at hpl
          rw [hd] at hpl
          simp only at hpl
          split at hpl
          · rename_i f hf
            rw [ifB_eq] at hpl
            split at hpl
            · cases hpl
            · cases hpl; simp [hf]
          · cases hpl
        · intro cs' hfill
          unfold Instr.build
          simp only [Sem.run_bind, hzrun, Result.andThen_ok, run_underlying (hE.und hd)]
          have hpls := places_S hE hok w
          have hm : fs.mapM (fun f => (do Pure.pure (f.offset, ← sizeOf f.type) : Sem (Nat × Nat))) = List.toArray <$> fs.toList.mapM (fun f => (do Pure.pure (f.offset, ← sizeOf f.type) : Sem (Nat × Nat))) := by
            rw [Array.mapM_eq_mapM_toList]
          rw [hm]
          simp only [map_eq_pure_bind, Sem.run_bind, hpls, Result.andThen_ok, Sem.run_pure]
          have hpe : (List.map (fun f => (f.offset, E.cells f.type)) fs.toList).toArray = fs.map fun f => (f.offset, E.cells f.type) := by
            apply Array.toList_inj.1; simp
          rw [hpe, parts_map, hfill]
          rfl
      · rename_i n e hd
        refine ⟨fun i => some (i * E.cells e, E.cells e), ?_, ?_⟩
        · intro i p hpl
          unfold placeOf at hpl
          rw [hd] at hpl
          simp only [ifB_eq] at hpl
          split at hpl
          · cases hpl
          · exact hpl
        · intro cs' hfill
          have hse : (sizeOf e).run E.P w = .ok (E.cells e) w := by
            split at hok
            · rename_i i hi; simp [sizeOf, typeInfo, hE.ty _ _ hi, Env.cells, hi]
            · cases hok
          unfold Instr.build
          simp only [Sem.run_bind, hzrun, Result.andThen_ok, run_underlying (hE.und hd), hse, parts_map, hfill]
          rfl
      · cases hok
    obtain ⟨place', hpl, hrun⟩ := key
    obtain ⟨t', cs', g1, g2, g3, g4⟩ := fill_S hpl hp hfit hsz h'
    obtain ⟨l, hk, hlen, hget⟩ := readAllK_some g1
    refine ⟨_, .agg cs', hk, ?_, .agg _ _ ?_ ?_⟩
    · unfold execOp; rw [ho]
      simp only [Sem.run_bind, hrun cs' g2, Result.andThen_ok, Sem.run_pure]
    · apply VRL.of_get (by simp [hlen, g4])
      intro i v u hv hu
      have hi : i < z.length := by
        have := (List.getElem?_eq_some_iff.1 hv).1
        simp at this; omega
      have h2 := hget i v (by simpa using hv)
      rw [Nat.zero_add] at h2
      obtain ⟨u', hu', hr, _⟩ := g3 i v hi h2
      rw [Array.getElem?_toList] at hu
      rw [hu] at hu'; cases hu'; exact hr
    · intro x hx
      obtain ⟨i, hi⟩ := List.getElem?_of_mem hx
      have hil : i < z.length := by
        have := (List.getElem?_eq_some_iff.1 hi).1
        simp at this; omega
      have hl : ∃ v, l[i]? = some v := by
        rw [List.getElem?_eq_getElem (by omega)]; exact ⟨_, rfl⟩
      obtain ⟨v, hv⟩ := hl
      have h2 := hget i v hv
      rw [Nat.zero_add] at h2
      obtain ⟨u', hu', _, ho⟩ := g3 i v hil h2
      rw [Array.getElem?_toList] at hi
      rw [hi] at hu'; cases hu'; exact ho
end
end Go.Am

namespace Go.Am
section
variable {E : Env} {β : Type} (hE : EnvOk E)
include hE
omit hE in
theorem elemOf_some {t e : TypeId} (h : elemOfSlice E t = some e) : E.und t = some (.slice e) := by
  unfold elemOfSlice at h
  split at h
  · cases h; assumption
  · cases h
theorem buildSlice_S (t : TypeId) (len : Nat) (parts : Array (Nat × Operand)) : OpS E (buildSliceW (β := β) E t len parts.toList).f (.buildSlice t len parts) := by
  intro tm S kk r h M w ρ hR hρ o ho
  unfold buildSliceW at h
  split at h
  · cases h
  · rename_i e he
    have hund := hE.und (elemOf_some he)
    split at h
    · rename_i z hz hle
      split at h
      · cases h
      · rename_i hzl
        simp only [Bool.and_eq_true, beq_true, ble_true] at hzl
        obtain ⟨zi, zv, hzi, hzz, hzg, hc, heq, hv, h1⟩ := zero_cells hE hz
        rw [fromList_eq] at h
        have h' : ((fillW (β := β) E (slotOf (E.cells e)) (repl z len).length parts.toList).f tm (PT.lf.write 0 (repl z len)) fun tr => S.alloc (.cells tr (repl z len).length e 0) fun b S => kk (.slice (some ⟨b, 0, none⟩) len (E.cells e)) S) = some r := h
        clear h
        have hp : ∀ p ∈ parts.toList, VR M (evA E.ng tm p.2) (ρ p.2) := fun p hp => hρ p.2 (by simp [Op.operands]; exact ⟨p.1, by simpa using hp⟩)
        have hzs : zv.cells.size = E.cells e := by rw [← Array.length_toList, heq]; exact hzl.1
        have hz1 : E.cells e ≠ 0 := by omega
        have hrows : ((Array.range (len * E.cells e)).map (zv.cells[· % zv.cells.size]!)).toList = repl z len := by
          have := repl_rows zv.cells len (by omega)
          rw [heq] at this
          rw [← this, hzs]
        have hlen : (repl z len).length = len * E.cells e := by rw [repl_length, hzl.1]
        have hfit : Fits M (PT.lf.write 0 (repl z len)) (repl z len).length ((Array.range (len * E.cells e)).map (zv.cells[· % zv.cells.size]!)) := by
          have := Fits.new (M := M) ((hv M).repl len) (fun x hx => h1 x (mem_repl hx))
          rw [← hrows] at this
          rw [← hrows]
          exact this
        obtain ⟨t', cs', g1, g2, g3, g4⟩ := fill_S (place' := fun i => some (i * E.cells e, E.cells e)) (fun i p hpl => hpl) hp hfit (by rw [← Array.length_toList, hrows]) h'
        rw [AS.alloc_eq] at g1
        have hst := hR.alloc (o := .cells t' (repl z len).length e 0) (p := .cells cs' e (0, 0)) (n := (repl z len).length) trivial (.cells0 _ _ _ 0 0 g4 rfl (g3.mono (Loc.le_add hR.fresh)))
        refine ⟨_, _, g1, ⟨_, .slice (some ⟨w.heap.size, 0, none⟩) len len, _, _, ?_, .value _, hst, .slice _ _ _ _ _ _ _ _ (Loc.add_self _ _ _ _) (Nat.le_refl _) (by rw [hlen]; omega) (.inl rfl)⟩⟩
        have hle' : len * E.cells e ≤ 100000 := ble_true.1 hle
        have hzrun : (zeroValue e).run E.P w = .ok zv w := by simp [zeroValue, typeInfo, hzi, hzz]
        unfold execOp; rw [ho]
        have hgt : ¬ (len * E.cells e > 2 ^ 24) := by omega
        simp only [Instr.buildSlice, Sem.run_bind, run_underlying hund, Result.andThen_ok, hE.size hz1 w, if_neg hgt]
        by_cases h0 : len * E.cells e = 0
        · have hl0 : len = 0 := by
            rcases Nat.mul_eq_zero.1 h0 with h | h
            · exact h
            · omega
          subst hl0
          have hr0 : ∀ q : Array Value, (Array.range (0 * E.cells e)).map (fun i => q[i % q.size]!) = #[] := by intro q; simp
          rw [hr0] at g2
          rw [if_pos h0]
          simp only [Sem.run_pure, Result.andThen_ok, hr0, parts_map, g2, newRow, Sem.run_bind, run_newObj]
        · rw [if_neg h0]
          simp only [Sem.run_bind, hzrun, Sem.run_pure, Result.andThen_ok, parts_map, g2, newRow, run_newObj]
    · cases h
theorem makeSlice_S (t : TypeId) (l c : Operand) : OpS E (makeSliceW (β := β) E t l c).f (.makeSlice t l c) := by
  intro tm S kk r h M w ρ hR hρ o ho
  have hl := hρ l (by simp [Op.operands])
  have hc := hρ c (by simp [Op.operands])
  unfold makeSliceW at h
  rw [un2_f] at h
  have fin : ∀ {v' : Value} {w' : World}, (Instr.makeSlice t (ρ l) (ρ c)).run E.P w = .ok v' w' → (execOp ρ o).run E.P w = .ok (.value v') w' := by
    intro v' w' h
    unfold execOp; rw [ho]; simp [h]
  generalize evA E.ng tm l = al at *
  generalize evA E.ng tm c = ac at *
  generalize ρ l = l' at *
  generalize ρ c = c' at *
  unfold aMakeSlice at h
  split at h
  · rename_i e k1 n k2 m he
    have hund := hE.und (elemOf_some he)
    have hl' := hl.int_inv
    have hc' := hc.int_inv
    split at h
    · cases h
    · rename_i z hz
      rw [ifB_eq] at h
      split at h
      · rename_i hok
        simp only [Bool.and_eq_true, beq_true, ble_true] at hok
        obtain ⟨⟨⟨⟨hlc, hb⟩, hcells⟩, hzl⟩, hz1⟩ := hok
        obtain ⟨zi, zv, hzi, hzz, hzg, hcc, heq, hv, h1⟩ := zero_cells hE hz
        rw [fromList_eq, AS.alloc_eq] at h
        have hzs : zv.cells.size = E.cells e := by rw [← Array.length_toList, heq]; exact hzl
        have hne : E.cells e ≠ 0 := by omega
        obtain ⟨i, hi, his, hib⟩ := hE.info hne
        rw [hzi] at hi; cases hi
        have hrows : ((Array.range (m * E.cells e)).map (zv.cells[· % zv.cells.size]!)).toList = repl z m := by
          have := repl_rows zv.cells m (by omega)
          rw [heq] at this
          rw [← this, hzs]
        have hlen : (repl z m).length = m * E.cells e := by rw [repl_length, hzl]
        have hcells' : m * E.cells e ≤ 100000 := hcells
        have hm : m ≤ 100000 := by
          have : m * 1 ≤ m * E.cells e := Nat.mul_le_mul_left _ (by omega)
          omega
        have hst := hR.newCells (l := repl z m) (l' := repl z m) ((hv M).repl m) (fun x hx => h1 x (mem_repl hx)) e
        refine ⟨_, _, h, ⟨_, .slice (some ⟨w.heap.size, 0, none⟩) n m, _, _, fin ?_, .value _, hst, .slice _ _ _ _ _ _ _ _ (Loc.add_self _ _ _ _) hlc (by rw [hlen]; omega) (.inl rfl)⟩⟩
        have hzrun : (zeroValue e).run E.P w = .ok zv w := by simp [zeroValue, typeInfo, hzi, hzz]
        have hw1 : IntKind.i64.wrap (Int.ofNat n) = (n : Int) := by rw [IntKind.wrap_i64, Int.ofNat_eq_natCast]; omega
        have hw2 : IntKind.i64.wrap (Int.ofNat m) = (m : Int) := by rw [IntKind.wrap_i64, Int.ofNat_eq_natCast]; omega
        have hbb : m * E.bytes e ≤ 1000000000 := hb
        have hprod : (zi.bytes : Int) * (m : Int) ≤ 1000000000 := by
          rw [hib]
          have h3 : ((m * E.bytes e : Nat) : Int) ≤ ((1000000000 : Nat) : Int) := Int.ofNat_le.2 hbb
          rw [Int.natCast_mul] at h3
          rw [Int.mul_comm]
          exact h3
        have hp48 : (2 : Int) ^ 48 = 281474976710656 := by simp only [Int.reducePow]
        have c1 : decide ((m : Int) < 0) = false := decide_eq_false (by omega)
        have c2 : decide ((zi.bytes : Int) * (m : Int) > 2 ^ 48) = false := decide_eq_false (by rw [hp48]; omega)
        have c3 : decide ((n : Int) < 0) = false := decide_eq_false (by omega)
        have c4 : decide ((n : Int) > (m : Int)) = false := decide_eq_false (by omega)
        simp only [Instr.makeSlice, Sem.run_bind, run_underlying hund, Result.andThen_ok, hl', hc', asInt, asIntOf, Sem.run_pure, typeInfo, run_program, hzi, hw1, hw2, c1, c2, c3, c4, Bool.or_false, Bool.false_eq_true, if_false]
        simp only [run_askRoom, Result.andThen_ok, hE.size hne w, Int.toNat_natCast]
        have hrw : (repl z m).toArray = (Array.range (m * E.cells e)).map (zv.cells[· % zv.cells.size]!) := by rw [← hrows]
        by_cases h0 : m * E.cells e = 0
        · rw [if_pos h0]
          have hr0 : ∀ q : Array Value, (Array.range (m * E.cells e)).map (fun i => q[i % q.size]!) = #[] := by intro q; rw [h0]; simp
          rw [hrw]
          simp only [Sem.run_pure, Sem.run_bind, Result.andThen_ok, hr0, newRow, run_newObj]
        · rw [if_neg h0, hrw]
          simp only [Sem.run_bind, hzrun, Sem.run_pure, Result.andThen_ok, newRow, run_newObj]
      · cases h
  · cases h
end
end Go.Am

namespace Go.Am

/-! ## builtins -/
def BiS {β : Type} (E : Env) (f : BiF β) (b : Builtin) (argTypes : Array TypeId) : Prop :=
  ∀ (S : AS) (l : List Value) (kk : Value → AS → Option β) (r : β), f S l kk = some r →
    ∀ (M : Loc) (w : World) (l' : List Value), Rel M S w → VRL M l l' → ∀ (type : TypeId) (consts : Array Bool),
    ∃ v S', kk v S' = some r ∧ ∃ v' w' M', (builtin b argTypes type consts l'.toArray).run E.P w = .ok (.value v') w' ∧ Step M S w M' S' w' ∧ VR M' v v'
theorem VRL.two {M : Loc} {a b : Value} {l : List Value} (h : VRL M [a, b] l) : ∃ c d, l = [c, d] ∧ VR M a c ∧ VR M b d := by
  cases h with
  | cons _ c _ _ h1 t => cases t with
    | cons _ d _ _ h2 t => cases t; exact ⟨c, d, rfl, h1, h2⟩
theorem two_some {β : Type} {l : List Value} {f : Value → Value → Option β} {r : β} (h : two l f = some r) : ∃ a b, l = [a, b] ∧ f a b = some r := by
  unfold two at h
  split at h
  · exact ⟨_, _, rfl, h⟩
  · cases h
theorem oneV_some {β : Type} {l : List Value} {f : Value → Option β} {r : β} (h : oneV l f = some r) : ∃ a, l = [a] ∧ f a = some r := by
  unfold oneV at h
  split at h
  · exact ⟨_, rfl, h⟩
  · cases h
theorem noB_S {β : Type} (E : Env) (b : Builtin) (a : Array TypeId) : BiS (β := β) E noB.f b a := fun S l kk r h => by cases h
section
variable {E : Env} {β : Type} (hE : EnvOk E)
include hE
theorem len_S (a : Array TypeId) {t : TypeId} (ht : a[0]? = some t) : BiS (β := β) E (fun S l kk => oneV l fun x => aLen E t S x fun v => kk v S) .len a := by
  intro S l kk r h0 M w l' hR hl ty consts
  obtain ⟨x, rfl, h⟩ := oneV_some h0
  obtain ⟨y, rfl, hx⟩ := hl.single_inv
  have fin : ∀ {v' : Value}, (Builtin.len_ a ty #[y]).run E.P w = .ok v' w → (builtin .len a ty consts [y].toArray).run E.P w = .ok (.value v') w := by
    intro v' h
    simp [builtin, h]
  cases hd : E.und t with
  | none => simp [aLen, hd] at h
  | some d =>
    cases d <;> simp only [aLen, hd, reduceCtorEq] at h
    case string =>
      split at h
      · rename_i s
        rw [fN_eq] at h
        have hp := hx.string_inv
        exact ⟨_, _, h, goInt s.size, w, M, fin (by simp [Builtin.len_, ht, run_underlying (hE.und hd), hp]), Step.refl hR, .int _ _⟩
      · cases h
    case slice e =>
      split at h
      · rename_i a0 n c
        obtain ⟨a', c', hp⟩ : ∃ a' c', y = .slice a' n c' := by
          cases hx with
          | slice0 => exact ⟨_, _, rfl⟩
          | slice => exact ⟨_, _, rfl⟩
        exact ⟨_, _, h, goInt n, w, M, fin (by simp [Builtin.len_, ht, run_underlying (hE.und hd), hp]), Step.refl hR, .int _ _⟩
      · cases h
    case array n e =>
      exact ⟨_, _, h, goInt n, w, M, fin (by simp [Builtin.len_, ht, run_underlying (hE.und hd)]), Step.refl hR, .int _ _⟩
    case map k e =>
      split at h
      · rename_i es hes
        rw [fN_eq] at h
        obtain ⟨es', hl, hm⟩ := mapEs_S hE hR hx hes
        have hlen : es.length = es'.size := by rw [hl.length, Array.length_toList]
        refine ⟨_, _, h, goInt es'.size, w, M, fin ?_, Step.refl hR, by rw [hlen]; exact .int _ _⟩
        rcases hm with ⟨hp, rfl⟩ | ⟨c, clock, hp, hc⟩
        · simp [Builtin.len_, ht, run_underlying (hE.und hd), hp]
        · simp [Builtin.len_, ht, run_underlying (hE.und hd), hp, run_getMap hc]
      · cases h
omit hE in
theorem min_S (a : Array TypeId) : BiS (β := β) E (fun S l kk => two l fun a b => minmax ltI a b fun v => kk v S) .min a := by
  intro S l kk r h0 M w l' hR hl ty consts
  obtain ⟨x, y, rfl, h⟩ := two_some h0
  obtain ⟨x', y', rfl, hx, hy⟩ := hl.two
  unfold minmax at h
  split at h
  · rename_i k z j u
    have hx' := hx.int_inv
    have hy' := hy.int_inv
    rw [ifB_eq] at h
    split at h
    · rename_i hk
      have := (kindEq_iff _ _).1 hk; subst this
      rw [ltI_eq, ifB_eq] at h
      refine ⟨.int k (if u < z then u else z), S, ?_, .int k (if u < z then u else z), w, M, ?_, Step.refl hR, .int _ _⟩
      · split at h
        · rename_i hlt; rw [if_pos (of_decide_eq_true hlt)]; exact h
        · rename_i hlt; rw [if_neg (fun e => hlt (decide_eq_true e))]; exact h
      · simp [builtin, Builtin.min_, Builtin.min2, hx', hy']
    · cases h
  · cases h
omit hE in
theorem max_S (a : Array TypeId) : BiS (β := β) E (fun S l kk => two l fun a b => minmax gtI a b fun v => kk v S) .max a := by
  intro S l kk r h0 M w l' hR hl ty consts
  obtain ⟨x, y, rfl, h⟩ := two_some h0
  obtain ⟨x', y', rfl, hx, hy⟩ := hl.two
  unfold minmax at h
  split at h
  · rename_i k z j u
    have hx' := hx.int_inv
    have hy' := hy.int_inv
    rw [ifB_eq] at h
    split at h
    · rename_i hk
      have := (kindEq_iff _ _).1 hk; subst this
      unfold gtI at h
      rw [ltI_eq, ifB_eq] at h
      refine ⟨.int k (if u > z then u else z), S, ?_, .int k (if u > z then u else z), w, M, ?_, Step.refl hR, .int _ _⟩
      · split at h
        · rename_i hlt; rw [if_pos (of_decide_eq_true hlt)]; exact h
        · rename_i hlt; rw [if_neg (fun e => hlt (decide_eq_true e))]; exact h
      · simp [builtin, Builtin.max_, Builtin.max2, hx', hy']
    · cases h
  · cases h
omit hE in
theorem sliceData_S (a : Array TypeId) : BiS (β := β) E (fun S l kk => oneV l fun x => (match x with | .slice (some a) (_ + 1) _ => kk (.pointer (some a)) S | _ => none)) .unsafeSliceData a := by
  intro S l kk r h0 M w l' hR hl ty consts
  obtain ⟨x, rfl, h⟩ := oneV_some h0
  obtain ⟨y, rfl, hx⟩ := hl.single_inv
  split at h
  · rename_i a0 n sz
    obtain ⟨b, off, sp⟩ := a0
    obtain ⟨rfl, c, N, o', cap, hM, h1, h2, h3, hp⟩ := hx.slice_inv
    have ho' : o' = off := by omega
    subst ho'
    refine ⟨_, _, h, .pointer (some ⟨c, o', none⟩), w, M, ?_, Step.refl hR, .ptr _ _ _ _ hM⟩
    have hcap : cap ≠ 0 := by omega
    have h9 : Builtin.unsafeSliceData_ a ty #[.slice (some ⟨c, o', none⟩) (n + 1) cap] = (if cap ≠ 0 then pure (.pointer (some ⟨c, o', none⟩)) else (do
      if (← viewAt c).isSome then pure (.pointer (some ⟨c, o', none⟩))
      else pure (.pointer (some ⟨← newObj (.view ⟨c, o', none⟩ (← elemOf ty)), 0, none⟩)))) := rfl
    rw [hp]
    simp only [builtin, List.toArray, h9, if_pos hcap]
    rfl
  · cases h
theorem delete_S (a : Array TypeId) {t : TypeId} (ht : a[0]? = some t) : BiS (β := β) E (fun S l kk => two l fun m k => aDelete E t S m k fun S => kk undefV S) .delete a := by
  intro S l kk r h0 M w l' hR hl ty consts
  obtain ⟨m, k, rfl, h⟩ := two_some h0
  obtain ⟨m', k', rfl, hm, hk⟩ := hl.two
  have fin : ∀ {v' : Value} {w' : World}, (Builtin.delete_ a ty #[m', k']).run E.P w = .ok v' w' → (builtin .delete a ty consts [m', k'].toArray).run E.P w = .ok (.value v') w' := by
    intro v' w' h
    simp [builtin, h]
  unfold aDelete at h
  split at h
  · rename_i kt e hke
    have hund := hE.und (mapKE_some hke)
    have hp := hm.map0_inv
    rw [ifB_eq] at h
    split at h
    · rename_i hok
      obtain ⟨hg, hkk, hchk⟩ := keyOk_S hE hok
      have hk' := hk.gnd_eq hg
      exact ⟨_, _, h, .tuple #[], w, M, fin (by simp [Builtin.delete_, ht, run_underlying hund, hp, hk', hchk]), Step.refl hR, .tuple _ _ .nil⟩
    · cases h
  · rename_i kt e rr hke
    have hund := hE.und (mapKE_some hke)
    obtain ⟨c, n, hM, hp⟩ := hm.map_inv
    split at h
    · rename_i es clock hmo
      have hget := mapOf_some hmo
      obtain ⟨es', hc, hl⟩ := hR.map hget hM
      rw [ifB_eq] at h
      split at h
      · rename_i hok
        obtain ⟨hg, hkk, hchk⟩ := keyOk_S hE hok
        have hk' := hk.gnd_eq hg
        split at h
        · cases h
        · rename_i hq
          obtain ⟨res', hrun, hfound⟩ := findKey_S hg hkk w hl hq
          cases res' with
          | some p => exact hfound.elim
          | none =>
            refine ⟨_, _, h, .tuple #[], w, M, fin ?_, Step.refl hR, .tuple _ _ .nil⟩
            have hset : ({ w with heap := w.heap.setIfInBounds c (.map es' clock) } : World) = w := by rw [set_same hc]
            simp [Builtin.delete_, ht, run_underlying hund, hp, hk', hchk, run_getMap hc, hrun, run_setMap hc, hset]
        · rename_i i e hq
          obtain ⟨res', hrun, hfound⟩ := findKey_S hg hkk w hl hq
          cases res' with
          | none => exact hfound.elim
          | some p =>
            obtain ⟨j', v1⟩ := p
            obtain ⟨rfl, _, hge, e', hi, hi', hent, rfl⟩ := hfound
            rw [delAtK_eq, AS.put_eq] at h
            have hobj : ObjR M S.fams rr n (.map (es.eraseIdx j') clock) (.map (es'.eraseIdxIfInBounds j') clock) := by
              refine .map _ _ _ ?_
              rw [Array.toList_eraseIdxIfInBounds]
              exact hl.eraseIdx _
            refine ⟨_, _, h, .tuple #[], _, _, fin ?_, hR.put hget hM trivial trivial hobj, .tuple _ _ .nil⟩
            simp [Builtin.delete_, ht, run_underlying hund, hp, hk', hchk, run_getMap hc, hrun, run_setMap hc]
      · cases h
    · cases h
  · cases h
end
end Go.Am

namespace Go.Am

/-! ## append -/
theorem toFam_S {β : Type} {S : AS} {b m e f c N : Nat} {t : PT Value} {k : Nat → AS → Option β} {r : β} (h : toFam S b t m e f k = some r) (hv : Valid S b f) (hb : S.heap.get b = some (.cells t m e f))
    {M : Loc} {w : World} (hR : Rel M S w) (hM : M b = some (c, N)) :
    ∃ S1 g F, k g S1 = some r ∧ Step M S w M S1 w ∧ S1.heap.get b = some (.cells t m e (g + 1)) ∧ S1.fams.get g = some F ∧ b ∈ F.mem ∧ (F.sb = true → S1 = S) := by
  cases f with
  | zero =>
    have h' : k S.nfam ⟨S.heap.set b (.cells t m e (S.nfam + 1)), S.next, S.fams.set S.nfam ⟨[b], m, 0, false⟩, S.nfam + 1⟩ = some r := by
      rw [← h]; cases S; unfold toFam; simp only [PT.setK_eq]
    exact ⟨_, _, ⟨[b], m, 0, false⟩, h', hR.toFam hb hM, by simp [PT.get_set], by simp [PT.get_set], by simp, by simp⟩
  | succ g =>
    rcases hv with hv | ⟨g', F, hg, hF, hmem⟩
    · cases hv
    · cases hg
      exact ⟨S, g, F, h, Step.refl hR, hb, hF, hmem, fun _ => rfl⟩
theorem newVer_eq {β : Type} {S : AS} {lo m' e g : Nat} {t' : PT Value} {k : Nat → AS → Option β} {r : β} (h : newVer S lo t' m' e g k = some r) {F : Fam} (hF : S.fams.get g = some F) :
    F.frz ≤ lo ∧ k S.next ⟨S.heap.set S.next (.cells t' m' e (g + 1)), S.next + 1, S.fams.set g ⟨ifB (Nat.ble F.maxn lo) (S.next :: F.mem) [S.next], m', F.frz, F.sb⟩, S.nfam⟩ = some r := by
  cases S
  unfold newVer at h
  simp only at hF
  simp only [hF, ifB_eq, PT.setK_eq] at h
  split at h
  · rename_i hle
    simp only [ifB_eq]
    exact ⟨ble_true.1 hle, h⟩
  · cases h

theorem valLen_S {M : Loc} {x x' : Value} (hx : VR M x x') {n : Nat} (h : valLen x = some n) : Builtin.lenOf x' = Sem.pure n ∧ ((∃ a c, x' = .slice a n c) ∨ (∃ s : ByteArray, x' = .string s ∧ s.size = n)) := by
  unfold valLen at h
  split at h
  · cases h
    cases hx with
    | slice0 => exact ⟨rfl, .inl ⟨_, _, rfl⟩⟩
    | slice => exact ⟨rfl, .inl ⟨_, _, rfl⟩⟩
  · cases h
    have hp := hx.string_inv
    subst hp
    exact ⟨rfl, .inr ⟨_, rfl, rfl⟩⟩
  · cases h
section
variable {E : Env} {β : Type} (hE : EnvOk E)
include hE
theorem goSrc {tx : TypeId} (htx : isSrcT E (some tx) = true) {M : Loc} {w : World} {size n : Nat} {x x' : Value} {vs' : List Value} (hx : VR M x x') (hlen : valLen x = some n) (hs : Src w size n x' vs')
    (h1 : ∀ y ∈ vs', y.oneCell' = true) : _root_.Go.Src E.P size tx x' n vs' w := by
  have hk : (∃ e', E.P.underlying tx = some (.slice e')) ∨ E.P.underlying tx = some .string := by
    unfold isSrcT at htx
    simp only at htx
    split at htx
    · rename_i e hd; exact .inl ⟨e, hE.und hd⟩
    · rename_i hd; exact .inr (hE.und hd)
    · cases htx
  have hd : Src w.drew size n x' vs' := ⟨hs.len, by
    rcases hs.src with ⟨a, m, cap, h1, h2, h3⟩ | h | h
    · exact .inl ⟨a, m, cap, h1, h2, h3⟩
    · exact .inr (.inl h)
    · exact .inr (.inr h)⟩
  refine ⟨hk, fun w' => ?_, hs.run, hd.run, hs.len, h1⟩
  rw [(valLen_S hx hlen).1]; rfl

omit hE in
theorem grownCap_ge (w : World) (need old : Nat) (e : TypeId) : need ≤ grownCap w need old e := by
  unfold grownCap Question.cut; exact Nat.le_add_right _ _
omit hE in
theorem zeroCells_size (z : Array Value) (n : Nat) : (Builtin.zeroCells z n).size = n * z.size := by simp [Builtin.zeroCells]
/-- what is owed of append, the arguments apart -/
theorem appTo_S {t tx e : TypeId} {ty : TypeId} {zl : List Value} (ht : E.und t = some (.slice e)) (hzl : (zeroOf E e).bind cellsO = some zl) (hz1 : zl.length = E.cells e) (hz2 : 1 ≤ E.cells e)
    {M : Loc} {S : AS} {w : World} (hR : Rel M S w) {s s' x' : Value} {n : Nat} {vs vs' : List Value} (hs : VR M s s') (hv : VRL M vs vs') (h1 : ∀ y ∈ vs', y.oneCell' = true)
    (hsrc : _root_.Go.Src E.P (E.cells e) tx x' n vs' w) {kk : Value → AS → Option β} {r : β} (h : appTo S e (E.cells e) (E.bytes e) n vs s kk = some r) :
    ∃ v S', kk v S' = some r ∧ ∃ v' w' M', (Builtin.append_ #[t, tx] ty #[s', x']).run E.P w = .ok v' w' ∧ Step M S w M' S' w' ∧ VR M' v v' := by
  obtain ⟨zi, zv, hzi, hzz, hzg, hc, heq, hzv, hzone⟩ := zero_cells hE hzl
  obtain ⟨i, hi, his, hib⟩ := hE.info (t := e) (by omega)
  rw [hzi] at hi; cases hi
  have hund := hE.und ht
  have hzs : zv.cells.size = E.cells e := by rw [← Array.length_toList, heq]; exact hz1
  rw [← his] at hsrc
  have hvl : vs.length = n * E.cells e := by rw [hv.length, hsrc.newsLen, his]
  have hvl' : vs'.length = n * E.cells e := by rw [hsrc.newsLen, his]
  unfold appTo at h
  split at h
  · obtain ⟨_, _, hp⟩ := hs.slice0_inv
    split at h
    · have hnil : vs' = [] := List.eq_nil_of_length_eq_zero (by rw [hvl']; simp)
      subst hnil
      refine ⟨_, _, h, s', w, M, ?_, Step.refl hR, hs⟩
      rw [hp]
      exact run_append_nothing w t tx ty e zi hund hzi none 0 0 (Nat.le_refl _) x' hsrc
    · rename_i hn0
      have hn : 0 < n := Nat.pos_of_ne_zero fun e => hn0 (by rw [e])
      rw [ifB_eq] at h
      split at h
      · rename_i hok
        simp only [Bool.and_eq_true, ble_true] at hok
        have hb1 : n * E.bytes e ≤ 1000000000 := hok.1
        unfold appNil at h
        rw [fromList_eq, newFam_eq] at h
        have hgrow := run_append_grow_src w t tx ty e zi zv hund hzi hzz none 0 0 [] (by simp [Builtin.firstCells]) x' n vs' hsrc (by omega) (by rw [Nat.zero_add]; exact Int.ofNat_le.2 (by omega : n ≤ 9223372036854775807))
          (growslice_fits (by omega) (by rw [hib, Nat.zero_add]; omega))
        simp only [Nat.zero_add] at hgrow
        have hcap := grownCap_ge w n 0 e
        generalize grownCap w n 0 e = cap at hgrow hcap
        generalize hcs : (([] ++ vs' : List Value).toArray ++ Builtin.zeroCells zv.cells (cap - n)) = cs at hgrow
        have hcsz : cs.size = cap * E.cells e := by
          rw [← hcs]; simp only [List.nil_append, Array.size_append, List.size_toArray, zeroCells_size, hzs, hvl']
          rw [← Nat.add_mul]; congr 1; omega
        have hmul : n * E.cells e ≤ cap * E.cells e := Nat.mul_le_mul_right _ hcap
        have hfit : Fits M (PT.lf.write 0 vs) vs.length cs := by
          intro i v hi hvi
          obtain ⟨u, hu, hr, ho⟩ := Fits.new hv h1 i v hi hvi
          refine ⟨u, ?_, hr, ho⟩
          rw [← hcs, Array.getElem?_append_left (by simp; rw [← hv.length]; exact hi)]
          simpa using hu
        have hst := hR.newFam (m := vs.length) (e := e) (N := cs.size) (frz := 0) (fl := 0) (fh := 0) (sb := false) rfl hfit (by omega) (by omega) (by simp)
        refine ⟨_, _, h, _, _, _, by rw [hp]; exact hgrow, hst.drawn _, .slice _ _ _ _ _ _ _ _ (Loc.add_self _ _ _ _) hcap (by omega) (.inl rfl)⟩
      · cases h
  · rename_i b sl sz
    obtain ⟨_, c, N, o', cap, hM, hq1, hq2, hq3, hp⟩ := hs.slice_inv
    have ho' : o' = 0 := by omega
    subst ho'
    rw [ifB_eq] at h
    split at h
    · rename_i hsz
      have := beq_true.1 hsz
      subst this
      split at h
      · have hnil : vs' = [] := List.eq_nil_of_length_eq_zero (by rw [hvl']; simp)
        subst hnil
        refine ⟨_, _, h, s', w, M, ?_, Step.refl hR, hs⟩
        rw [hp]
        exact run_append_nothing w t tx ty e zi hund hzi _ sl cap hq1 x' hsrc
      · rename_i hn0
        have hn : 0 < n := Nat.pos_of_ne_zero fun e => hn0 (by rw [e])
        rw [ifB_eq] at h
        split at h
        · rename_i hok
          simp only [Bool.and_eq_true, ble_true] at hok
          have hb1 : (sl + n) * E.bytes e ≤ 1000000000 := hok.1
          have hb2 : sl + n ≤ 1000000000 := hok.2
          unfold appOn at h
          obtain ⟨tr, m, e', f, hb, hval, h⟩ := cellsK_some h
          obtain ⟨cs, flo, fhi, hcell, hcs, hmN, hfit⟩ := hR.cells hb hval hM
          rw [ifB_eq] at h
          split at h
          · rename_i hok2
            simp only [Bool.and_eq_true, ble_true, beq_true] at hok2
            obtain ⟨hslm, rfl⟩ := hok2
            have hslm' : sl * E.cells e ≤ m := hslm
            rw [writeK_to, fN_eq, fN_eq] at h
            obtain ⟨S1, g, F, h, hst1, hb', hF, hmem, _⟩ := toFam_S h hval hb hR hM
            obtain ⟨hfrz, h⟩ := newVer_eq h hF
            have hfrz' : F.frz ≤ sl * E.cells e := hfrz
            have hR1 := hst1.rel
            have hobj : (∀ x, flo ≤ x → x < fhi → x < N → x < F.frz) ∧ (F.sb = false → fhi ≤ F.frz) := by
              obtain ⟨p, hp1, hr⟩ := hR1.obj b _ c N hb' hM
              rw [hcell] at hp1; cases hp1
              cases hr with
              | cellsF _ _ _ _ F' _ _ _ _ _ hF' _ hz hbb => rw [hF] at hF'; cases hF'; exact ⟨hz, hbb⟩
            have hmulN : (sl + n) * E.cells e = sl * E.cells e + n * E.cells e := Nat.add_mul _ _ _
            have hmN' : Nat.mul (Nat.add sl n) (E.cells e) = sl * E.cells e + n * E.cells e := hmulN
            have hslN : Nat.mul sl (E.cells e) = sl * E.cells e := rfl
            by_cases hroom : sl + n ≤ cap
            · have hcapm : (sl + n) * E.cells e ≤ cap * E.cells e := Nat.mul_le_mul_right _ hroom
              have hrun := run_append_room_src w t tx ty e zi hund hzi c 0 sl cap x' n vs' hsrc hroom
                (by
                  intro j hj
                  rw [cell_of hcell, his, Array.getElem?_eq_getElem (by omega)]; rfl)
                (by
                  intro j hj
                  simp only [World.frozen?, hcell, Bool.and_eq_false_iff, decide_eq_false_iff_not]
                  rw [his]
                  by_cases hA : flo ≤ 0 + sl * E.cells e + j
                  · right
                    intro hB
                    have := hobj.1 _ hA hB (by omega)
                    omega
                  · exact .inl hA)
              rw [his, Nat.zero_add, setCells_eq _ _ _ _ hcell] at hrun
              have hlt := (hR1.dom _ _ _ hM).2
              have hnfit : Fits M (tr.write (sl * E.cells e) vs) (Nat.mul (Nat.add sl n) (E.cells e)) (setL cs (sl * E.cells e) vs') := by
                intro q v hq hqv
                rw [PT.get_write] at hqv
                rw [setL_get _ _ _ (by omega)]
                split at hqv
                · rename_i hin
                  rw [if_pos (by rw [← hv.length]; exact hin)]
                  obtain ⟨u, hu, hr⟩ := hv.get hqv
                  exact ⟨u, hu, hr, h1 u (List.mem_of_getElem? hu)⟩
                · rename_i hin
                  rw [if_neg (by rw [← hv.length]; exact hin)]
                  exact hfit q v (by omega) hqv
              have hst2 := hR1.version (w' := { w with heap := w.heap.setIfInBounds c (.cells (setL cs (sl * E.cells e) vs') e (flo, fhi)) }) (b := b) (lo := sl * E.cells e) (m' := Nat.mul (Nat.add sl n) (E.cells e)) (c' := c) (N' := N)
                hb' hF hmem hM (by omega) (by simpa using hlt) (by simp) (fun x hx _ => by simp [Array.getElem?_setIfInBounds, Ne.symm hx]) (by simp [hlt]) (by rw [setL_size]; exact hcs) hnfit (by omega) hobj.1 hobj.2
                (.inr ⟨hM, cs, hcell, hcs, fun q hq => by rw [setL_get _ _ _ (by omega), if_neg (by omega)]⟩) rfl rfl rfl
              exact ⟨_, _, h, _, _, _, by rw [hp]; exact hrun, hst1.trans hst2, .slice _ _ _ _ _ _ _ _ (Loc.add_self _ _ _ _) hroom (by omega) (.inl rfl)⟩
            · have holds : ∃ olds : List Value, olds.length = sl * E.cells e ∧ (∀ q, q < sl * E.cells e → olds[q]? = cs[q]?) ∧ (Builtin.firstCells zi.size sl (.slice (some ⟨c, 0, none⟩) sl cap)).run E.P w.drew = .ok olds.toArray w.drew := by
                refine ⟨cs.toList.take (sl * E.cells e), by simp; omega, fun q hq => by rw [List.getElem?_take_of_lt hq]; simp, ?_⟩
                refine run_firstCells_some w.drew zi.size sl ⟨c, 0, none⟩ sl cap _ (by rw [his]; simp; omega) ?_
                intro j u hu
                rw [add_off]
                have hcd : w.drew.heap[c]? = some (.cells cs e (flo, fhi)) := hcell
                rw [cell_of hcd]
                have hj : j < sl * E.cells e := by
                  have := (List.getElem?_eq_some_iff.1 hu).1
                  simp at this; omega
                rw [List.getElem?_take_of_lt hj] at hu
                simpa using hu
              obtain ⟨olds, hol, hog, horun⟩ := holds
              have hgrow := run_append_grow_src w t tx ty e zi zv hund hzi hzz (some ⟨c, 0, none⟩) sl cap olds horun x' n vs' hsrc (by omega) (Int.ofNat_le.2 (by omega : sl + n ≤ 9223372036854775807))
                (growslice_fits (by omega) (by rw [hib]; omega))
              have hcap := grownCap_ge w (sl + n) cap e
              generalize grownCap w (sl + n) cap e = ncap at hgrow hcap
              generalize hcs2 : ((olds ++ vs' : List Value).toArray ++ Builtin.zeroCells zv.cells (ncap - (sl + n))) = cs2 at hgrow
              have hcsz : cs2.size = ncap * E.cells e := by
                rw [← hcs2]; simp only [Array.size_append, List.size_toArray, List.length_append, zeroCells_size, hzs, hvl', hol]
                rw [← Nat.add_mul, ← Nat.add_mul]; congr 1; omega
              have hmul : (sl + n) * E.cells e ≤ ncap * E.cells e := Nat.mul_le_mul_right _ hcap
              have hget2 : ∀ q, q < sl * E.cells e + n * E.cells e → cs2[q]? = if q < sl * E.cells e then cs[q]? else vs'[q - sl * E.cells e]? := by
                intro q hq
                rw [← hcs2, Array.getElem?_append_left (by simp; omega)]
                simp only [List.getElem?_toArray]
                split
                · rename_i hlt; rw [List.getElem?_append_left (by omega)]; exact hog q hlt
                · rename_i hlt; rw [List.getElem?_append_right (by omega), hol]
              have hnfit : Fits M (tr.write (sl * E.cells e) vs) (Nat.mul (Nat.add sl n) (E.cells e)) cs2 := by
                intro q v hq hqv
                rw [PT.get_write] at hqv
                rw [hget2 q (by omega)]
                split at hqv
                · rename_i hin
                  rw [if_neg (by omega)]
                  obtain ⟨u, hu, hr⟩ := hv.get hqv
                  exact ⟨u, hu, hr, h1 u (List.mem_of_getElem? hu)⟩
                · rename_i hin
                  rw [if_pos (by omega)]
                  exact hfit q v (by omega) hqv
              have hst2 := hR1.version (w' := { w with heap := w.heap.push (.cells cs2 e (0, 0)) }) (b := b) (lo := sl * E.cells e) (m' := Nat.mul (Nat.add sl n) (E.cells e)) (c' := w.heap.size) (N' := cs2.size) (fl := 0) (fh := 0)
                hb' hF hmem hM (by omega) (by simp) (by simp) (fun x hx hx2 => Array.getElem?_push_lt hx2 ▸ (Array.getElem?_eq_getElem hx2).symm ▸ rfl) (by simp) rfl hnfit (by omega) (by omega) (by omega)
                (.inl rfl) rfl rfl rfl
              exact ⟨_, _, h, _, _, _, by rw [hp]; exact hgrow, (hst1.trans hst2).drawn _, .slice _ _ _ _ _ _ _ _ (Loc.add_self _ _ _ _) hcap (by omega) (.inl rfl)⟩
          · cases h
        · cases h
    · cases h
  · cases h
end
end Go.Am

namespace Go.Am

/-! ## append, copy, unsafe.String -/
section
variable {E : Env} {β : Type} (hE : EnvOk E)
include hE
theorem append_two {P : Program} {a : Array TypeId} {ty t tx : TypeId} {s x : Value} (h0 : a[0]? = some t) (h1 : a[1]? = some tx) :
    Builtin.append_ a ty #[s, x] = Builtin.append_ #[t, tx] ty #[s, x] := by
  unfold Builtin.append_
  simp [h0, h1]
theorem append_S (a : Array TypeId) : BiS (β := β) E (appendW (β := β) E a[0]? a[1]?).f .append a := by
  intro S l kk r h0 M w l' hR hl ty consts
  unfold appendW at h0
  split at h0
  case h_2 => cases h0
  rename_i t hx1 hx2
  cases htx : a[1]? with
  | none => rw [htx] at hx2; cases hx2
  | some tx =>
  rw [htx] at hx2
  split at h0
  case h_2 => cases h0
  rename_i e hel
  have ht : E.und t = some (.slice e) := by
    unfold elemOfSlice at hel
    split at hel
    · cases hel; assumption
    · cases hel
  cases hz : (zeroOf E e).bind cellsO with
  | none => rw [hz] at h0; cases h0
  | some z =>
  rw [hz] at h0
  simp only at h0
  have hc : (Nat.beq z.length (E.cells e) && Nat.ble 1 (E.cells e)) = true := by
    cases hb : Nat.beq z.length (E.cells e) && Nat.ble 1 (E.cells e) with
    | true => rfl
    | false => rw [hb] at h0; cases h0
  rw [hc, ifB_true] at h0
  simp only [Bool.and_eq_true, beq_true, ble_true] at hc
  obtain ⟨s, x, rfl, h⟩ := two_some h0
  obtain ⟨s', x', rfl, hs, hx⟩ := hl.two
  split at h
  case h_2 => cases h
  rename_i n hlen
  rw [fN_eq] at h
  obtain ⟨vs, vs', hk, hvv, h1, hsrc⟩ := srcK_some h hR hx
  have hg := goSrc hE hx2 hx hlen hsrc h1
  obtain ⟨v, S', h2, v', w', M', h3, h4, h5⟩ := appTo_S hE (ty := ty) ht hz hc.1 hc.2 hR hs hvv h1 hg hk
  refine ⟨v, S', h2, v', w', M', ?_, h4, h5⟩
  rw [← append_two (P := E.P) hE hx1 htx] at h3
  simp [builtin, h3]

theorem min_if (n dl : Nat) : ifB (Nat.ble n dl) n dl = Nat.min n dl := by
  rw [ifB_eq]
  split
  · rename_i h; exact (Nat.min_eq_left (ble_true.1 h)).symm
  · rename_i h
    have : ¬ n ≤ dl := fun e => h (ble_true.2 e)
    exact (Nat.min_eq_right (by omega)).symm
theorem copy_S (a : Array TypeId) {t e : TypeId} (ht : a[0]? = some t) (hd : E.und t = some (.slice e)) (hz : E.cells e ≠ 0) :
    BiS (β := β) E (fun S l kk => two l fun d x => aCopy (E.cells e) S d x kk) .copy a := by
  intro S l kk r h0 M w l' hR hl ty consts
  obtain ⟨d, x, rfl, h⟩ := two_some h0
  obtain ⟨d', x', rfl, hd', hx⟩ := hl.two
  have fin : ∀ {v' : Value} {w' : World}, (Builtin.copy_ a ty #[d', x']).run E.P w = .ok v' w' → (builtin .copy a ty consts [d', x'].toArray).run E.P w = .ok (.value v') w' := by
    intro v' w' h
    simp [builtin, h]
  unfold aCopy at h
  split at h
  case h_2 => cases h
  rename_i ad dl dsz n hvl
  rw [fN_eq, min_if hE] at h
  have hlo := (valLen_S hx hvl).1
  have hsz := hE.size hz w
  split at h
  · rename_i hm
    have hmin : Nat.min n dl = 0 := hm
    obtain ⟨ad', dc', hp⟩ : ∃ ad' dc', d' = .slice ad' dl dc' := by
      cases hd' with
      | slice0 => exact ⟨_, _, rfl⟩
      | slice => exact ⟨_, _, rfl⟩
    have hfc : (Builtin.firstCells (E.cells e) 0 x').run E.P w = .ok #[] w := by
      have hl0 : ∀ (a : Addr), (loadCells a 0).run E.P w = .ok #[] w := fun a => by simpa using run_loadCells_list (P := E.P) w a [] (by simp)
      rcases (valLen_S hx hvl).2 with ⟨a, c, rfl⟩ | ⟨s, rfl, _⟩
      · cases a with
        | none => rfl
        | some a => simp [Builtin.firstCells, hl0]
      · have : (s.extract 0 0).data.map (fun b => Value.int .u8 b.toNat) = #[] := by
          rw [ByteArray.data_extract]; simp
        simp [Builtin.firstCells, this]
    refine ⟨_, _, h, goInt 0, w, M, fin ?_, Step.refl hR, .int _ _⟩
    have : ∀ (o : Option Addr), (Builtin.copy_ a ty #[.slice o dl dc', x']).run E.P w = .ok (goInt 0) w := by
      intro o
      have hlor : (Builtin.lenOf x').run E.P w = .ok n w := by rw [hlo]; rfl
      cases o <;> simp [Builtin.copy_, ht, run_underlying (hE.und hd), hlor, hsz, hmin, hfc, storeCells]
    rw [hp]; exact this _
  · rename_i hm
    split at h
    case h_2 => cases h
    rename_i b off
    obtain ⟨_, c, N, o', cap, hM, g1, g2, g3, hp⟩ := hd'.slice_inv
    have hm0 : Nat.min n dl ≠ 0 := fun e => hm e
    have hdl : dl ≠ 0 := by
      intro e0; rw [e0] at hm0; exact hm0 (Nat.min_zero _)
    have ho' : o' = off := by omega
    subst ho'
    rw [ifB_eq] at h
    split at h
    case isFalse => cases h
    obtain ⟨vs, vs', hk, hvv, h1, hsrc⟩ := srcK_some h hR hx
    obtain ⟨S', w', hk', hst, hstep⟩ := aStoreK_sound (P := E.P) hR hk hM hvv h1
    refine ⟨_, _, hk', goInt (Nat.min n dl), w', M, fin ?_, hstep, .int _ _⟩
    have hlor : (Builtin.lenOf x').run E.P w = .ok n w := by rw [hlo]; rfl
    have hfc := hsrc.run (P := E.P)
    rw [hp]
    simp [Builtin.copy_, ht, run_underlying (hE.und hd), hlor, hsz, hfc, hst]

omit hE in
theorem run_loadBytes_ints {P : Program} {w : World} : ∀ (l : List Nat) (a : Addr) (acc : ByteArray), (∀ j x, l[j]? = some x → w.cell? (a.add j) = some (.int .u8 (.ofNat x))) →
    (loadBytes a acc l.length).run P w = .ok (acc ++ mkStr (l.map UInt8.ofNat)) w
  | [], a, acc, _ => by
    have : acc ++ mkStr [] = acc := by apply ByteArray.ext; simp [mkStr]
    simp [loadBytes, this]
  | x :: l, a, acc, h => by
    have h0 : w.cell? a = some (.int .u8 (.ofNat x)) := by
      have := h 0 x rfl
      simpa [Addr.add] using this
    have ih := run_loadBytes_ints (P := P) l (a.add 1) (acc.push (UInt8.ofNat x)) (fun j y hy => by
      have := h (j + 1) y (by simpa using hy)
      have e : (a.add 1).add j = a.add (j + 1) := by
        unfold Addr.add; cases a with | mk b o s => by_cases hj : j = 0 <;> simp [hj] <;> omega
      rw [e]; exact this)
    have e2 : acc.push (UInt8.ofNat x) ++ mkStr (l.map UInt8.ofNat) = acc ++ mkStr ((x :: l).map UInt8.ofNat) := by
      apply ByteArray.ext; simp [mkStr]
    rw [e2] at ih
    have hl0 : (load a).run P w = .ok (.int .u8 (.ofNat x)) w := by simp [load, Sem.run, h0]
    simp only [List.length_cons, loadBytes, Sem.run_bind, hl0, Result.andThen_ok]
    exact ih

omit hE in
theorem frzK_some {S : AS} {g n : Nat} {k : AS → Option β} {r : β} (h : frzK S g n k = some r) : ∃ F, S.fams.get g = some F ∧ F.sb = false ∧ k (S.famUpd g ⟨F.mem, F.maxn, ifB (Nat.ble F.frz n) n F.frz, false⟩) = some r := by
  unfold frzK at h
  split at h
  · rename_i mem maxn frz hF
    rw [fN_eq, AS.setFam_eq] at h
    exact ⟨_, hF, rfl, h⟩
  · cases h
theorem isByteT_some {t : TypeId} (h : isByteT E t = true) : E.und t = some (.int .u8) := by
  unfold isByteT at h
  split at h
  · assumption
  · cases h
theorem unsafeString_S (a : Array TypeId) (hb : isByteP E a[0]? = true) : BiS (β := β) E (fun S l kk => two l fun p n => (match p, n with
    | .pointer (some ⟨b, 0, none⟩), .int _ (.ofNat (n + 1)) => aUnsafeString E S b (Nat.succ n) kk
    | .pointer _, .int _ (.ofNat 0) => kk (.string (mkStr [])) S
    | _, _ => none)) .unsafeString a := by
  intro S l kk r h0 M w l' hR hl ty consts
  obtain ⟨p, n, rfl, h⟩ := two_some h0
  obtain ⟨p', n', rfl, hp, hn⟩ := hl.two
  have fin : ∀ {v' : Value} {w' : World}, (Builtin.unsafeString_ a ty #[p', n']).run E.P w = .ok v' w' → (builtin .unsafeString a ty consts [p', n'].toArray).run E.P w = .ok (.value v') w' := by
    intro v' w' h
    simp [builtin, h]
  obtain ⟨pt, hpt, u, hpu, hu⟩ : ∃ pt, a[0]? = some pt ∧ ∃ u, E.und pt = some (.pointer u) ∧ isByteT E u = true := by
    unfold isByteP at hb
    split at hb
    · rename_i pt hpt
      split at hb
      · rename_i u hu; exact ⟨pt, hpt, u, hu, hb⟩
      · cases hb
    · cases hb
  split at h
  · rename_i b k n
    obtain ⟨_, c, N, hM, hpp⟩ := hp.ptr_inv
    have hnn := hn.int_inv
    unfold aUnsafeString at h
    obtain ⟨t, m, e, f, hbk, hval, h⟩ := cellsK_some h
    rw [ifB_eq] at h
    split at h
    case isFalse => cases h
    rename_i hok
    simp only [Bool.and_eq_true, beq_true, ble_true] at hok
    obtain ⟨⟨⟨hbt, hce⟩, hnm⟩, hbig⟩ := hok
    split at h
    · cases h
    · rename_i vs hvs
      obtain ⟨ns, rfl, hk⟩ := valBytesK_some h
      obtain ⟨cs, lo, hi, hc, hs, hm, hfit⟩ := hR.cells hbk hval hM
      obtain ⟨l', g1, g2, g3, g4⟩ := hfit.read hvs (by omega)
      have hl' := g2.ints
      subst hl'
      simp only [List.length_map] at g1
      obtain ⟨S1, g, F, h, hst1, hb', hF, hmem, _⟩ := toFam_S hk hval hbk hR hM
      obtain ⟨F', hF', hsb, hk2⟩ := frzK_some h
      rw [hF] at hF'; cases hF'
      have hst2 := hst1.rel.freeze (n := n.succ) hb' hF hsb hM hc (by omega)
      refine ⟨_, _, hk2, .string (mkStr (ns.map UInt8.ofNat)), _, M, fin ?_, hst1.trans hst2, .string _⟩
      have hload := run_loadBytes_ints (P := E.P) (w := w) ns ⟨c, 0, none⟩ .empty (fun j x hx => by
        rw [add_off, cell_of hc]
        exact g4 j _ (by simp [hx]))
      have hemp : ByteArray.empty ++ mkStr (ns.map UInt8.ofNat) = mkStr (ns.map UInt8.ofNat) := by
        apply ByteArray.ext; simp [mkStr]
      rw [g1, hemp] at hload
      have hsh : w.shape? c = some (e, cs.size) := by simp [World.shape?, hc]
      obtain ⟨i, hi, his, _⟩ := hE.info (t := e) (by omega)
      have hcof : E.P.cellsOf e = 1 := by simp [Program.cellsOf, hi, his, hce]
      obtain ⟨d, hdep⟩ : ∃ d, E.P.depth = d + 1 := ⟨2 * (E.P.types.size + Made.depth) + 1, rfl⟩
      have hsame : sameLayout E.P E.P.depth e u = true := by
        rw [hdep]
        unfold sameLayout
        simp [hE.und (isByteT_some hE hbt), hE.und (isByteT_some hE hu)]
      have hlies : liesAt E.P E.P.depth e (cs.size / E.P.cellsOf e) 0 u n.succ = true := by
        have hrow : rowAt E.P (sameLayout E.P E.P.depth · u) E.P.depth e (cs.size / E.P.cellsOf e) 0 n.succ = true := by
          rw [hcof]
          generalize hdd : sameLayout E.P E.P.depth = sl at *
          rw [hdep]
          have : n.succ ≤ cs.size := by omega
          simp [rowAt, hcof, hsame, this]
        generalize hdd : sameLayout E.P E.P.depth = sl at *
        unfold liesAt
        split
        · rename_i h1; omega
        · rename_i d' h1
          simp only [Bool.or_eq_true]
          left
          rw [hdd]; exact hrow
      have hle : ¬ (n.succ : Int) > IntKind.i64.max := by
        have : (IntKind.i64.max : Int) = 9223372036854775807 := by decide
        rw [this]; omega
      have hpos : ¬ (Int.ofNat n.succ) < 0 := by simp only [Int.ofNat_eq_natCast]; omega
      have hne : ¬ (Int.ofNat n.succ) = 0 := by simp only [Int.ofNat_eq_natCast]; omega
      have hfr : (freeze ⟨c, 0, none⟩ n.succ).run E.P w = .ok () (w.freeze ⟨c, 0, none⟩ n.succ) := rfl
      have hle' : ¬ IntKind.i64.max < Int.ofNat n.succ := hle
      have htn : (Int.ofNat n.succ).toNat = n.succ := rfl
      have hva : (variablesAt ⟨c, 0, none⟩ u n.succ).run E.P w = .ok true w := by
        simp [variablesAt, program, shape, Sem.run, hsh, hlies]
      have hel : (elemOf pt).run E.P w = .ok u w := by simp [elemOf, run_underlying (hE.und hpu)]
      have hai : (asInt (.int k (Int.ofNat n.succ))).run E.P w = .ok (Int.ofNat n.succ) w := by simp [asInt, asIntOf]
      have hdef := (show Builtin.unsafeString_ a ty #[.pointer (some ⟨c, 0, none⟩), .int k (Int.ofNat n.succ)] = (asInt (.int k (Int.ofNat n.succ)) >>= _) from rfl)
      rw [hpp, hnn, hdef]
      simp only [Sem.run_bind, hai, Result.andThen_ok, hpt, if_neg hpos, hle', gt_iff_lt, if_false, if_neg hne, htn, hel, hva, hload, hfr, Sem.run_pure, if_true]
  · rename_i p0 k
    have hnn := hn.int_inv
    obtain ⟨q, hq⟩ : ∃ q, p' = .pointer q := by
      cases hp with
      | ptr0 => exact ⟨_, rfl⟩
      | ptr => exact ⟨_, rfl⟩
    refine ⟨_, _, h, .string (mkStr []), w, M, fin ?_, Step.refl hR, .string _⟩
    have hmax : ¬ IntKind.i64.max < (0 : Int) := by decide
    have hemp : (ByteArray.empty) = mkStr [] := rfl
    have hai : (asInt (.int k (Int.ofNat 0))).run E.P w = .ok 0 w := by simp [asInt, asIntOf]
    have hdef := (show Builtin.unsafeString_ a ty #[.pointer q, .int k (Int.ofNat 0)] = (asInt (.int k (Int.ofNat 0)) >>= _) from rfl)
    have hneg : ¬ (0 : Int) < 0 := by decide
    rw [hq, hnn, hdef]
    cases q <;> simp only [Sem.run_bind, hai, Result.andThen_ok, hpt, hneg, gt_iff_lt, hmax, if_false, if_true, Sem.run_pure, hemp]
  · cases h
end
end Go.Am

namespace Go.Am

section
variable {E : Env} {β : Type} (hE : EnvOk E)
include hE
omit hE in
theorem noW_S (op : Op) : OpS (β := β) E noW.f op := fun _ _ _ _ h => by cases h
theorem opW_S (op : Op) : OpS E (opW (β := β) E op).f op := by
  cases op <;> simp only [opW]
  case move x => exact (move_P x).toS
  case assign x => exact (assign_P x).toS
  case pick c a b => exact (pick_P c a b).toS
  case alloc t => exact alloc_S hE t
  case box t x => exact box_S hE t x
  case build t p => exact (build_P hE t p).toS
  case buildSlice t l p => exact buildSlice_S hE t l p
  case load t a => exact (load_P hE t a).toS
  case store t a x => exact store_S hE t a x
  case nilCheck x => exact (nilCheck_P hE x).toS
  case binOp op t x y b => exact (bin_P hE op t x y b).toS
  case unOp op t x => exact (not_P hE t x op).toS
  case convert s d x => exact conv_S hE s d x
  case makeInterface t x => exact (iface_P hE t x).toS
  case makeFunc fn a c =>
    cases fn <;> simp only
    case yield l => exact noW_S _
    all_goals exact (func_P hE _ (by intro l h; cases h) a c).toS
  case makeMap t r => exact makeMap_S hE t r
  case makeSlice t l c => exact makeSlice_S hE t l c
  case slice t x lo hi mx => exact (slice_P hE t x lo hi mx).toS
  case fieldAddr t x f => exact (fieldAddr_P hE t x f).toS
  case field t x f => exact (field_P hE t x f).toS
  case indexAddr t x i => exact (indexAddr_P hE t x i).toS
  case index t x i => exact (index_P hE t x i).toS
  case lookup t x k ok => exact (lookup_P hE t ok x k).toS
  case mapUpdate t m k x => exact mapUpdate_S hE t m k x
  case insert t m k x => exact insert_S hE t m k x
  case mapEntry t m k => exact mapEntry_S hE t m k
  case entryStore t m s x => exact entryStore_S hE t m s x
  case range t x => exact range_S hE t x
  case entry it => exact (entry_P hE it).toS
  case typeAssert x xt t ok => exact (assert_P hE x xt t ok).toS
  case extract x i => exact (extract_P hE i x).toS
  all_goals exact noW_S _

theorem biW_S (b : Builtin) (a : Array TypeId) : BiS E (biW (β := β) E b a).f b a := by
  cases b <;> simp only [biW]
  case append => exact append_S hE a
  case len =>
    split
    · rename_i t ht; exact len_S hE a ht
    · exact noB_S _ _ _
  case min => exact min_S a
  case max => exact max_S a
  case delete =>
    split
    · rename_i t ht; exact delete_S hE a ht
    · exact noB_S _ _ _
  case copy =>
    split
    · rename_i e he
      split
      · exact noB_S _ _ _
      · rename_i sz hsz
        cases ht : a[0]? with
        | none => rw [ht] at he; cases he
        | some t =>
          rw [ht] at he
          have hd : E.und t = some (.slice e) := by
            have he' : elemOfSlice E t = some e := he
            unfold elemOfSlice at he'
            split at he'
            · cases he'; assumption
            · cases he'
          have := copy_S (β := β) hE a ht hd (by rw [hsz]; simp)
          rw [hsz] at this; exact this
    · exact noB_S _ _ _
  case unsafeSliceData => exact sliceData_S a
  case unsafeString =>
    split
    · exact noB_S _ _ _
    · rename_i h; exact unsafeString_S hE a h
  all_goals exact noB_S _ _ _

theorem VRL.of_map {M : Loc} {ng : List Nat} {t : PT Value} {ρ : Operand → Value} : ∀ (l : List Operand), (∀ x ∈ l, VR M (evA ng t x) (ρ x)) → VRL M (l.map (evA ng t)) (l.map ρ)
  | [], _ => .nil
  | x :: l, h => .cons _ _ _ _ (h x (by simp)) (VRL.of_map l fun y hy => h y (by simp [hy]))
theorem callB_S (b : Builtin) (args : Array Operand) (a : Array TypeId) (t : PT Value) (S : AS) (kk : Value → AS → Option β) (r : β)
    (h : (biW (β := β) E b a).f S (args.toList.map (evA E.ng t)) kk = some r)
    (M : Loc) (w : World) (ρ : Operand → Value) (hR : Rel M S w) (hρ : ∀ x ∈ args, VR M (evA E.ng t x) (ρ x)) (o : Oper) (ho : o.op = .call { callee := .builtin b, args, argTypes := a }) :
    ∃ v S', kk v S' = some r ∧ ∃ v' w' M', (execOp ρ o).run E.P w = .ok (.value v') w' ∧ Step M S w M' S' w' ∧ VR M' v v' := by
  obtain ⟨v, S', h1, v', w', M', h2, h3, h4⟩ := biW_S hE b a S _ kk r h M w (args.toList.map ρ) hR (VRL.of_map hE _ fun x hx => hρ x (by simpa using hx)) o.type (args.map fun | .const _ => true | _ => false)
  refine ⟨v, S', h1, v', w', M', ?_, h3, h4⟩
  unfold execOp
  rw [ho]
  have : (args.toList.map ρ).toArray = args.map ρ := by rw [← Array.toList_map]
  rw [this] at h2
  simp only [resolve, Sem.run_bind, Sem.run_pure, Result.andThen_ok, invoke]
  exact h2
theorem runW_S (op : Op) : OpS E (runW (β := β) E op).f op := by
  unfold runW
  split
  · rename_i b args a
    intro t S kk r h M w ρ hR hρ o ho
    have h1 : (evsW (β := Option β) E.ng args.toList).f t (fun l => (biW (β := β) E b a).f S l kk) = some r := h
    rw [evsW_eq] at h1
    obtain ⟨v, S', g1, v', w', M', g2, g3, g4⟩ := callB_S hE b args a t S kk r h1 M w ρ hR (fun x hx => hρ x (by simp [Op.operands, Call.operands]; exact hx)) o ho
    exact ⟨v, S', g1, _, v', w', M', g2, .value _, g3, g4⟩
  · exact opW_S hE _
end
end Go.Am
