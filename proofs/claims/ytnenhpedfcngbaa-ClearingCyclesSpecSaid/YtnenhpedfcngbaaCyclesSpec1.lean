/- Part 1 of the proof: value and Cycles answer as the specification does, for every assignment of a small round. -/
import Derived.RangeFuncKeeps
import Derived.RangeFuncCalls
import Derived.RangeFuncLeaves
import Derived.OrdersIn
import Derived.WalkKit
import Derived.Lib.SliceRun
import Derived.LoopNIn
import Derived.KernelRfl
import Derived.Laws.Closers25b
import Derived.Laws.Shifts
import Derived.ProofKit
import Derived.OpenShut
import Derived.ChangeOld
import Derived.Below
import Derived.SizedLaws
/- The engine: weakest preconditions over frames that are functions; one lemma an operation. No program in sight. -/
namespace Go.Fx
open Go Go.RowKit

/-! ### Frames as functions -/
structure Env where
  f : Nat → Value
  /-- the blocks of the calls that ranges over functions have put off: none of them holds one -/
  ds : List Nat
instance : CoeFun Env (fun _ => Nat → Value) := ⟨Env.f⟩
theorem Env.ext' {ρ ρ' : Env} (h : ∀ t, ρ t = ρ' t) (hd : ρ.ds = ρ'.ds) : ρ = ρ' := by
  obtain ⟨f, ds⟩ := ρ
  obtain ⟨f', ds'⟩ := ρ'
  have : f = f' := funext h
  simp only at hd
  subst this hd; rfl
def upd (ρ : Env) (d : Nat) (v : Value) : Env := ⟨fun t => if t = d then v else ρ t, ρ.ds⟩
/-- a deferred mark -/
def dcol (D : Nat) : Deferred := { target := .collected D, args := #[] }
def updO (ρ : Env) (d : Option Nat) (v : Value) : Env := match d with | some d => upd ρ d v | none => ρ
def ev (ρ : Env) : Operand → Value
  | .tmp t => ρ t
  | .const v => v
  | .global g => .pointer (some ⟨g, 0, none⟩)
  | .func f => .func (.func f) #[] #[]

theorem upd_same (ρ : Env) (d : Nat) (v : Value) : upd ρ d v d = v := by simp [upd]
theorem upd_other (ρ : Env) (d : Nat) (v : Value) {t : Nat} (h : t ≠ d) : upd ρ d v t = ρ t := by simp [upd, h]

/-- the fence without bounds; r: the round's number, if a round's body is walked -/
def FW (r : Option Nat) : Fence := { fn := fun _ => True, depth := none, alive := false, round := r }
theorem FW_none : FW none = Fence.wide := rfl
structure IsAct (n : Nat) (ρ : Env) (a : Act) : Prop where
  size : a.tmps.size = n
  defers : a.defers = ρ.ds.map dcol
  get : ∀ t, a.tmps.getD t undef = ρ t

theorem IsAct.eval {n : Nat} {ρ : Env} {a : Act} (h : IsAct n ρ a) : a.eval = ev ρ := by
  funext x
  cases x <;> simp [Act.eval, ev, h.get]

theorem IsAct.put {n : Nat} {ρ : Env} {a : Act} (h : IsAct n ρ a) {d : Option Nat} (hd : d.all (· < n) = true) (v : Value) : IsAct n (updO ρ d v) (a.put d v) := by
  cases d with
  | none => simpa [Act.put, updO] using h
  | some d =>
    have hd' : d < a.tmps.size := by have := h.size; simp at hd; omega
    refine ⟨by simp [Act.put, h.size], by simp [Act.put, h.defers, updO, upd], fun t => ?_⟩
    simp only [Act.put, updO, upd]
    by_cases ht : t = d
    · subst ht; simp [hd']
    · rw [if_neg ht, ← h.get t]
      simp [Array.getD_eq_getD_getElem?, Ne.symm ht]

theorem IsAct.yielded {n : Nat} {ρ : Env} {a : Act} (h : IsAct n ρ a) (ops : Array Oper) (j : Nat) :
    yielded ops a.tmps j = match (ops[j]?).bind (·.dst) with | some d => (match (ρ d : Value) with | .bool b => some b | _ => none) | none => none := by
  unfold Go.yielded
  cases hd : (ops[j]?).bind (·.dst) with
  | none => simp
  | some d =>
    simp only [Option.bind_some]
    have hg := h.get d
    rw [Array.getD_eq_getD_getElem?] at hg
    cases he : a.tmps[d]? with
    | none => rw [he] at hg; simp only [Option.getD_none] at hg; rw [← hg]; rfl
    | some x => rw [he] at hg; simp only [Option.getD_some] at hg; rw [hg]; cases ρ d <;> rfl

/-! ### wp over such frames -/
variable {P : Program} {r : Option Nat} {n : Nat}

abbrev Post := Exit → Env → World → Prop
def lift (n : Nat) (Q : Post) : Exit → Act → World → Prop := fun e a w => (∀ c, e ≠ .panic c) ∧ ∃ ρ, IsAct n ρ a ∧ Q e ρ w

def Wp (P : Program) (r : Option Nat) (n : Nat) (c : Code) (Q : Post) (ρ : Env) (w : World) : Prop :=
  ∀ a, IsAct n ρ a → c.wpIn (FW r) 0 P (lift n Q) a w

/-- one operation, in any frame that looks like ρ: what it yields, and the world behind it -/
def Run1 (P : Program) (r : Option Nat) (ρ : Env) (w : World) (o : Oper) (V : Value → World → Prop) : Prop :=
  match (Oper.semAt r (ev ρ) o).run P w with
  | .ok (.value v) w' => V v w'
  | .ok .skip w' => V undef w'
  | .ok (.enter f args) w' => CallsIn (FW r) 0 P f args w' fun e w'' => ∃ v, e = .returned v ∧ V v w''
  | .ok (.round l f tmps assign body) w' => RoundIn (FW r) 0 P l f tmps assign body w' fun e w'' => ∃ v, e = .returned v ∧ V v w''
  | _ => False

theorem Run1.mono {ρ : Env} {w : World} {o : Oper} {V V' : Value → World → Prop} (h : Run1 P r ρ w o V) (hV : ∀ v w', V v w' → V' v w') : Run1 P r ρ w o V' := by
  unfold Run1 at *
  split <;> rename_i hr <;> simp only [hr] at h
  · exact hV _ _ h
  · exact hV _ _ h
  · exact h.mono fun e w' ⟨v, he, hv⟩ => ⟨v, he, hV _ _ hv⟩
  · exact h.mono fun e w' ⟨v, he, hv⟩ => ⟨v, he, hV _ _ hv⟩

theorem Run1.wpIn {ρ : Env} {w : World} {o : Oper} {V : Value → World → Prop} {a : Act} {K : Act → World → Prop} {Q : Exit → Act → World → Prop} (ha : IsAct n ρ a)
    (h : Run1 P r ρ w o V) (hK : ∀ v w', V v w' → K (a.put o.dst v) w') : o.wpIn (FW r) 0 P a w K Q := by
  unfold Run1 at h
  unfold Oper.wpIn
  rw [ha.eval]
  refine ⟨fun f _ => trivial, ?_⟩
  show o.uponIn (FW r) 0 P a K Q ((Oper.semAt r (ev ρ) o).run P w)
  revert h
  generalize (Oper.semAt r (ev ρ) o).run P w = res
  intro h
  cases res with
  | halt x w' => simp at h
  | ok nx w' =>
    cases nx <;> simp only at h <;> simp only [Oper.uponIn] <;> try exact h.elim
    case value v => exact hK _ _ h
    case skip => exact hK _ _ h
    case enter f args =>
      refine ⟨fun hd => by simp [FW] at hd, h.mono fun e w'' ⟨v, he, hv⟩ => ?_⟩
      subst he; exact hK _ _ hv
    case round l f tmps assign body =>
      refine ⟨fun hd => by simp [FW] at hd, h.mono fun e w'' ⟨v, he, hv⟩ => ?_⟩
      subst he; exact hK _ _ hv

/-! ### Rules -/
variable {Q : Post} {ρ : Env} {w : World}

def thenE (next : Env → World → Prop) (Q : Post) : Post := fun e ρ w => match e with
  | .normal => next ρ w
  | e => Q e ρ w
def inB (id : Nat) (Q : Post) : Post := fun e ρ w => match e with
  | .exit id' => if id' = id then Q .normal ρ w else Q (.exit id') ρ w
  | e => Q e ρ w

theorem Wp.mono {c : Code} {Q' : Post} (h : Wp P r n c Q ρ w) (hq : ∀ e ρ w, Q e ρ w → Q' e ρ w) : Wp P r n c Q' ρ w :=
  fun a ha => wpIn_mono (h a ha) fun _ _ _ ⟨hp, ρ', h1, h2⟩ => ⟨hp, ρ', h1, hq _ _ _ h2⟩

theorem Wp_skip (h : Q .normal ρ w) : Wp P r n .skip Q ρ w := fun _ ha => wpIn_skip ⟨(fun _ h => by cases h), ρ, ha, h⟩
theorem Wp_exit {id : Nat} (h : Q (.exit id) ρ w) : Wp P r n (.exit id) Q ρ w := fun _ ha => wpIn_exit ⟨(fun _ h => by cases h), ρ, ha, h⟩
theorem Wp_ret (h : Q .ret ρ w) : Wp P r n .ret Q ρ w := fun _ ha => wpIn_ret ⟨(fun _ h => by cases h), ρ, ha, h⟩
theorem Wp_seq {x y : Code} (h : Wp P r n x (thenE (Wp P r n y Q) Q) ρ w) : Wp P r n (.seq x y) Q ρ w := fun a ha =>
  wpIn_seq (wpIn_mono (h a ha) fun e a' w' ⟨hp, ρ', h1, h2⟩ => by
    cases e <;> first | exact h2 a' h1 | exact ⟨hp, ρ', h1, h2⟩)
theorem Wp_block {id : Nat} {c : Code} (h : Wp P r n c (inB id Q) ρ w) : Wp P r n (.block id c) Q ρ w := fun a ha =>
  wpIn_block (wpIn_mono (h a ha) fun e a' w' ⟨hp, ρ', h1, h2⟩ => by
    cases e with
    | exit id' =>
      simp only [Exit.inBlock]
      simp only [inB] at h2
      split <;> rename_i hid
      · rw [if_pos hid] at h2; exact ⟨(fun _ h => by cases h), ρ', h1, h2⟩
      · rw [if_neg hid] at h2; exact ⟨(fun _ h => by cases h), ρ', h1, h2⟩
    | _ => exact ⟨hp, ρ', h1, h2⟩)
theorem Wp_cond {c : Operand} {x y : Code} {t : Bool} (hc : ev ρ c = .bool t) (ht : t = true → Wp P r n x Q ρ w) (hf : t = false → Wp P r n y Q ρ w) : Wp P r n (.cond c x y) Q ρ w := fun a ha =>
  wpIn_cond_split (t := t) (by rw [ha.eval]; exact hc) (fun h => ht h a ha) (fun h => hf h a ha)
theorem Wp_cond_t {c : Operand} {x y : Code} (hc : ev ρ c = .bool true) (h : Wp P r n x Q ρ w) : Wp P r n (.cond c x y) Q ρ w := Wp_cond hc (fun _ => h) (fun h => by cases h)
theorem Wp_cond_f {c : Operand} {x y : Code} (hc : ev ρ c = .bool false) (h : Wp P r n y Q ρ w) : Wp P r n (.cond c x y) Q ρ w := Wp_cond hc (fun h => by cases h) (fun _ => h)
section scope
variable {b : Frame} {a : Act} {k : List Item} {cs : List Frame}
theorem stepR_scope {c : Code} : step P (lone (b.atR a (.code (.scope c) :: k)) cs w) = .next (lone (b.atR a (.code c :: .inScope c :: k)) cs w) :=
  step_lone_go (by simp [stepG, stepG.exec, Frame.atR])
theorem stepR_inScope {c : Code} : step P (lone (b.atR a (.inScope c :: k)) cs w) = .next (lone (b.atR a k) cs w) :=
  step_lone_go (by simp [stepG, stepG.exec, Frame.atR])
end scope
def noG (Q : Post) : Post := fun e ρ w => match e with
  | .goto _ => False
  | e => Q e ρ w
/-- a scope whose labels are not jumped to -/
theorem Wp_scope {c : Code} (h : Wp P r n c (noG Q) ρ w) : Wp P r n (.scope c) Q ρ w := fun a ha b k cs hro hb hr => by
  have h0 : (lone (b.atR a (.code (.scope c) :: k)) cs w).fenced P (FW r) := fenced_calm hb hr rfl
  obtain ⟨e, a₁, w₁, ⟨hp, ρ', ha', hq⟩, harr⟩ := h a ha b (.inScope c :: k) cs hro hb hr
  cases e with
  | normal => exact ⟨.normal, a₁, w₁, ⟨hp, ρ', ha', hq⟩, .head h0 stepR_scope (StepsIn.trans harr (.one (fenced_calm hb hr rfl) stepR_inScope))⟩
  | exit id => exact ⟨.exit id, a₁, w₁, ⟨hp, ρ', ha', hq⟩, .of_steps (.one h0 stepR_scope) ⟨fun k' hk => harr.1 k' (by simp [exitTo, hk]), fun hr' hk => harr.2 hr' (by simp [exitTo, hk])⟩⟩
  | goto l => exact hq.elim
  | ret => exact ⟨_, a₁, w₁, ⟨hp, ρ', ha', hq⟩, .of_steps (.one h0 stepR_scope) harr⟩
  | panic ch => exact absurd rfl (hp ch)
  | outgrown => exact ⟨_, a₁, w₁, ⟨hp, ρ', ha', hq⟩, .of_steps (.one h0 stepR_scope) harr⟩
theorem Wp_label {l : Nat} (h : Q .normal ρ w) : Wp P r n (.label l) Q ρ w := fun _ ha => wpIn_label ⟨(fun _ h => by cases h), ρ, ha, h⟩

/-! ### Regions in the order of the text -/
def Rg (P : Program) (r : Option Nat) (n : Nat) (ops : List Oper) (l : List Oper) (Q : Post) (ρ : Env) (w : World) : Prop :=
  ∀ a, IsAct n ρ a → wpListIn (FW r) 0 P ops.toArray (lift n Q) l a w

theorem Wp_region {id : Nat} {l : List Oper} (h : Rg P r n l l Q ρ w) : Wp P r n (.region id l.toArray false) Q ρ w := fun a ha => wpIn_region_lit (h a ha)
variable {ops rest : List Oper} {o : Oper}
theorem Rg_nil (h : Q .normal ρ w) : Rg P r n ops [] Q ρ w := fun _ ha => ⟨(fun _ h => by cases h), ρ, ha, h⟩

def asB : Value → Option Bool
  | .bool b => some b
  | _ => none
def yieldedE (ops : List Oper) (ρ : Env) (j : Nat) : Option Bool := match (ops[j]?).bind (·.dst) with
  | some d => asB (ρ d)
  | none => none
theorem IsAct.yieldedE {a : Act} (h : IsAct n ρ a) : Go.yielded ops.toArray a.tmps = yieldedE ops ρ := by
  funext j
  rw [h.yielded]
  simp only [Fx.yieldedE, List.getElem?_toArray]
  cases (ops[j]?).bind (·.dst) with
  | none => rfl
  | some d => simp only [asB]

theorem Rg_cons (hw : Region.wanted o (yieldedE ops ρ) = true) (hd : o.dst.all (· < n) = true)
    (h : Run1 P r ρ w o fun v w' => Rg P r n ops rest Q (updO ρ o.dst v) w') : Rg P r n ops (o :: rest) Q ρ w := fun a ha => by
  simp only [wpListIn, ha.yieldedE, hw, if_true]
  exact h.wpIn ha fun v w' hv => hv _ (ha.put hd v)
theorem Rg_skip (hw : Region.wanted o (yieldedE ops ρ) = false) (hd : o.dst.all (· < n) = true) (h : Rg P r n ops rest Q (updO ρ o.dst undef) w) : Rg P r n ops (o :: rest) Q ρ w := fun a ha => by
  simp only [wpListIn, ha.yieldedE, hw, Bool.false_eq_true, if_false]
  exact ⟨fun _ _ => trivial, h _ (ha.put hd undef)⟩

section
variable {d : Nat} {op : Op} {ty : TypeId} {pos : String} {aft : Array Edge}
/-- an operation without a guard -/
theorem Rg_op (hd : decide (d < n) = true) (h : Run1 P r ρ w ⟨some d, op, ty, pos, aft, none⟩ fun v w' => Rg P r n ops rest Q (upd ρ d v) w') :
    Rg P r n ops (⟨some d, op, ty, pos, aft, none⟩ :: rest) Q ρ w := Rg_cons rfl (by simpa using hd) h
theorem Rg_op_ (h : Run1 P r ρ w ⟨none, op, ty, pos, aft, none⟩ fun _ w' => Rg P r n ops rest Q ρ w') :
    Rg P r n ops (⟨none, op, ty, pos, aft, none⟩ :: rest) Q ρ w := Rg_cons rfl rfl h
/-- one whose guard lets it run -/
theorem Rg_opg {j dj : Nat} {b : Bool} (hj : (ops[j]?).bind (·.dst) = some dj) (hb : ρ dj = .bool b) (hd : decide (d < n) = true)
    (h : Run1 P r ρ w ⟨some d, op, ty, pos, aft, some (j, b)⟩ fun v w' => Rg P r n ops rest Q (upd ρ d v) w') :
    Rg P r n ops (⟨some d, op, ty, pos, aft, some (j, b)⟩ :: rest) Q ρ w :=
  Rg_cons (by simp [Region.wanted, yieldedE, hj, hb, asB]) (by simpa using hd) h
/-- one whose guard shuts it out: by the guard's value, or because the guard's operation did not run itself -/
theorem Rg_opx {j dj : Nat} {b : Bool} (hj : (ops[j]?).bind (·.dst) = some dj) (hb : asB (ρ dj) ≠ some b) (hd : decide (d < n) = true)
    (h : Rg P r n ops rest Q (upd ρ d undef) w) : Rg P r n ops (⟨some d, op, ty, pos, aft, some (j, b)⟩ :: rest) Q ρ w :=
  Rg_skip (by simp only [Region.wanted, yieldedE, hj]; simpa using hb) (by simpa using hd) h
end

/-! ### Functions -/
/-- the frame at a call's entry -/
def init (args : List Value) : Env := ⟨fun t => args.getD t undef, []⟩
/-- what a result variable holds -/
def ResV (P : Program) (ρ : Env) (w : World) : ResultVar → Value → Prop
  | .tmp t, v => ρ t = v
  | .cell a t, v => ∃ ad, ρ a = .pointer (some ad) ∧ (loadVar t ad).run P w = .ok v w
def ResVs (P : Program) (ρ : Env) (w : World) : List ResultVar → List Value → Prop
  | [], [] => True
  | x :: xs, v :: vs => ResV P ρ w x v ∧ ResVs P ρ w xs vs
  | _, _ => False
/-- one value; a tuple, if there are more or none -/
def tupled : List Value → Value
  | [v] => v
  | vs => .tuple vs.toArray

def resM (tmps : Array Value) : ResultVar → Sem Value
  | .tmp t => pure (tmps.getD t undef)
  | .cell a t => do loadVar t (← asAddr (tmps.getD a undef))

theorem run_results {tmps : Array Value} (hg : ∀ t, tmps.getD t undef = ρ t) : ∀ (xs : List ResultVar) (vs : List Value), ResVs P ρ w xs vs →
    (xs.mapM (resM tmps)).run P w = .ok vs w
  | [], [], _ => by simp
  | [], _ :: _, h => h.elim
  | _ :: _, [], h => h.elim
  | x :: xs, v :: vs, ⟨h1, h2⟩ => by
    have ih := run_results hg xs vs h2
    have h3 : (resM tmps x).run P w = .ok v w := by
      cases x with
      | tmp t =>
        simp only [ResV] at h1
        simp only [resM, Sem.run_pure, hg, h1]
      | cell a t =>
        obtain ⟨ad, e1, e2⟩ := h1
        simp only [resM, hg, e1, asAddr, Sem.run_bind, Sem.run_pure, Result.andThen_ok, e2]
    simp only [List.mapM_cons, Sem.run_bind, h3, Result.andThen_ok, ih, Sem.run_pure]

theorem results_of {fn : Func} {xs : List ResultVar} {vs : List Value} (hr : fn.results = xs.toArray) {tmps : Array Value} (hg : ∀ t, tmps.getD t undef = ρ t) (h : ResVs P ρ w xs vs) :
    (results fn tmps).run P w = .ok (tupled vs) w := by
  have h1 := run_results hg xs vs h
  show (do let vs ← fn.results.mapM (resM tmps); pure (if h : vs.size = 1 then vs[0] else .tuple vs) : Sem Value).run P w = _
  rw [hr, List.mapM_toArray]
  simp only [Sem.run_bind, map_eq_pure_bind, Sem.run_pure, h1, Result.andThen_ok]
  match vs with
  | [] => rfl
  | [v] => rfl
  | _ :: _ :: _ => rfl

/-- the marks are taken up: their blocks are shut -/
def Closes : List Nat → World → World → Prop
  | [], w, w' => w' = w
  | D :: ds, w, w' => w.heap[D]? = some (.deferred (some [])) ∧ Closes ds (w.putObj D (.deferred none)) w'
/-- what a function's body must come to -/
def bodyQ (P : Program) (xs : List ResultVar) (R : Value → World → Prop) : Post := fun e ρ w => match e with
  | .normal | .ret => ∃ w', Closes ρ.ds w w' ∧ ∃ vs, ResVs P ρ w' xs vs ∧ R (tupled vs) w'
  | _ => False

/-- a call of function f: it returns, and R of its value and world -/
def Fn (P : Program) (f : FuncId) (args : List Value) (w : World) (R : Value → World → Prop) : Prop :=
  CallsIn (FW none) 0 P f args.toArray w fun e w' => ∃ v, e = .returned v ∧ R v w'

theorem Fn.mono {f : FuncId} {args : List Value} {R R' : Value → World → Prop} (h : Fn P f args w R) (hr : ∀ v w', R v w' → R' v w') : Fn P f args w R' :=
  CallsIn.mono h fun _ _ ⟨v, he, hv⟩ => ⟨v, he, hr _ _ hv⟩
theorem Fn.calls {f : FuncId} {args : List Value} {R : Value → World → Prop} (h : Fn P f args w R) : Calls P f args.toArray w fun e w' => ∃ v, e = .returned v ∧ R v w' :=
  callsIn_wide.1 h
theorem Fn.inRound {f : FuncId} {args : List Value} {R : Value → World → Prop} (h : Fn P f args w R) (r : Option Nat) : CallsIn (FW r) 0 P f args.toArray w fun e w' => ∃ v, e = .returned v ∧ R v w' :=
  match r with
  | none => h
  | some l => CallsIn.inRound l h

theorem leaves_of {fn : Func} {tmps : Array Value} {R : Ending → World → Prop} {v : Value} : ∀ {ds : List Nat} {w w' : World}, Closes ds w w' → (results fn tmps).run P w' = .ok v w' → R (.returned v) w' →
    LeavesInM (FW none) 0 P fn tmps R (ds.map dcol) .returning w
  | [], w, w', hc, hr, h => by
    have e : w' = w := hc
    subst e
    exact ⟨v, hr, h⟩
  | D :: ds, w, w', hc, hr, h => ⟨by simp, .inl ⟨D, _, rfl, run_takeDeferred hc.1, leaves_of hc.2 hr h⟩⟩

theorem Fn_of_Wp {f : FuncId} {fn : Func} {c : Code} {args : List Value} {xs : List ResultVar} {R : Value → World → Prop} (hf : P.funcs[f]? = some fn) (hb : fn.body = some c) (hn : fn.ntmps = n)
    (hr : fn.results = xs.toArray) (hl : decide (args.length ≤ n) = true) (h : Wp P none n c (bodyQ P xs R) (init args) w) : Fn P f args w R := by
  have hl' : args.length ≤ n := by simpa using hl
  refine callsIn_of_wp_marks hf hb trivial (wpIn_mono (h { tmps := args.toArray ++ Array.replicate (fn.ntmps - args.toArray.size) undef, defers := [] } ⟨?_, rfl, ?_⟩) ?_)
  · simp [hn]; omega
  · intro t
    simp only [init, Array.getD_eq_getD_getElem?, List.getD_eq_getElem?_getD, Array.getElem?_append, List.size_toArray, List.getElem?_toArray]
    split
    · rfl
    · rename_i ht
      have : args[t]? = none := by simp; omega
      rw [this]
      simp only [Array.getElem?_replicate]
      split <;> rfl
  · rintro e a w' ⟨_, ρ', h1, h2⟩
    cases e <;> simp only [bodyQ] at h2 <;> try exact h2.elim
    all_goals
      obtain ⟨w2, hc, vs, h3, h4⟩ := h2
      simp only [bodyPostM, h1.defers]
      exact leaves_of hc (results_of hr h1.get h3) ⟨_, rfl, h4⟩

attribute [irreducible] Wp Rg Run1 Fn
end Go.Fx
/- What values in memory read as: data types of plain Lean read off cells; what a step of the world leaves as it was. No program in sight. -/
set_option linter.unusedSimpArgs false
set_option linter.unusedVariables false
namespace Go.Fx
open Go Go.RowKit

/-- below the heap's size of old nothing has turned: what a call leaves -/
structure Ext (w w' : World) : Prop where
  os : w'.os = w.os
  tape : w'.tape = w.tape
  output : w'.output = w.output
  size : w.heap.size ≤ w'.heap.size
  block : ∀ k, k < w.heap.size → w'.heap[k]? = w.heap[k]?
  drawn : w.drawn ≤ w'.drawn
theorem Ext.below {w w' : World} (h : Ext w w') : Below w.heap.size w w' := ⟨h.os, h.tape, h.output, h.size, h.block⟩
theorem Ext.of_below {w w' : World} (h : Below w.heap.size w w') (hd : w.drawn ≤ w'.drawn) : Ext w w' := ⟨h.os, h.tape, h.output, h.size, h.block, hd⟩
theorem Ext.refl (w : World) : Ext w w := .of_below (Below.refl _ _) (Nat.le_refl _)
theorem Ext.trans {a b c : World} (h : Ext a b) (k : Ext b c) : Ext a c := .of_below (Below.trans h.below (Below.mono k.below h.size)) (Nat.le_trans h.drawn k.drawn)
theorem Ext.alloc (w : World) (o : Obj) : Ext w (w.alloc o) := .of_below ((Below.refl _ _).alloc (Nat.le_refl _) o) (Nat.le_refl _)
theorem Ext.drew (w : World) : Ext w w.drew := .of_below ((Below.refl _ _).drew) (Nat.le_succ _)

/-- block k is there, and none of the owned ones -/
structure Sh (w : World) (O : List Nat) (k : Nat) : Prop where
  lt : k < w.heap.size
  no : k ∉ O

/-- from (w, O) to (w', O'): whatever was there and not owned is as it was, and not owned now -/
structure Step (O : List Nat) (w : World) (O' : List Nat) (w' : World) : Prop where
  size : w.heap.size ≤ w'.heap.size
  keep : ∀ k, k < w.heap.size → k ∉ O → k ∉ O' ∧ w'.heap[k]? = w.heap[k]?

theorem Step.refl (O : List Nat) (w : World) : Step O w O w := ⟨Nat.le_refl _, fun _ _ h => ⟨h, rfl⟩⟩
theorem Step.trans {O O' O'' : List Nat} {w w' w'' : World} (h : Step O w O' w') (k : Step O' w' O'' w'') : Step O w O'' w'' :=
  ⟨Nat.le_trans h.size k.size, fun b hb hn => let ⟨h1, h2⟩ := h.keep b hb hn; let ⟨h3, h4⟩ := k.keep b (Nat.lt_of_lt_of_le hb h.size) h1; ⟨h3, h4.trans h2⟩⟩
theorem Step.ext {O : List Nat} {w w' : World} (h : Ext w w') : Step O w O w' := ⟨h.size, fun k hk hn => ⟨hn, h.block k hk⟩⟩
theorem Sh.step {O O' : List Nat} {w w' : World} {k : Nat} (h : Sh w O k) (s : Step O w O' w') : Sh w' O' k := ⟨Nat.lt_of_lt_of_le h.lt s.size, (s.keep k h.lt h.no).1⟩

/-- how a datum of α stands in n cells -/
structure Rp (α : Type) where
  n : Nat
  rd : World → List Nat → List Value → α → Prop
  len : ∀ {w O vs x}, rd w O vs x → vs.length = n
  one : ∀ {w O vs x}, rd w O vs x → ∀ v ∈ vs, v.oneCell' = true
  step : ∀ {w O w' O' vs x}, Step O w O' w' → rd w O vs x → rd w' O' vs x

def rInt (k : IntKind) : Rp Int where
  n := 1
  rd _ _ vs x := vs = [.int k x] ∧ k.min ≤ x ∧ x ≤ k.max
  len h := by rw [h.1]; rfl
  one h := by rw [h.1]; intro v hv; simp at hv; subst hv; rfl
  step _ h := h
def rPair {α β : Type} (r : Rp α) (s : Rp β) : Rp (α × β) where
  n := r.n + s.n
  rd w O vs x := ∃ v1 v2, vs = v1 ++ v2 ∧ r.rd w O v1 x.1 ∧ s.rd w O v2 x.2
  len := by rintro _ _ _ _ ⟨v1, v2, rfl, h1, h2⟩; simp [r.len h1, s.len h2]
  one := by
    rintro _ _ _ _ ⟨v1, v2, rfl, h1, h2⟩ v hv
    rcases List.mem_append.1 hv with hv | hv
    · exact r.one h1 v hv
    · exact s.one h2 v hv
  step := by rintro _ _ _ _ _ _ hs ⟨v1, v2, rfl, h1, h2⟩; exact ⟨v1, v2, rfl, r.step hs h1, s.step hs h2⟩
def rVia {α β : Type} (f : β → α) (r : Rp α) : Rp β where
  n := r.n
  rd w O vs x := r.rd w O vs (f x)
  len h := r.len h
  one h := r.one h
  step hs h := r.step hs h
/-- the r.n cells from p on read as x -/
structure PtR {α : Type} (r : Rp α) (w : World) (O : List Nat) (p : Addr) (x : α) : Prop where
  spot : p.spot = none
  sh : Sh w O p.block
  cells : ∃ cs T fz, w.heap[p.block]? = some (.cells cs T fz) ∧ p.off + r.n ≤ cs.size ∧ r.rd w O ((cs.toList.drop p.off).take r.n) x

theorem PtR.step {α : Type} {r : Rp α} {w w' : World} {O O' : List Nat} {p : Addr} {x : α} (h : PtR r w O p x) (s : Step O w O' w') : PtR r w' O' p x :=
  ⟨h.spot, h.sh.step s, let ⟨cs, T, fz, h1, h2, h3⟩ := h.cells; ⟨cs, T, fz, ((s.keep _ h.sh.lt h.sh.no).2).trans h1, h2, r.step s h3⟩⟩

/-- a slice value's address and capacity, and what its elements read as -/
structure SlR {α : Type} (r : Rp α) (w : World) (O : List Nat) (a : Option Addr) (c : Nat) (xs : List α) : Prop where
  le : xs.length ≤ c
  cap : c ≤ maxLen
  nil : a = none → xs = [] ∧ c = 0
  el : ∀ ad, a = some ad → ∀ i (h : i < xs.length), PtR r w O (ad.add (i * r.n)) xs[i]

theorem SlR.step {α : Type} {r : Rp α} {w w' : World} {O O' : List Nat} {a : Option Addr} {c : Nat} {xs : List α} (h : SlR r w O a c xs) (s : Step O w O' w') : SlR r w' O' a c xs :=
  ⟨h.le, h.cap, h.nil, fun ad ha i hi => (h.el ad ha i hi).step s⟩
theorem SlR.nil_ {α : Type} {r : Rp α} {w : World} {O : List Nat} : SlR r w O none 0 ([] : List α) := ⟨Nat.le_refl _, Nat.zero_le _, fun _ => ⟨rfl, rfl⟩, fun _ h => by cases h⟩
theorem SlR.len {α : Type} {r : Rp α} {w : World} {O : List Nat} {a : Option Addr} {c : Nat} {xs : List α} (h : SlR r w O a c xs) : xs.length ≤ 9223372036854775807 := by
  have := h.le; have := h.cap; unfold maxLen at *; omega
theorem SlR.at {α : Type} {r : Rp α} {w : World} {O : List Nat} {a : Option Addr} {c : Nat} {xs : List α} (h : SlR r w O a c xs) {i : Nat} (hi : i < xs.length) :
    ∃ ad, a = some ad ∧ PtR r w O (ad.add (i * r.n)) xs[i] := by
  cases a with
  | none => have := (h.nil rfl).1; subst this; simp at hi
  | some ad => exact ⟨ad, rfl, h.el ad rfl i hi⟩

def rSl {α : Type} (r : Rp α) : Rp (List α) where
  n := 1
  rd w O vs xs := ∃ a c, vs = [.slice a xs.length c] ∧ SlR r w O a c xs
  len := by rintro _ _ _ _ ⟨a, c, rfl, _⟩; rfl
  one := by rintro _ _ _ _ ⟨a, c, rfl, _⟩ v hv; simp at hv; subst hv; rfl
  step := by rintro _ _ _ _ _ _ s ⟨a, c, rfl, h⟩; exact ⟨a, c, rfl, h.step s⟩

/-- cells in a row, read element by element -/
def Els {α : Type} (q : Rp α) (w : World) (O : List Nat) : List Value → List α → Prop
  | cs, [] => cs = []
  | cs, x :: xs => ∃ v1 v2, cs = v1 ++ v2 ∧ q.rd w O v1 x ∧ Els q w O v2 xs
section
variable {α : Type} {q : Rp α} {w w' : World} {O O' : List Nat}
theorem Els.step (s : Step O w O' w') : ∀ {cs : List Value} {xs : List α}, Els q w O cs xs → Els q w' O' cs xs
  | _, [], h => h
  | _, _ :: _, ⟨v1, v2, h1, h2, h3⟩ => ⟨v1, v2, h1, q.step s h2, Els.step s h3⟩
theorem Els.len : ∀ {cs : List Value} {xs : List α}, Els q w O cs xs → cs.length = xs.length * q.n
  | _, [], h => by simp [show _ = _ from h]
  | _, _ :: xs, ⟨v1, v2, h1, h2, h3⟩ => by
    have := Els.len h3
    rw [h1, List.length_append, this, q.len h2, List.length_cons, Nat.add_mul]; omega
theorem Els.one : ∀ {cs : List Value} {xs : List α}, Els q w O cs xs → ∀ v ∈ cs, v.oneCell' = true
  | _, [], h => by simp [show _ = _ from h]
  | _, _ :: xs, ⟨v1, v2, h1, h2, h3⟩ => by
    intro v hv
    rw [h1] at hv
    rcases List.mem_append.1 hv with hv | hv
    · exact q.one h2 v hv
    · exact Els.one h3 v hv
theorem Els.nil : Els q w O [] ([] : List α) := rfl
theorem Els.append : ∀ {c1 c2 : List Value} {xs ys : List α}, Els q w O c1 xs → Els q w O c2 ys → Els q w O (c1 ++ c2) (xs ++ ys)
  | _, _, [], _, h, k => by rw [show _ = _ from h]; simpa using k
  | _, c2, _ :: xs, _, ⟨v1, v2, h1, h2, h3⟩, k => ⟨v1, v2 ++ c2, by rw [h1, List.append_assoc], h2, Els.append h3 k⟩
theorem Els.get : ∀ {cs : List Value} {xs : List α}, Els q w O cs xs → ∀ i (h : i < xs.length), q.rd w O ((cs.drop (i * q.n)).take q.n) xs[i]
  | _, [], _, i, h => by simp at h
  | cs, x :: xs, ⟨v1, v2, h1, h2, h3⟩, i, h => by
    have hl := q.len h2
    cases i with
    | zero =>
      rw [h1]
      simp only [Nat.zero_mul, List.drop_zero, List.getElem_cons_zero]
      rw [← hl, List.take_left]; exact h2
    | succ i =>
      have := Els.get h3 i (by simpa using h)
      rw [h1]
      have e : (v1 ++ v2).drop ((i + 1) * q.n) = v2.drop (i * q.n) := by
        rw [Nat.add_mul, Nat.one_mul, Nat.add_comm, ← List.drop_drop, ← hl, List.drop_left]
      rw [e]; simpa using this
/-- what stands between -/
theorem Els.take : ∀ {cs : List Value} {xs : List α}, Els q w O cs xs → ∀ k, Els q w O (cs.take (k * q.n)) (xs.take k)
  | _, [], h, k => by rw [show _ = _ from h]; simp [Els]
  | _, _ :: _, _, 0 => by simp [Els]
  | _, x :: xs, ⟨v1, v2, h1, h2, h3⟩, k + 1 => by
    refine ⟨v1, v2.take (k * q.n), ?_, h2, Els.take h3 k⟩
    rw [h1, Nat.add_mul, Nat.one_mul, Nat.add_comm, ← q.len h2, List.take_append]
    simp
    exact List.take_of_length_le (Nat.le_add_right _ _)
end

/-- the elements of a slice that is read, as cells -/
theorem SlR.cells {α : Type} {q : Rp α} {w : World} {O : List Nat} : ∀ {xs : List α} {ad : Addr} {c : Nat}, SlR q w O (some ad) c xs →
    ∃ cs, Els q w O cs xs ∧ ∀ j u, cs[j]? = some u → w.cell? (ad.add j) = some u := by
  intro xs
  induction xs with
  | nil => intro ad c h; exact ⟨[], rfl, by simp⟩
  | cons x xs ih =>
    intro ad c h
    have h0 := h.el ad rfl 0 (by simp)
    obtain ⟨cs, hcs, hc⟩ := ih (ad := ad.add q.n) (c := c) ⟨by have := h.le; simp at this; omega, h.cap, (fun e => by cases e), fun ad' e i hi => by
      cases e
      have := h.el ad rfl (i + 1) (by simpa using hi)
      rw [Addr.add_add]
      have e : q.n + i * q.n = (i + 1) * q.n := by rw [Nat.add_mul]; omega
      rw [e]; simpa using this⟩
    obtain ⟨h1, h2, cb, e, fz, h3, h4, h5⟩ := h0
    simp only [Nat.zero_mul, Addr.add_zero'] at h1 h2 h3 h4 h5
    refine ⟨(cb.toList.drop ad.off).take q.n ++ cs, ⟨_, cs, rfl, by simpa using h5, hcs⟩, ?_⟩
    intro j u hj
    have hl := q.len h5
    rw [List.getElem?_append] at hj
    have hs : ad = ⟨ad.block, ad.off, none⟩ := by cases ad; simp only at h1; subst h1; rfl
    split at hj
    · rw [List.getElem?_take, List.getElem?_drop] at hj
      split at hj
      · rw [hs, Addr.add_lit]
        simp only [World.cell?, h3, Option.isSome_none, Bool.false_eq_true, if_false]
        simpa using hj
      · cases hj
    · rename_i hge
      have := hc _ _ hj
      rw [Addr.add_add, hl] at this
      rw [hl] at hge
      have e : q.n + (j - q.n) = j := by omega
      rwa [e] at this

/-! what a cell's reading says of the cell -/
section
variable {w : World} {O : List Nat} {v : Value}
theorem un_int {k : IntKind} {x : Int} (h : (rInt k).rd w O [v] x) : v = .int k x ∧ k.min ≤ x ∧ x ≤ k.max := ⟨by simpa using h.1, h.2⟩
theorem un_sl {α : Type} {r : Rp α} {xs : List α} (h : (rSl r).rd w O [v] xs) : ∃ a c, v = .slice a xs.length c ∧ SlR r w O a c xs := by
  obtain ⟨a, c, h1, h2⟩ := h; exact ⟨a, c, by simpa using h1, h2⟩
theorem mk_sl {α : Type} {r : Rp α} {xs : List α} {a : Option Addr} {c : Nat} (h : SlR r w O a c xs) : (rSl r).rd w O [.slice a xs.length c] xs := ⟨a, c, rfl, h⟩
theorem mk_pair {α β : Type} {r : Rp α} {s : Rp β} {v1 v2 : List Value} {x : α} {y : β} (h1 : r.rd w O v1 x) (h2 : s.rd w O v2 y) : (rPair r s).rd w O (v1 ++ v2) (x, y) := ⟨v1, v2, rfl, h1, h2⟩
end

/-! parts of what a pointer leads to -/
theorem parts_of_take {l v1 v2 : List Value} {m n : Nat} (h : l.take (m + n) = v1 ++ v2) (h1 : v1.length = m) (h2 : v2.length = n) : l.take m = v1 ∧ (l.drop m).take n = v2 := by
  subst h1; subst h2
  have hl : v1.length + v2.length ≤ l.length := by
    have := congrArg List.length h
    simp only [List.length_take, List.length_append] at this
    omega
  have e : l = v1 ++ v2 ++ l.drop (v1.length + v2.length) := by rw [← h]; exact (List.take_append_drop _ _).symm
  constructor
  · rw [e, List.append_assoc, List.take_left]
  · rw [e, List.append_assoc, List.drop_left, List.take_left]

theorem Addr.add_spot {p : Addr} (h : p.spot = none) (n : Nat) : p.add n = ⟨p.block, p.off + n, none⟩ := by
  cases p; simp only at h; subst h; exact Addr.add_lit _ _ _

theorem PtR.fst {α β : Type} {r : Rp α} {s : Rp β} {w : World} {O : List Nat} {p : Addr} {x : α × β} (h : PtR (rPair r s) w O p x) : PtR r w O p x.1 := by
  obtain ⟨h1, h2, cs, T, fz, h3, h4, v1, v2, h5, h6, h7⟩ := h
  have hn : (rPair r s).n = r.n + s.n := rfl
  exact ⟨h1, h2, cs, T, fz, h3, by omega, by rw [(parts_of_take h5 (r.len h6) (s.len h7)).1]; exact h6⟩
theorem PtR.snd {α β : Type} {r : Rp α} {s : Rp β} {w : World} {O : List Nat} {p : Addr} {x : α × β} (h : PtR (rPair r s) w O p x) : PtR s w O (p.add r.n) x.2 := by
  obtain ⟨h1, h2, cs, T, fz, h3, h4, v1, v2, h5, h6, h7⟩ := h
  have hn : (rPair r s).n = r.n + s.n := rfl
  rw [Addr.add_spot h1]
  exact ⟨rfl, h2, cs, T, fz, h3, by simp only; omega, by rw [← List.drop_drop, (parts_of_take h5 (r.len h6) (s.len h7)).2]; exact h7⟩
theorem PtR.via {α β : Type} {f : β → α} {r : Rp α} {w : World} {O : List Nat} {p : Addr} {x : β} (h : PtR (rVia f r) w O p x) : PtR r w O p (f x) := ⟨h.spot, h.sh, h.cells⟩
/-- from w to w' nothing of what was there has turned but the blocks K -/
structure Loc (K : List Nat) (w w' : World) : Prop where
  os : w'.os = w.os
  tape : w'.tape = w.tape
  output : w'.output = w.output
  size : w.heap.size ≤ w'.heap.size
  block : ∀ k, k < w.heap.size → k ∉ K → w'.heap[k]? = w.heap[k]?
  drawn : w.drawn ≤ w'.drawn
theorem Loc.refl (K : List Nat) (w : World) : Loc K w w := ⟨rfl, rfl, rfl, Nat.le_refl _, fun _ _ _ => rfl, Nat.le_refl _⟩
theorem Loc.of_ext {K : List Nat} {w w' : World} (h : Ext w w') : Loc K w w' := ⟨h.os, h.tape, h.output, h.size, fun k hk _ => h.block k hk, h.drawn⟩
theorem Loc.ext {w w' : World} (h : Loc [] w w') : Ext w w' := ⟨h.os, h.tape, h.output, h.size, fun k hk => h.block k hk (by simp), h.drawn⟩
theorem Loc.trans {K : List Nat} {a b c : World} (h : Loc K a b) (k : Loc K b c) : Loc K a c :=
  ⟨k.os.trans h.os, k.tape.trans h.tape, k.output.trans h.output, Nat.le_trans h.size k.size, fun i hi hn => (k.block i (Nat.lt_of_lt_of_le hi h.size) hn).trans (h.block i hi hn), Nat.le_trans h.drawn k.drawn⟩
theorem Loc.then {K : List Nat} {a b c : World} (h : Loc K a b) (k : Ext b c) : Loc K a c := h.trans (.of_ext k)
/-- what came with new blocks of one's own counts as before -/
theorem Loc.trans' {K K' : List Nat} {a b c : World} (h : Loc K a b) (k : Loc K' b c) (hk : ∀ i ∈ K', i ∈ K ∨ a.heap.size ≤ i) : Loc K a c :=
  ⟨k.os.trans h.os, k.tape.trans h.tape, k.output.trans h.output, Nat.le_trans h.size k.size, fun i hi hn =>
    (k.block i (Nat.lt_of_lt_of_le hi h.size) (fun hm => (hk i hm).elim hn (fun h => by omega))).trans (h.block i hi hn), Nat.le_trans h.drawn k.drawn⟩
theorem Loc.sub {K K' : List Nat} {a b : World} (h : Loc K a b) (hk : ∀ i ∈ K, i ∈ K' ∨ a.heap.size ≤ i) : Loc K' a b :=
  ⟨h.os, h.tape, h.output, h.size, fun i hi hn => h.block i hi (fun hm => (hk i hm).elim hn (fun h => by omega)), h.drawn⟩
/-- whence a walk speaks: the world, the blocks that were its own there, the marks -/
structure Zx where
  w : World
  K : List Nat
  ds : List Nat
/-- what a function's body has made and may write, block by block (a key 'none': nothing yet), and that nothing else has turned since z; O0: what others own -/
abbrev Ents := List (Option Nat × Obj)
structure St (z : Zx) (O0 : List Nat) (w : World) (bs : Ents) : Prop where
  below : Loc z.K z.w w
  own : ∀ p ∈ bs, ∀ b, p.1 = some b → (b ∈ z.K ∨ z.w.heap.size ≤ b) ∧ w.heap[b]? = some p.2
  nd : (bs.filterMap Prod.fst).Nodup
  dj : ∀ k ∈ O0, k < w.heap.size ∧ k ∉ bs.filterMap Prod.fst
  dsn : z.ds.Nodup
  dfs : ∀ D ∈ z.ds, D ∈ O0 ∧ (D ∈ z.K ∨ z.w.heap.size ≤ D) ∧ w.heap[D]? = some (.deferred (some []))

/-- the owned blocks -/
def ks (bs : Ents) (O0 : List Nat) : List Nat := bs.filterMap Prod.fst ++ O0

section
variable {w0 : Zx} {w w' : World} {O0 : List Nat} {bs : Ents}
theorem St.start {w0 : World} (h : ∀ k ∈ O0, k < w0.heap.size) : St ⟨w0, [], []⟩ O0 w0 [] := ⟨Loc.refl _ _, (fun _ h => by cases h), List.nodup_nil, fun k hk => ⟨h k hk, by simp⟩, List.nodup_nil, fun _ h => by cases h⟩
theorem St.ext {w0 : World} {ds : List Nat} (h : St ⟨w0, [], ds⟩ O0 w bs) : Ext w0 w := h.below.ext
theorem St.lt0 (h : St w0 O0 w bs) : ∀ k ∈ O0, k < w.heap.size := fun k hk => (h.dj k hk).1
theorem St.lt (h : St w0 O0 w bs) {p : Option Nat × Obj} (hp : p ∈ bs) {b : Nat} (hb : p.1 = some b) : b < w.heap.size := (Array.getElem?_eq_some_iff.1 (h.own p hp b hb).2).1
theorem mem_keys {b : Nat} : b ∈ bs.filterMap Prod.fst ↔ ∃ p ∈ bs, p.1 = some b := by simp [List.mem_filterMap]
theorem St.ltw (h : St w0 O0 w bs) : ∀ k ∈ ks bs O0, k < w.heap.size := by
  intro k hk
  rcases List.mem_append.1 hk with hk | hk
  · obtain ⟨p, hp, hb⟩ := mem_keys.1 hk
    exact h.lt hp hb
  · exact h.lt0 k hk
/-- behind a call -/
theorem St.call (h : St w0 O0 w bs) (he : Ext w w') : St w0 O0 w' bs :=
  ⟨h.below.then he, fun p hp b hb => ⟨(h.own p hp b hb).1, by rw [he.block _ (h.lt hp hb)]; exact (h.own p hp b hb).2⟩, h.nd, fun k hk => ⟨Nat.lt_of_lt_of_le (h.dj k hk).1 he.size, (h.dj k hk).2⟩, h.dsn,
   fun D hD => ⟨(h.dfs D hD).1, (h.dfs D hD).2.1, by rw [he.block _ (h.lt0 D (h.dfs D hD).1)]; exact (h.dfs D hD).2.2⟩⟩
/-- a place for what is not there yet -/
theorem St.ghost (h : St w0 O0 w bs) (o : Obj) : St w0 O0 w ((none, o) :: bs) :=
  ⟨h.below, fun p hp b hb => by
    rcases List.mem_cons.1 hp with rfl | hp
    · cases hb
    · exact h.own p hp b hb, by simpa using h.nd, fun k hk => ⟨(h.dj k hk).1, by simpa using (h.dj k hk).2⟩, h.dsn, h.dfs⟩
theorem ks_ghost (o : Obj) : ks ((none, o) :: bs) O0 = ks bs O0 := by simp [ks]
/-- what is no longer written -/
theorem St.drop (h : St w0 O0 w bs) (i : Nat) : St w0 O0 w (bs.eraseIdx i) :=
  ⟨h.below, fun p hp => h.own p (List.mem_of_mem_eraseIdx hp), (List.Sublist.filterMap _ (List.eraseIdx_sublist _ _)).nodup h.nd,
   fun k hk => ⟨(h.dj k hk).1, fun hm => (h.dj k hk).2 ((List.Sublist.filterMap _ (List.eraseIdx_sublist _ _)).subset hm)⟩, h.dsn, h.dfs⟩
theorem Step.drop (w : World) (O0 : List Nat) (bs : Ents) (i : Nat) : Step (ks bs O0) w (ks (bs.eraseIdx i) O0) w :=
  ⟨Nat.le_refl _, fun k _ hn => ⟨fun hm => hn (by
    rcases List.mem_append.1 hm with hm | hm
    · exact List.mem_append_left _ ((List.Sublist.filterMap _ (List.eraseIdx_sublist _ _)).subset hm)
    · exact List.mem_append_right _ hm), rfl⟩⟩
theorem St.dropS (h : St w0 O0 w bs) (i : Nat) : Step (ks bs O0) w (ks (bs.eraseIdx i) O0) w := Step.drop w O0 bs i
/-- all of it -/
theorem Step.all (w : World) (O0 : List Nat) (bs : Ents) : Step (ks bs O0) w O0 w :=
  ⟨Nat.le_refl _, fun k _ hn => ⟨fun hm => hn (List.mem_append_right _ hm), rfl⟩⟩
theorem St.alloc (h : St w0 O0 w bs) (o : Obj) : St w0 O0 (w.alloc o) ((some w.heap.size, o) :: bs) := by
  refine ⟨h.below.then (Ext.alloc w o), ?_, ?_, fun k hk => ⟨by have := (h.dj k hk).1; simp; omega, fun hm => ?_⟩, h.dsn, fun D hD => ⟨(h.dfs D hD).1, (h.dfs D hD).2.1, by rw [heap_alloc_old w o _ (h.lt0 D (h.dfs D hD).1)]; exact (h.dfs D hD).2.2⟩⟩
  · intro p hp b hb
    rcases List.mem_cons.1 hp with rfl | hp
    · cases hb; exact ⟨.inr h.below.size, heap_alloc_new w _⟩
    · refine ⟨(h.own p hp b hb).1, ?_⟩
      rw [heap_alloc_old w o _ (h.lt hp hb)]; exact (h.own p hp b hb).2
  · simp only [List.filterMap_cons, List.nodup_cons]
    refine ⟨fun hm => ?_, h.nd⟩
    obtain ⟨p, hp, e⟩ := mem_keys.1 hm
    have := h.lt hp e
    omega
  · simp only [List.filterMap_cons, List.mem_cons] at hm
    rcases hm with e | hm
    · have := (h.dj k hk).1; omega
    · exact (h.dj k hk).2 hm
theorem Step.alloc (w : World) (O0 : List Nat) (bs : Ents) (o : Obj) : Step (ks bs O0) w (ks ((some w.heap.size, o) :: bs) O0) (w.alloc o) :=
  ⟨by simp, fun k hk hn => ⟨fun hm => by
    simp only [ks, List.filterMap_cons, List.cons_append, List.mem_cons] at hm
    rcases hm with e | hm
    · omega
    · exact hn hm, heap_alloc_old w o k hk⟩⟩
/-- an owned block's object -/
theorem St.get (h : St w0 O0 w bs) {i : Nat} {b : Nat} {o : Obj} (hi : bs[i]? = some (some b, o)) : w.heap[b]? = some o := (h.own _ (List.mem_of_getElem? hi) b rfl).2
/-- what stands behind place i, when entry i is turned into (k', o'): k' is the key of old, or a new block -/
theorem St.put (h : St w0 O0 w bs) {i : Nat} {k k' : Option Nat} {o o' : Obj} (hi : bs[i]? = some (k, o))
    (hx : Loc w0.K w0.w w') (hs : w.heap.size ≤ w'.heap.size) (hk : ∀ b, k' = some b → (k = some b ∨ w.heap.size ≤ b) ∧ w'.heap[b]? = some o')
    (ho : ∀ j, j < w.heap.size → k ≠ some j → w'.heap[j]? = w.heap[j]?) : St w0 O0 w' (bs.set i (k', o')) := by
  have hlt : i < bs.length := (List.getElem?_eq_some_iff.1 hi).1
  have hg : bs[i] = (k, o) := (List.getElem?_eq_some_iff.1 hi).2
  have hmem : (k, o) ∈ bs := List.mem_of_getElem? hi
  -- two places never bear one key
  have hone : ∀ (j l : Nat), ∀ (p q : Option Nat × Obj) b, bs[j]? = some p → bs[l]? = some q → p.1 = some b → q.1 = some b → j = l := by
    intro j l p q b hj hl hp hq
    have hnd := h.nd
    have key : ∀ (bs : Ents) (j l : Nat) (p q : Option Nat × Obj), (bs.filterMap Prod.fst).Nodup → bs[j]? = some p → bs[l]? = some q → p.1 = some b → q.1 = some b → j = l := by
      intro bs
      induction bs with
      | nil => intro j l p q _ hj; simp at hj
      | cons x bs ih =>
        intro j l p q hnd hj hl hp hq
        have hnd' : (bs.filterMap Prod.fst).Nodup := (List.Sublist.filterMap _ (List.sublist_cons_self x bs)).nodup hnd
        have hnot : x.1 = some b → ∀ q, q ∈ bs → q.1 ≠ some b := by
          intro hxb q hq' hqb
          rw [List.filterMap_cons_some hxb, List.nodup_cons] at hnd
          exact hnd.1 (mem_keys.2 ⟨q, hq', hqb⟩)
        cases j with
        | zero =>
          simp only [List.getElem?_cons_zero, Option.some.injEq] at hj
          subst hj
          cases l with
          | zero => rfl
          | succ l => exact absurd hq (hnot hp q (List.mem_of_getElem? (by simpa using hl)))
        | succ j =>
          cases l with
          | zero =>
            simp only [List.getElem?_cons_zero, Option.some.injEq] at hl
            subst hl
            exact absurd hp (hnot hq p (List.mem_of_getElem? (by simpa using hj)))
          | succ l => rw [ih j l p q hnd' (by simpa using hj) (by simpa using hl) hp hq]
    exact key bs j l p q hnd hj hl hp hq
  refine ⟨hx, ?_, ?_, fun j hj => ⟨Nat.lt_of_lt_of_le (h.dj j hj).1 hs, fun hm => ?_⟩, h.dsn, fun D hD => ⟨(h.dfs D hD).1, (h.dfs D hD).2.1, ?_⟩⟩
  rotate_left 2
  · obtain ⟨p, hp, e⟩ := mem_keys.1 hm
    obtain ⟨l, hl⟩ := List.mem_iff_getElem?.1 hp
    rw [List.getElem?_set] at hl
    split at hl
    · rename_i he; subst he
      simp only [hlt, Option.some.injEq, if_true] at hl; subst hl
      rcases (hk j e).1 with h1 | h1
      · exact (h.dj j hj).2 (mem_keys.2 ⟨_, hmem, h1⟩)
      · have := (h.dj j hj).1; omega
    · exact (h.dj j hj).2 (mem_keys.2 ⟨p, List.mem_of_getElem? hl, e⟩)
  · rw [ho D (h.lt0 D (h.dfs D hD).1) fun e => (h.dj D (h.dfs D hD).1).2 (mem_keys.2 ⟨_, hmem, e⟩)]
    exact (h.dfs D hD).2.2
  · intro p hp b hb
    obtain ⟨j, hj⟩ := List.mem_iff_getElem?.1 hp
    rw [List.getElem?_set] at hj
    split at hj
    · rename_i e; subst e
      simp only [hlt, Option.some.injEq, if_true] at hj; subst hj
      refine ⟨?_, (hk b hb).2⟩
      rcases (hk b hb).1 with e | e
      · exact (h.own _ hmem b e).1
      · exact .inr (Nat.le_trans h.below.size e)
    · rename_i hne
      have hp' := List.mem_of_getElem? hj
      refine ⟨(h.own p hp' b hb).1, ?_⟩
      rw [ho b (h.lt hp' hb) fun e => hne (hone i j _ _ b hi hj e hb)]
      exact (h.own p hp' b hb).2
  · -- the keys
    have hperm : ∀ (bs : Ents) (i : Nat), i < bs.length → (bs.filterMap Prod.fst).Nodup → (∀ b, k' = some b → ∀ (j : Nat) p, bs[j]? = some p → p.1 = some b → j = i) →
        ((bs.set i (k', o')).filterMap Prod.fst).Nodup := by
      intro bs
      induction bs with
      | nil => intro i hi; simp at hi
      | cons x bs ih =>
        intro i hi hnd hu
        have hnd' : (bs.filterMap Prod.fst).Nodup := (List.Sublist.filterMap _ (List.sublist_cons_self x bs)).nodup hnd
        cases i with
        | zero =>
          simp only [List.set_cons_zero]
          cases hk' : k' with
          | none => simpa using hnd'
          | some b =>
            rw [List.filterMap_cons_some (show Prod.fst ((some b, o') : Option Nat × Obj) = some b from rfl), List.nodup_cons]
            refine ⟨fun hm => ?_, hnd'⟩
            obtain ⟨p, hp, hpb⟩ := mem_keys.1 hm
            obtain ⟨j, hj⟩ := List.mem_iff_getElem?.1 hp
            have := hu b hk' (j + 1) p (by simpa using hj) hpb
            omega
        | succ i =>
          simp only [List.set_cons_succ]
          have hrec := ih i (by simpa using hi) hnd' fun b hb j p hj hp => by have := hu b hb (j + 1) p (by simpa using hj) hp; omega
          cases hx1 : x.1 with
          | none => rw [List.filterMap_cons_none hx1]; exact hrec
          | some c =>
            rw [List.filterMap_cons_some hx1, List.nodup_cons]
            refine ⟨fun hm => ?_, hrec⟩
            obtain ⟨p, hp, hpb⟩ := mem_keys.1 hm
            obtain ⟨j, hj⟩ := List.mem_iff_getElem?.1 hp
            rw [List.getElem?_set] at hj
            split at hj
            · rename_i e; subst e
              split at hj
              · simp only [Option.some.injEq] at hj; subst hj
                have := hu c hpb 0 x (by simp) hx1
                omega
              · cases hj
            · rw [List.filterMap_cons_some hx1, List.nodup_cons] at hnd
              exact hnd.1 (mem_keys.2 ⟨p, List.mem_of_getElem? hj, hpb⟩)
    refine hperm bs i hlt h.nd fun b hb j p hj hp => ?_
    rcases (hk b hb).1 with e | e
    · exact (hone i j _ _ b hi hj e hp).symm
    · have := h.lt (List.mem_of_getElem? hj) hp
      omega
theorem Step.put {i : Nat} {k k' : Option Nat} {o o' : Obj} (hi : bs[i]? = some (k, o)) (hs : w.heap.size ≤ w'.heap.size)
    (hk : ∀ b, k' = some b → k = some b ∨ w.heap.size ≤ b)
    (ho : ∀ j, j < w.heap.size → k ≠ some j → w'.heap[j]? = w.heap[j]?) : Step (ks bs O0) w (ks (bs.set i (k', o')) O0) w' := by
  have hmem : (k, o) ∈ bs := List.mem_of_getElem? hi
  refine ⟨hs, fun b hb hn => ⟨fun hm => hn ?_, ho b hb fun e => hn (List.mem_append_left _ (mem_keys.2 ⟨_, hmem, e⟩))⟩⟩
  rcases List.mem_append.1 hm with hm | hm
  · obtain ⟨p, hp, hpb⟩ := mem_keys.1 hm
    obtain ⟨j, hj⟩ := List.mem_iff_getElem?.1 hp
    rw [List.getElem?_set] at hj
    split at hj
    · split at hj
      · simp only [Option.some.injEq] at hj; subst hj
        rcases hk b hpb with e | e
        · exact List.mem_append_left _ (mem_keys.2 ⟨_, hmem, e⟩)
        · omega
      · cases hj
    · exact List.mem_append_left _ (mem_keys.2 ⟨p, List.mem_of_getElem? hj, hpb⟩)
  · exact List.mem_append_right _ hm
end
end Go.Fx
/- One lemma an operation: numbers, tests, temporaries. No program in sight. -/
set_option linter.unusedSimpArgs false
set_option linter.unusedVariables false
namespace Go.Fx
open Go Go.RowKit
/-- a string of these bytes -/
def bs (l : List UInt8) : ByteArray := ⟨l.toArray⟩

section
variable {P : Program} {r : Option Nat} {ρ : Env} {w : World} {d : Option Nat} {ty : TypeId} {pos : String} {aft : Array Edge} {g : Option (Nat × Bool)} {V : Value → World → Prop}

theorem run1_value {op : Op} {v : Value} {w' : World} (hd : ∀ c, op ≠ .defer c) (h : (execOp (ev ρ) ⟨d, op, ty, pos, aft, g⟩).run P w = .ok (.value v) w') (hV : V v w') :
    Run1 P r ρ w ⟨d, op, ty, pos, aft, g⟩ V := by
  unfold Run1; rw [Oper.semAt_eq _ _ _ hd, h]; exact hV
theorem run1_skip {op : Op} {w' : World} (hd : ∀ c, op ≠ .defer c) (h : (execOp (ev ρ) ⟨d, op, ty, pos, aft, g⟩).run P w = .ok .skip w') (hV : V undef w') :
    Run1 P r ρ w ⟨d, op, ty, pos, aft, g⟩ V := by
  unfold Run1; rw [Oper.semAt_eq _ _ _ hd, h]; exact hV
theorem run1_enter {op : Op} {f : FuncId} {args : List Value} {w' : World} {R : Value → World → Prop} (hd : ∀ c, op ≠ .defer c)
    (h : (execOp (ev ρ) ⟨d, op, ty, pos, aft, g⟩).run P w = .ok (.enter f args.toArray) w') (hc : Fn P f args w' R) (hV : ∀ v w'', R v w'' → V v w'') : Run1 P r ρ w ⟨d, op, ty, pos, aft, g⟩ V := by
  unfold Run1; rw [Oper.semAt_eq _ _ _ hd, h]
  exact (hc.inRound r).mono fun e w'' ⟨v, he, hv⟩ => ⟨v, he, hV _ _ hv⟩

theorem op_move {x : Operand} {v : Value} (hx : ev ρ x = v) (h : V v w) : Run1 P r ρ w ⟨d, .move x, ty, pos, aft, g⟩ V :=
  run1_value (by simp) (by simp [execOp, hx]) h
theorem op_assign {x : Operand} {v : Value} (hx : ev ρ x = v) (h : V v w) : Run1 P r ρ w ⟨d, .assign x, ty, pos, aft, g⟩ V :=
  run1_value (by simp) (by simp [execOp, hx]) h
theorem op_pick_t {c x y : Operand} {v : Value} (hc : ev ρ c = .bool true) (hx : ev ρ x = v) (h : V v w) : Run1 P r ρ w ⟨d, .pick c x y, ty, pos, aft, g⟩ V :=
  run1_value (by simp) (by simp [execOp, hc, hx, asBool]) h
theorem op_pick_f {c x y : Operand} {v : Value} (hc : ev ρ c = .bool false) (hy : ev ρ y = v) (h : V v w) : Run1 P r ρ w ⟨d, .pick c x y, ty, pos, aft, g⟩ V :=
  run1_value (by simp) (by simp [execOp, hc, hy, asBool]) h
theorem op_not {t : TypeId} {x : Operand} {b : Bool} (hx : ev ρ x = .bool b) (h : V (.bool (!b)) w) : Run1 P r ρ w ⟨d, .unOp .not t x, ty, pos, aft, g⟩ V :=
  run1_value (by simp) (by simp [execOp, hx, Op.unary]) h
theorem op_extract {t : Operand} {i : Nat} {vs : List Value} {v : Value} (ht : ev ρ t = .tuple vs.toArray) (hi : vs[i]? = some v) (h : V v w) : Run1 P r ρ w ⟨d, .extract t i, ty, pos, aft, g⟩ V :=
  run1_value (by simp) (by simp [execOp, ht, Instr.extract, hi]) h

section ints
variable {x y : Operand} {t u : TypeId} {m k : Int} {q : IntKind}
theorem wrap_i64 {m : Int} (h1 : -9223372036854775808 ≤ m) (h2 : m ≤ 9223372036854775807) : IntKind.i64.wrap m = m := IntWalk.i64_in m ⟨h1, h2⟩
theorem op_addw (hx : ev ρ x = .int q m) (hy : ev ρ y = .int q k) (h : V (.int q (q.wrap (m + k))) w) : Run1 P r ρ w ⟨d, .binOp .add t x y u, ty, pos, aft, g⟩ V :=
  run1_value (by simp) (by simp [execOp, hx, hy, eqGuard, binOp, Op.intArith]) h
theorem op_subw (hx : ev ρ x = .int q m) (hy : ev ρ y = .int q k) (h : V (.int q (q.wrap (m - k))) w) : Run1 P r ρ w ⟨d, .binOp .sub t x y u, ty, pos, aft, g⟩ V :=
  run1_value (by simp) (by simp [execOp, hx, hy, eqGuard, binOp, Op.intArith]) h
theorem op_lss (hx : ev ρ x = .int q m) (hy : ev ρ y = .int q k) (h : V (.bool (decide (m < k))) w) : Run1 P r ρ w ⟨d, .binOp .lss t x y u, ty, pos, aft, g⟩ V :=
  run1_value (by simp) (by simp [execOp, hx, hy, eqGuard, binOp, Op.intCmp]) h
theorem op_leq (hx : ev ρ x = .int q m) (hy : ev ρ y = .int q k) (h : V (.bool (decide (m ≤ k))) w) : Run1 P r ρ w ⟨d, .binOp .leq t x y u, ty, pos, aft, g⟩ V :=
  run1_value (by simp) (by simp [execOp, hx, hy, eqGuard, binOp, Op.intCmp]) h
theorem op_gtr (hx : ev ρ x = .int q m) (hy : ev ρ y = .int q k) (h : V (.bool (decide (k < m))) w) : Run1 P r ρ w ⟨d, .binOp .gtr t x y u, ty, pos, aft, g⟩ V :=
  run1_value (by simp) (by simp [execOp, hx, hy, eqGuard, binOp, Op.intCmp]) h
theorem op_geq (hx : ev ρ x = .int q m) (hy : ev ρ y = .int q k) (h : V (.bool (decide (k ≤ m))) w) : Run1 P r ρ w ⟨d, .binOp .geq t x y u, ty, pos, aft, g⟩ V :=
  run1_value (by simp) (by simp [execOp, hx, hy, eqGuard, binOp, Op.intCmp]) h
theorem op_eql (hx : ev ρ x = .int q m) (hy : ev ρ y = .int q k) (h : V (.bool (decide (m = k))) w) : Run1 P r ρ w ⟨d, .binOp .eql t x y u, ty, pos, aft, g⟩ V :=
  run1_value (v := .bool (decide (m = k))) (by simp) (by simp [execOp, hx, hy, eqGuard, binOp, Op.intCmp]; by_cases h : m = k <;> simp [h]) h
theorem op_neq (hx : ev ρ x = .int q m) (hy : ev ρ y = .int q k) (h : V (.bool (decide (m ≠ k))) w) : Run1 P r ρ w ⟨d, .binOp .neq t x y u, ty, pos, aft, g⟩ V :=
  run1_value (v := .bool (decide (m ≠ k))) (by simp) (by simp [execOp, hx, hy, eqGuard, binOp, Op.intCmp]; by_cases h : m = k <;> simp [h]) h
/-- a slice held against nil -/
theorem op_eqnil {e : TypeId} {a : Option Addr} {m c m' c' : Nat} (hu : P.underlying t = some (.slice e)) (hx : ev ρ x = .slice a m c) (hy : ev ρ y = .slice none m' c') (h : V (.bool a.isNone) w) : Run1 P r ρ w ⟨d, .binOp .eql t x y u, ty, pos, aft, g⟩ V :=
  run1_value (v := .bool a.isNone) (by simp) (by simp [execOp, hx, hy, eqGuard, Lib.run_eql_slice_nil w t e a m c m' c' hu]) h
end ints
end
end Go.Fx
/- One lemma an operation: memory. No program in sight. -/
set_option linter.unusedSimpArgs false
set_option linter.unusedVariables false
namespace Go.Fx
open Go Go.RowKit

/-- what the program's table of types says of type t: n cells, b bytes, the zero value's cells; ag: a struct or an array -/
structure Ty (P : Program) (t : TypeId) (d : TypeDesc) (n b : Nat) (z : List Value) (ag : Bool) : Prop where
  und : P.underlying t = some d
  info : ∃ i, P.info? t = some i ∧ i.size = n ∧ i.bytes = b ∧ ∃ zv, i.zero = some zv ∧ zv.cells = z.toArray
  agg : ∀ w, (isAgg t).run P w = .ok ag w
  zl : z.length = n

section
variable {P : Program} {t : TypeId} {td : TypeDesc} {n b : Nat} {z : List Value} {ag : Bool}
theorem Ty.runU (T : Ty P t td n b z ag) (w : World) : (underlying t).run P w = .ok td w := run_underlying T.und w
theorem Ty.runSize (T : Ty P t td n b z ag) (w : World) : (Go.sizeOf t).run P w = .ok n w := by
  obtain ⟨i, h1, h2, _⟩ := T.info
  simp [Go.sizeOf, typeInfo, h1, h2]
theorem Ty.runZero (T : Ty P t td n b z ag) (w : World) : ∃ zv, (zeroValue t).run P w = .ok zv w ∧ zv.cells = z.toArray := by
  obtain ⟨i, h1, h2, _, zv, h3, h4⟩ := T.info
  exact ⟨zv, by simp [zeroValue, typeInfo, h1, h3], h4⟩
end

theorem run_newRow {P : Program} (e : TypeId) (cs : Array Value) (w : World) : (newRow e cs).run P w = .ok ⟨w.heap.size, 0, none⟩ (w.alloc (.cells cs e)) := by
  simp [newRow, newObj, Sem.run]

section
variable {P : Program} {r : Option Nat} {ρ : Env} {w : World} {d : Option Nat} {ty : TypeId} {pos : String} {aft : Array Edge} {g : Option (Nat × Bool)} {V : Value → World → Prop}
variable {w0 : Zx} {O0 : List Nat} {bs : Ents}
variable {x y : Operand} {t : TypeId} {td : TypeDesc} {n b : Nat} {z : List Value} {ag : Bool}

theorem op_alloc (T : Ty P t td n b z ag) (hs : St w0 O0 w bs)
    (k : ∀ bl w', Ext w w' → Step (ks bs O0) w (ks ((some bl, .cells z.toArray t) :: bs) O0) w' → St w0 O0 w' ((some bl, .cells z.toArray t) :: bs) → V (.pointer (some ⟨bl, 0, none⟩)) w') :
    Run1 P r ρ w ⟨d, .alloc t, ty, pos, aft, g⟩ V := by
  obtain ⟨zv, h1, h2⟩ := T.runZero w
  refine run1_value (v := .pointer (some ⟨w.heap.size, 0, none⟩)) (w' := w.alloc (.cells z.toArray t)) (by simp) ?_ (k _ _ (Ext.alloc w _) (Step.alloc w O0 bs _) (hs.alloc _))
  simp only [execOp, Instr.alloc, Sem.run_bind, h1, Result.andThen_ok, newVar, run_newRow, h2, Sem.run_pure]

theorem op_box {v : Value} {cs : List Value} (hs : St w0 O0 w bs) (hx : ev ρ x = v) (hv : v.cells = cs.toArray)
    (k : ∀ bl w', Ext w w' → Step (ks bs O0) w (ks ((some bl, .cells cs.toArray t) :: bs) O0) w' → St w0 O0 w' ((some bl, .cells cs.toArray t) :: bs) → V (.pointer (some ⟨bl, 0, none⟩)) w') :
    Run1 P r ρ w ⟨d, .box t x, ty, pos, aft, g⟩ V := by
  refine run1_value (v := .pointer (some ⟨w.heap.size, 0, none⟩)) (w' := w.alloc (.cells cs.toArray t)) (by simp) ?_ (k _ _ (Ext.alloc w _) (Step.alloc w O0 bs _) (hs.alloc _))
  simp only [execOp, Instr.box, Sem.run_bind, Result.andThen_ok, newVar, run_newRow, hx, hv, Sem.run_pure]

/-! reading -/
theorem run_load_cell {p : Addr} {v : Value} (h : w.cell? p = some v) : (load p).run P w = .ok v w := by simp [load, Sem.run, h]
theorem cell_at {bl off : Nat} {cs : Array Value} {e : TypeId} {fz : Nat × Nat} (h : w.heap[bl]? = some (.cells cs e fz)) : w.cell? ⟨bl, off, none⟩ = cs[off]? := by
  simp [World.cell?, h]
theorem run_loadAgg (T : Ty P t td n b z true) {p : Addr} {vs : List Value} (hp : p.spot = none) {cs : Array Value} {e : TypeId} {fz : Nat × Nat} (h : w.heap[p.block]? = some (.cells cs e fz))
    (hv : (cs.toList.drop p.off).take n = vs) (hn : vs.length = n) : (loadVar t p).run P w = .ok (.agg vs.toArray) w := by
  have hl : (loadCells p n).run P w = .ok vs.toArray w := by
    have := run_loadCells_list (P := P) (w := w) p vs fun j v hj => by
      rw [Addr.add_spot hp, cell_at h]
      rw [← hv, List.getElem?_take, List.getElem?_drop] at hj
      split at hj
      · simpa using hj
      · cases hj
    rw [hn] at this
    exact this
  simp only [loadVar, Sem.run_bind, T.agg, Result.andThen_ok, if_true, T.runSize, hl, Sem.run_pure]
theorem run_loadOne (T : Ty P t td n b z false) {p : Addr} {v : Value} (hp : w.cell? p = some v) : (loadVar t p).run P w = .ok v w := by
  simp only [loadVar, Sem.run_bind, T.agg, Result.andThen_ok, Bool.false_eq_true, if_false, run_load_cell hp]

/-- a variable of one cell in an owned block -/
theorem op_load (T : Ty P t td n b z false) {bl off i : Nat} {cs : List Value} {e : TypeId} {fz : Nat × Nat} {v : Value} (hs : St w0 O0 w bs) (hx : ev ρ x = .pointer (some ⟨bl, off, none⟩))
    (hi : bs[i]? = some (some bl, .cells cs.toArray e fz)) (hv : cs[off]? = some v) (k : V v w) : Run1 P r ρ w ⟨d, .load t x, ty, pos, aft, g⟩ V :=
  run1_value (by simp) (by
    simp only [execOp, hx, Instr.loadAt, Instr.sureAddr, Sem.run_bind, Sem.run_pure, Result.andThen_ok, run_loadOne T ((cell_at (hs.get hi)).trans (by simpa using hv))]) k
/-- a struct or an array in an owned block -/
theorem op_loadA (T : Ty P t td n b z true) {bl off i : Nat} {cs vs : List Value} {e : TypeId} {fz : Nat × Nat} (hs : St w0 O0 w bs) (hx : ev ρ x = .pointer (some ⟨bl, off, none⟩))
    (hi : bs[i]? = some (some bl, .cells cs.toArray e fz)) (hv : (cs.drop off).take n = vs) (hn : vs.length = n) (k : V (.agg vs.toArray) w) : Run1 P r ρ w ⟨d, .load t x, ty, pos, aft, g⟩ V :=
  run1_value (by simp) (by
    simp only [execOp, hx, Instr.loadAt, Instr.sureAddr, Sem.run_bind, Sem.run_pure, Result.andThen_ok, run_loadAgg (p := ⟨bl, off, none⟩) T rfl (hs.get hi) (by simpa using hv) hn]) k
/-- behind a pointer into what is only read -/
theorem op_loadP {α : Type} {O : List Nat} {q : Rp α} {a : α} (T : Ty P t td 1 b z false) {p : Addr} (hx : ev ρ x = .pointer (some p)) (h : PtR q w O p a) (hq : q.n = 1)
    (k : ∀ v, q.rd w O [v] a → V v w) : Run1 P r ρ w ⟨d, .load t x, ty, pos, aft, g⟩ V := by
  obtain ⟨h1, h2, cs, e, fz, h3, h4, h5⟩ := h
  rw [hq] at h5
  have hl : p.off < cs.size := by omega
  have hc : w.cell? p = some cs[p.off] := by
    cases p
    simp only at h1
    subst h1
    exact (cell_at h3).trans (by simp [hl])
  have h6 : (cs.toList.drop p.off).take 1 = [cs[p.off]] := by
    rw [List.drop_eq_getElem_cons (by simpa using hl)]
    simp
  rw [h6] at h5
  exact run1_value (by simp) (by simp only [execOp, hx, Instr.loadAt, Instr.sureAddr, Sem.run_bind, Sem.run_pure, Result.andThen_ok, run_loadOne T hc]) (k _ h5)
/-! addresses -/
theorem op_fieldAddr {fs : Array Field} {f fn fb : Nat} {fl : Field} {fd : TypeDesc} {fz : List Value} {fa : Bool} {p p' : Addr} (T : Ty P t (.struct fs) n b z ag) (hf : fs[f]? = some fl) (F : Ty P fl.type fd fn fb fz fa) (hn : fn ≠ 0)
    (hx : ev ρ x = .pointer (some p)) (hp : p.add fl.offset = p') (k : V (.pointer (some p')) w) : Run1 P r ρ w ⟨d, .fieldAddr t x f, ty, pos, aft, g⟩ V :=
  run1_value (by simp) (by simp [execOp, hx, Instr.fieldAt, T.runU, hf, Instr.sureAddr, fieldPlace, F.runSize, hn, hp]) k
/-- an element of a slice that is only read -/
theorem op_indexAddr {α : Type} {O : List Nat} [Inhabited α] {q : Rp α} {xs : List α} {e : TypeId} {dt : TypeDesc} {a : Option Addr} {c : Nat} {m : Int} {kd : IntKind} {bt : Nat} {tz : List Value} {ta : Bool} (T : Ty P t (.slice e) 1 bt tz ta) (E : Ty P e dt n b z ag)
    (hx : ev ρ x = .slice a xs.length c) (hy : ev ρ y = .int kd m) (h : SlR q w O a c xs) (hq : q.n = n) (h0 : 0 ≤ m) (hm : m < xs.length)
    (k : ∀ p, PtR q w O p (xs.getD m.toNat default) → V (.pointer (some p)) w) : Run1 P r ρ w ⟨d, .indexAddr t x y, ty, pos, aft, g⟩ V := by
  obtain ⟨ad, rfl, hp⟩ := h.at (i := m.toNat) (by omega)
  refine run1_value (v := .pointer (some (ad.add (m.toNat * n)))) (by simp) ?_ (k _ ?_)
  · simp only [execOp, hx, hy, Instr.indexAt, asIntOf, Sem.run_bind, Sem.run_pure, Result.andThen_ok, T.runU, Bool.and_false, Bool.false_eq_true]
    simp [h0, hm, E.runSize]
  · rw [← hq]
    have : xs.getD m.toNat default = xs[m.toNat]'(by omega) := by simp [List.getD_eq_getElem?_getD, List.getElem?_eq_getElem (show m.toNat < xs.length by omega)]
    rw [this]; exact hp
/-- an element of an owned slice -/
theorem op_indexAddrO {e : TypeId} {dt : TypeDesc} {bl o l c : Nat} {m : Int} {kd : IntKind} {bt : Nat} {tz : List Value} {ta : Bool} (T : Ty P t (.slice e) 1 bt tz ta) (E : Ty P e dt n b z ag)
    (hx : ev ρ x = .slice (some ⟨bl, o, none⟩) l c) (hy : ev ρ y = .int kd m) (h0 : 0 ≤ m) (hm : m < l)
    (k : V (.pointer (some ⟨bl, o + m.toNat * n, none⟩)) w) : Run1 P r ρ w ⟨d, .indexAddr t x y, ty, pos, aft, g⟩ V := by
  refine run1_value (v := .pointer (some ⟨bl, o + m.toNat * n, none⟩)) (by simp) ?_ k
  simp only [execOp, hx, hy, Instr.indexAt, asIntOf, Sem.run_bind, Sem.run_pure, Result.andThen_ok, T.runU, Bool.and_false, Bool.false_eq_true]
  simp [h0, hm, E.runSize, Addr.add_lit]
/-! lengths -/
theorem op_len {e : TypeId} {a : Option Addr} {l c : Nat} {u : TypeId} (hu : P.underlying u = some (.slice e)) (hx : ev ρ x = .slice a l c) (k : V (.int .i64 l) w) :
    Run1 P r ρ w ⟨d, .call ⟨.builtin .len, #[x], #[u]⟩, ty, pos, aft, g⟩ V :=
  run1_value (by simp) (by simp [execOp, resolve, invoke, builtin, Builtin.len_, hx, run_underlying hu, goInt]) k

/-- a call of a function by its name -/
theorem op_call {f : FuncId} {args : Array Operand} {us : Array TypeId} {vs : List Value} {R : Value → World → Prop} (hc : ∀ (args : Array Value) (w : World), (callFunc f args).run P w = .ok (.enter f args) w)
    (h : Fn P f vs w R) (ha : args.toList.map (ev ρ) = vs) (k : ∀ v w', R v w' → V v w') : Run1 P r ρ w ⟨d, .call ⟨.value (.func f), args, us⟩, ty, pos, aft, g⟩ V := by
  refine run1_enter (f := f) (args := vs) (w' := w) (by simp) ?_ h k
  have : args.map (ev ρ) = vs.toArray := by rw [← ha, ← Array.toList_map]
  simp [execOp, resolve, Deferred.ofValue, ev, invoke, hc, this]
end
end Go.Fx
/- One lemma an operation: stores, slices, append, make, copy. No program in sight. -/
set_option linter.unusedSimpArgs false
set_option linter.unusedVariables false
namespace Go.Fx
open Go Go.RowKit

/-- cells from place o on are others now -/
def setL (cs : List Value) (o : Nat) (vs : List Value) : List Value := cs.take o ++ vs ++ cs.drop (o + vs.length)
theorem setL_length {cs : List Value} {o : Nat} {vs : List Value} (h : o + vs.length ≤ cs.length) : (setL cs o vs).length = cs.length := by
  simp [setL]; omega
section
variable {P : Program} {r : Option Nat} {ρ : Env} {w : World} {d : Option Nat} {ty : TypeId} {pos : String} {aft : Array Edge} {g : Option (Nat × Bool)} {V : Value → World → Prop}
variable {w0 : Zx} {O0 : List Nat} {bs bs' : Ents}
variable {x y : Operand} {t : TypeId} {td : TypeDesc} {n b : Nat} {z : List Value} {ag : Bool}

theorem heap_setRow_same {bl : Nat} {cs : Array Value} {e : TypeId} {fz : Nat × Nat} (h : w.heap[bl]? = some (.cells cs e fz)) (cs' : Array Value) : (w.setRow bl cs').heap[bl]? = some (.cells cs' e fz) := setRow_heap w bl cs cs' e fz h
theorem size_setRow {bl : Nat} {cs' : Array Value} : (w.setRow bl cs').heap.size = w.heap.size := by simp [World.setRow]

theorem St.setRow (hs : St w0 O0 w bs) {i bl : Nat} {cs : Array Value} {e : TypeId} {fz : Nat × Nat} (hi : bs[i]? = some (some bl, .cells cs e fz)) (cs' : Array Value) :
    St w0 O0 (w.setRow bl cs') (bs.set i (some bl, .cells cs' e fz)) ∧ Step (ks bs O0) w (ks (bs.set i (some bl, .cells cs' e fz)) O0) (w.setRow bl cs') := by
  have hg := hs.get hi
  have ho : ∀ j, j < w.heap.size → some bl ≠ some j → (w.setRow bl cs').heap[j]? = w.heap[j]? := fun j _ hj => setRow_other w bl j cs' (fun e => hj (by rw [e]))
  have hb := (hs.own _ (List.mem_of_getElem? hi) bl rfl).1
  refine ⟨hs.put hi ⟨hs.below.os, hs.below.tape, hs.below.output, by rw [size_setRow]; exact hs.below.size, fun k hk hn => ?_, hs.below.drawn⟩ (by rw [size_setRow]; exact Nat.le_refl _) (fun j hj => ?_) ho, Step.put hi (by rw [size_setRow]; exact Nat.le_refl _) (fun j hj => .inl hj) ho⟩
  · rw [setRow_other w bl k cs' (by rintro rfl; rcases hb with h | h <;> first | exact hn h | omega)]; exact hs.below.block k hk hn
  · cases hj; exact ⟨.inl rfl, heap_setRow_same hg cs'⟩

theorem run_storeCellsL {bl o : Nat} {cs vs : List Value} {e : TypeId} (hg : w.heap[bl]? = some (.cells cs.toArray e (0, 0))) (hl : o + vs.length ≤ cs.length) (h1 : vs.all (·.oneCell') = true) :
    (storeCells ⟨bl, o, none⟩ vs).run P w = .ok () (w.setRow bl (setL cs o vs).toArray) := by
  have := run_storeCells_at P bl o e vs 0 cs.toArray w hg (by simpa using hl) (by simpa using h1)
  simpa [setL] using this

/-- a variable, or a part of one, in an owned block -/
theorem op_store (T : Ty P t td n b z ag) {bl off i : Nat} {cs vs : List Value} {e : TypeId} {v : Value} (hs : St w0 O0 w bs) (hx : ev ρ x = .pointer (some ⟨bl, off, none⟩)) (hy : ev ρ y = v)
    (hi : bs[i]? = some (some bl, .cells cs.toArray e (0, 0))) (hv : v.cells = vs.toArray) (hn : vs.length = n) (hl : off + n ≤ cs.length) (h1 : vs.all (·.oneCell') = true) {cs' : List Value} (hc : setL cs off vs = cs')
    (hb : bs.set i (some bl, .cells cs'.toArray e (0, 0)) = bs')
    (k : ∀ w', Step (ks bs O0) w (ks bs' O0) w' → St w0 O0 w' bs' → V undef w') : Run1 P r ρ w ⟨d, .store t x y, ty, pos, aft, g⟩ V := by
  obtain ⟨h2, h3⟩ := hs.setRow hi cs'.toArray
  subst hc hb
  have h4 : off + vs.length ≤ cs.length := by omega
  refine run1_skip (by simp) ?_ (k _ h3 h2)
  simp only [execOp, hx, hy, Instr.storeAt, Instr.sureAddr, storeVar, Sem.run_bind, Sem.run_pure, Result.andThen_ok, T.runSize, hv, List.size_toArray, hn, ne_eq, not_true_eq_false, if_false, run_storeCellsL (hs.get hi) h4 h1]

/-! slices of slices -/
/-- an operand of a slice expression: the number, or what stands for it -/
def Bnd (ρ : Env) (o : Option Operand) (dflt m : Nat) : Prop := match o with
  | none => m = dflt
  | some x => ∃ q, ev ρ x = .int q (m : Int)

theorem SlR.sub {α : Type} {q : Rp α} {O : List Nat} {a : Option Addr} {c : Nat} {xs : List α} (h : SlR q w O a c xs) {l hi mx : Nat} (h1 : l ≤ hi) (h2 : hi ≤ xs.length) (h3 : hi ≤ mx) (h4 : mx ≤ c) :
    SlR q w O (if mx = l then a else a.map (·.add (l * q.n))) (mx - l) ((xs.drop l).take (hi - l)) := by
  have hle := h.le
  have hcap := h.cap
  refine ⟨by simp; omega, by omega, fun hn => ?_, fun ad ha i hi' => ?_⟩
  · have : a = Option.none := by
      split at hn
      · exact hn
      · simpa using hn
    have := h.nil this
    simp [this.1]; omega
  · simp only [List.length_take, List.length_drop] at hi'
    split at ha
    · omega
    · cases a with
      | none => simp at ha
      | some ad0 =>
        simp only [Option.map_some, Option.some.injEq] at ha
        subst ha
        have := h.el ad0 rfl (l + i) (by omega)
        rw [Addr.add_add, ← Nat.add_mul]
        simpa using this


theorem run_sliceBound {q : IntKind} {m y : Nat} {code : BoundsCode} (h : m ≤ y) : (Instr.sliceBound (.int q (m : Int)) y code).run P w = .ok m w := by
  have h1 : (0 : Int) ≤ m ∧ (m : Int) ≤ y := by omega
  simp [Instr.sliceBound, asIntOf, h1]
theorem run_sliceBounds {is : Bool} {len cap l h m : Nat} {lo hi mx : Option Operand} (hl : Bnd ρ lo 0 l) (hh : Bnd ρ hi len h) (hm : Bnd ρ mx cap m) (h1 : l ≤ h) (h3 : h ≤ m) (h4 : m ≤ cap) (hmh : mx.isSome = true → hi.isSome = true) :
    (Instr.sliceBounds is len cap (lo.map (ev ρ)) (hi.map (ev ρ)) (mx.map (ev ρ))).run P w = .ok (l, h, m) w := by
  cases mx with
  | none =>
    simp only [Bnd] at hm; subst hm
    cases hi with
    | none =>
      simp only [Bnd] at hh; subst hh
      cases lo with
      | none => simp only [Bnd] at hl; subst hl; simp [Instr.sliceBounds]
      | some lo => obtain ⟨q, e⟩ := hl; simp [Instr.sliceBounds, e, run_sliceBound h1]
    | some hi =>
      obtain ⟨q', e'⟩ := hh
      cases lo with
      | none => simp only [Bnd] at hl; subst hl; simp [Instr.sliceBounds, e', run_sliceBound h3]
      | some lo => obtain ⟨q, e⟩ := hl; simp [Instr.sliceBounds, e, e', run_sliceBound h1, run_sliceBound h3]
  | some mx =>
    obtain ⟨q3, e3⟩ := hm
    cases hi with
    | none => simp at hmh
    | some hi =>
      obtain ⟨q', e'⟩ := hh
      cases lo with
      | none => simp only [Bnd] at hl; subst hl; simp [Instr.sliceBounds, e', e3, run_sliceBound h3, run_sliceBound h4]
      | some lo => obtain ⟨q, e⟩ := hl; simp [Instr.sliceBounds, e, e', e3, run_sliceBound h1, run_sliceBound h3, run_sliceBound h4]

/-- a slice of a slice that is only read -/
theorem op_slice {α : Type} {O : List Nat} {q : Rp α} {xs : List α} {a : Option Addr} {c l h m bt : Nat} {tz : List Value} {ta : Bool} {e : TypeId} {lo hi mx : Option Operand} (T : Ty P t (.slice e) 1 bt tz ta) (E : Ty P e td n b z ag)
    (hx : ev ρ x = .slice a xs.length c) (hsl : SlR q w O a c xs) (hq : q.n = n) (hl : Bnd ρ lo 0 l) (hh : Bnd ρ hi xs.length h) (hm : Bnd ρ mx c m) (hmh : mx.isSome = true → hi.isSome = true)
    (h1 : l ≤ h) (h2 : h ≤ xs.length) (h3 : h ≤ m) (h4 : m ≤ c)
    (k : ∀ a', SlR q w O a' (m - l) ((xs.drop l).take (h - l)) → V (.slice a' ((xs.drop l).take (h - l)).length (m - l)) w) : Run1 P r ρ w ⟨d, .slice t x lo hi mx, ty, pos, aft, g⟩ V := by
  have hlen : ((xs.drop l).take (h - l)).length = h - l := by simp; omega
  have hk := k _ (hsl.sub h1 h2 h3 h4)
  rw [hlen] at hk
  refine run1_value (by simp) ?_ hk
  simp only [execOp, hx, Instr.sliceAt, Sem.run_bind, T.runU, Result.andThen_ok, Instr.slice, run_sliceBounds hl hh hm h1 h3 h4 hmh, E.runSize, Sem.run_pure, hq]
/-! building -/
def cellsL : Value → List Value
  | .agg cs => cs.toList
  | v => [v]
theorem cellsL_eq (v : Value) : v.cells = (cellsL v).toArray := by cases v <;> simp [cellsL, Value.cells]
def fillL (place : Nat → Option (Nat × Nat)) : List Value → List (Nat × Value) → Option (List Value)
  | cells, [] => some cells
  | cells, (i, v) :: rest => match place i with
    | none => none
    | some (off, size) => bif (cellsL v).length == size && Nat.ble (off + (cellsL v).length) cells.length then fillL place (setL cells off (cellsL v)) rest else none
theorem setL_getAll {cs : List Value} {o : Nat} {vs : List Value} (h : o + vs.length ≤ cs.length) (j : Nat) : (setL cs o vs)[j]? = if o ≤ j ∧ j < o + vs.length then vs[j - o]? else cs[j]? := by
  unfold setL
  rw [List.append_assoc, List.getElem?_append, List.length_take, Nat.min_eq_left (by omega)]
  split
  · rename_i hj; rw [if_neg (by omega), List.getElem?_take, if_pos hj]
  · rename_i hj
    rw [List.getElem?_append]
    split
    · rename_i h2; rw [if_pos (by omega)]
    · rename_i h2
      rw [if_neg (by omega), List.getElem?_drop]
      congr 1; omega
theorem foldSet : ∀ (vs : List Value) (cs : Array Value) (off k : Nat), off + k + vs.length ≤ cs.size →
    ((vs.zipIdx k).foldl (fun (cs : Array Value) p => cs.setIfInBounds (off + p.2) p.1) cs).size = cs.size ∧
    ∀ j : Nat, ((vs.zipIdx k).foldl (fun (cs : Array Value) p => cs.setIfInBounds (off + p.2) p.1) cs)[j]? = if off + k ≤ j ∧ j < off + k + vs.length then vs[j - (off + k)]? else cs[j]?
  | [], cs, off, k, _ => ⟨rfl, fun j => by rw [if_neg (by simp only [List.length_nil]; omega)]; rfl⟩
  | v :: vs, cs, off, k, h => by
    simp only [List.length_cons] at h
    obtain ⟨h1, h2⟩ := foldSet vs (cs.setIfInBounds (off + k) v) off (k + 1) (by simp; omega)
    rw [List.zipIdx_cons, List.foldl_cons]
    refine ⟨by rw [h1]; simp, fun j => ?_⟩
    rw [h2 j]
    simp only [List.length_cons, Array.getElem?_setIfInBounds]
    by_cases c1 : off + (k + 1) ≤ j ∧ j < off + (k + 1) + vs.length
    · rw [if_pos c1, if_pos (by omega)]
      obtain ⟨m, hm⟩ : ∃ m, j - (off + k) = m + 1 := ⟨j - (off + k) - 1, by omega⟩
      rw [hm, List.getElem?_cons_succ]
      congr 1; omega
    · rw [if_neg c1]
      by_cases c2 : off + k = j
      · subst c2
        rw [if_pos rfl, if_pos (by omega), if_pos (by omega)]
        simp
      · rw [if_neg c2, if_neg (by omega)]
theorem fill_eq (place : Nat → Option (Nat × Nat)) : ∀ (parts : List (Nat × Value)) (cells out : List Value), fillL place cells parts = some out → Instr.fill place cells.toArray parts = some out.toArray
  | [], cells, out, h => by simp only [fillL, Option.some.injEq] at h; subst h; rfl
  | (i, v) :: rest, cells, out, h => by
    simp only [fillL] at h
    simp only [Instr.fill]
    cases hp : place i with
    | none => rw [hp] at h; cases h
    | some q =>
      obtain ⟨off, size⟩ := q
      rw [hp] at h
      simp only at h
      cases hc : ((cellsL v).length == size && Nat.ble (off + (cellsL v).length) cells.length) with
      | false => rw [hc] at h; cases h
      | true =>
        rw [hc] at h
        simp only [cond_true] at h
        simp only [Bool.and_eq_true, beq_iff_eq] at hc
        obtain ⟨c1, c2⟩ := hc
        have c2' := Nat.le_of_ble_eq_true c2
        have hsz : v.cells.size = (cellsL v).length := by rw [cellsL_eq]; simp
        simp only [hsz, List.size_toArray]
        rw [if_neg (by simp only [Bool.or_eq_true, decide_eq_true_eq, ne_eq]; omega)]
        have e : (v.cells.zipIdx.foldl (fun cs (x : Value × Nat) => cs.setIfInBounds (off + x.2) x.1) cells.toArray) = (setL cells off (cellsL v)).toArray := by
          obtain ⟨s1, s2⟩ := foldSet (cellsL v) cells.toArray off 0 (by simpa using c2')
          rw [cellsL_eq]
          have e0 : ((cellsL v).toArray.zipIdx.foldl (fun cs (x : Value × Nat) => cs.setIfInBounds (off + x.2) x.1) cells.toArray) = (((cellsL v).zipIdx 0).foldl (fun (cs : Array Value) p => cs.setIfInBounds (off + p.2) p.1) cells.toArray) := by
            simp
          rw [e0]
          apply Array.ext_getElem?
          intro j
          rw [s2 j]
          simp only [List.getElem?_toArray, Nat.add_zero]
          rw [setL_getAll c2']
        have := fill_eq place rest _ out h
        rw [← e] at this
        exact this
/-- so many zero values -/
def rep (z : List Value) : Nat → List Value
  | 0 => []
  | k + 1 => z ++ rep z k
theorem rep_length (z : List Value) : ∀ k, (rep z k).length = k * z.length
  | 0 => by simp [rep]
  | k + 1 => by simp [rep, rep_length z k, Nat.add_mul]; omega
theorem rep_get (z : List Value) : ∀ k i, i < k * z.length → (rep z k)[i]? = z[i % z.length]?
  | 0, i, h => by omega
  | k + 1, i, h => by
    have hz : 0 < z.length := by
      rcases Nat.eq_zero_or_pos z.length with e | e
      · rw [e] at h; omega
      · exact e
    simp only [rep, List.getElem?_append]
    split
    · rename_i hi; rw [Nat.mod_eq_of_lt hi]
    · rename_i hi
      rw [Nat.add_mul, Nat.one_mul] at h
      rw [rep_get z k _ (by omega)]
      congr 1
      exact (Nat.mod_eq_sub_mod (by omega)).symm
theorem rep_eq (z : List Value) (k n : Nat) (hn : z.length = n) : (Array.range (k * n)).map (z.toArray[· % z.toArray.size]!) = (rep z k).toArray := by
  subst hn
  apply Array.ext_getElem?
  intro i
  simp only [Array.getElem?_map, List.getElem?_toArray]
  rcases Nat.lt_or_ge i (k * z.length) with h | h
  · rw [rep_get z k i h, Array.getElem?_range, if_pos h]
    have hz : 0 < z.length := by
      rcases Nat.eq_zero_or_pos z.length with e | e
      · rw [e] at h; omega
      · exact e
    have := Nat.mod_lt i hz
    simp [List.getElem?_eq_getElem this]
  · rw [List.getElem?_eq_none (by rw [rep_length]; exact h)]
    simp; omega
/-- where the fields lie -/
def Places (P : Program) (fs : Array Field) (pl : List (Nat × Nat)) : Prop := ∀ w, (fs.mapM fun (f : Field) => (do pure (f.offset, ← Go.sizeOf f.type) : Sem (Nat × Nat))).run P w = .ok pl.toArray w
/-- parts of a struct, each in its field's place -/
theorem op_build {fs : Array Field} {parts : List (Nat × Operand)} {vs : List Value} {pl : List (Nat × Nat)} (T : Ty P t (.struct fs) n b z ag)
    (hpl : Places P fs pl)
    (hf' : fillL (pl[·]?) z (parts.map fun p => (p.1, ev ρ p.2)) = some vs) (k : V (.agg vs.toArray) w) :
    Run1 P r ρ w ⟨d, .build t parts.toArray, ty, pos, aft, g⟩ V := by
  obtain ⟨zv, h1, h2⟩ := T.runZero w
  have hf : Instr.fill (pl.toArray[·]?) z.toArray (parts.toArray.map fun (i, x) => (i, ev ρ x)).toList = some vs.toArray := by
    have := fill_eq _ _ _ _ hf'
    simpa using this
  refine run1_value (by simp) ?_ k
  simp only [execOp, Instr.build, Sem.run_bind, h1, Result.andThen_ok, h2, T.runU]
  have h3 := hpl w
  rw [h3]
  simp only [Result.andThen_ok]
  rw [hf]
  simp only [Sem.run_pure, Result.andThen_ok]
/-- a slice literal: a new row -/
theorem op_buildSlice {e : TypeId} {len bt : Nat} {tz : List Value} {ta : Bool} {parts : List (Nat × Operand)} {cs : List Value} (T : Ty P t (.slice e) 1 bt tz ta) (E : Ty P e td n b z ag) (hs : St w0 O0 w bs)
    (hl : decide (len * n ≤ 16777216) = true)
    (hf' : fillL (fun i => some (i * n, n)) (rep z len) (parts.map fun p => (p.1, ev ρ p.2)) = some cs)
    (k : ∀ bl w', Ext w w' → Step (ks bs O0) w (ks ((some bl, .cells cs.toArray e) :: bs) O0) w' → St w0 O0 w' ((some bl, .cells cs.toArray e) :: bs) → V (.slice (some ⟨bl, 0, none⟩) len len) w') :
    Run1 P r ρ w ⟨d, .buildSlice t len parts.toArray, ty, pos, aft, g⟩ V := by
  have hf : Instr.fill (fun i => some (i * n, n)) ((Array.range (len * n)).map (z.toArray[· % z.toArray.size]!)) (parts.toArray.map fun (i, x) => (i, ev ρ x)).toList = some cs.toArray := by
    rw [rep_eq z len n E.zl]
    have := fill_eq _ _ _ _ hf'
    simpa using this
  have hl' : ¬ len * n > 2 ^ 24 := by simp at hl; omega
  obtain ⟨zv, h1, h2⟩ := E.runZero w
  refine run1_value (v := .slice (some ⟨w.heap.size, 0, none⟩) len len) (w' := w.alloc (.cells cs.toArray e)) (by simp) ?_ (k _ _ (Ext.alloc w _) (Step.alloc w O0 bs _) (hs.alloc _))
  simp only [execOp, Instr.buildSlice, Sem.run_bind, T.runU, Result.andThen_ok, E.runSize, hl', if_false]
  by_cases h0 : len * n = 0
  · rw [if_pos h0]
    have e1 : ((Array.range (len * n)).map ((#[] : Array Value)[· % (#[] : Array Value).size]!)) = ((Array.range (len * n)).map (z.toArray[· % z.toArray.size]!)) := by rw [h0]; simp
    simp only [Sem.run_bind, Sem.run_pure, Result.andThen_ok]
    rw [e1, hf]
    simp only [Sem.run_bind, run_newRow, Result.andThen_ok, Sem.run_pure]
  · rw [if_neg h0]
    simp only [Sem.run_bind, h1, Result.andThen_ok, Sem.run_pure, h2]
    rw [hf]
    simp only [Result.andThen_ok, Sem.run_bind, run_newRow, Sem.run_pure]

theorem madeCells_one (v : Value) (k : Nat) : madeCells #[v] k = (List.replicate k v).toArray := by
  apply Array.ext
  · simp [madeCells]
  · intro i h1 h2
    simp [madeCells, Nat.mod_one]
/-- make([]T, l, c), T of one cell -/
theorem op_makeSlice {e : TypeId} {bt l c : Nat} {tz : List Value} {ta : Bool} {v : Value} {kl kc : IntKind} (T : Ty P t (.slice e) 1 bt tz ta) (E : Ty P e td 1 b [v] ag) (hs : St w0 O0 w bs)
    (hx : ev ρ x = .int kl (l : Int)) (hy : ev ρ y = .int kc (c : Int)) (hlc : l ≤ c) (hb : b * c ≤ 281474976710656) (hc : c ≤ maxLen)
    (k : ∀ bl w', Ext w w' → Step (ks bs O0) w (ks ((some bl, .cells (List.replicate c v).toArray e) :: bs) O0) w' → St w0 O0 w' ((some bl, .cells (List.replicate c v).toArray e) :: bs) → V (.slice (some ⟨bl, 0, none⟩) l c) w') :
    Run1 P r ρ w ⟨d, .makeSlice t x y, ty, pos, aft, g⟩ V := by
  obtain ⟨i, h1, h2, h3, zv, h4, h5⟩ := E.info
  refine run1_value (v := .slice (some ⟨w.heap.size, 0, none⟩) l c) (w' := w.alloc (.cells (List.replicate c v).toArray e)) (by simp) ?_ (k _ _ (Ext.alloc w _) (Step.alloc w O0 bs _) (hs.alloc _))
  have := run_make (P := P) w t e i zv T.und h1 h4 kl kc l c (Int.natCast_nonneg l) (Int.ofNat_le.2 hlc) (by rw [h3, ← Int.natCast_mul]; exact Int.ofNat_le.2 hb) (by unfold maxLen at hc; omega)
  simp only [Int.toNat_natCast, h2, h5, Nat.mul_one] at this
  simp only [execOp, hx, hy, Sem.run_bind, this, Result.andThen_ok, Sem.run_pure, ← madeCells_one]

/-! append and copy -/
/-- where m·n cells are read from: the cells are 'news' -/
def Src (w : World) (a : Option Addr) (news : List Value) : Prop := news = [] ∨ ∃ ad, a = some ad ∧ ∀ j u, news[j]? = some u → w.cell? (ad.add j) = some u
theorem Src.owned {w : World} {bl o len : Nat} {cs : List Value} {e : TypeId} {fz : Nat × Nat} (h : w.heap[bl]? = some (.cells cs.toArray e fz)) : Src w (some ⟨bl, o, none⟩) ((cs.drop o).take len) :=
  .inr ⟨_, rfl, fun j u hj => by
    rw [Addr.add_lit, cell_at h]
    rw [List.getElem?_take, List.getElem?_drop] at hj
    split at hj
    · simpa using hj
    · cases hj⟩
theorem SlR.src {α : Type} {q : Rp α} {O : List Nat} {a : Option Addr} {c : Nat} {xs : List α} (h : SlR q w O a c xs) : ∃ news, Els q w O news xs ∧ Src w a news := by
  cases a with
  | none =>
    have := (h.nil rfl).1
    subst this
    exact ⟨[], rfl, .inl rfl⟩
  | some ad =>
    obtain ⟨cs, h1, h2⟩ := h.cells
    exact ⟨cs, h1, .inr ⟨ad, rfl, h2⟩⟩

/-- a slice that grows by append, its block owned: nil still, or a block of the call's own -/
def Gs {α : Type} (q : Rp α) (e : TypeId) (w : World) (O : List Nat) (a : Option Addr) (c : Nat) (xs : List α) (kk : Option Nat) (o : Obj) : Prop :=
  (a = none ∧ c = 0 ∧ xs = [] ∧ kk = none) ∨
  ∃ bl cur, a = some ⟨bl, 0, none⟩ ∧ kk = some bl ∧ o = .cells cur e (0, 0) ∧ cur.size = c * q.n ∧ xs.length ≤ c ∧ c ≤ maxLen ∧ Els q w O (cur.toList.take (xs.length * q.n)) xs
theorem Gs.step {α : Type} {q : Rp α} {e : TypeId} {w' : World} {O O' : List Nat} {a : Option Addr} {c : Nat} {xs : List α} {kk : Option Nat} {o : Obj} (s : Step O w O' w') (h : Gs q e w O a c xs kk o) : Gs q e w' O' a c xs kk o := by
  rcases h with h | ⟨bl, cur, h1, h2, h3, h4, h5, h6, h7⟩
  · exact .inl h
  · exact .inr ⟨bl, cur, h1, h2, h3, h4, h5, h6, h7.step s⟩
theorem Gs.nil_ {α : Type} {q : Rp α} {e : TypeId} {O : List Nat} {o : Obj} : Gs q e w O none 0 ([] : List α) none o := .inl ⟨rfl, rfl, rfl, rfl⟩
theorem Gs.made {α : Type} {q : Rp α} {e : TypeId} {O : List Nat} {bl c : Nat} {cur : Array Value} {xs : List α} (h1 : cur.size = c * q.n) (h2 : xs.length ≤ c) (h3 : c ≤ maxLen) (h4 : Els q w O (cur.toList.take (xs.length * q.n)) xs) :
    Gs q e w O (some ⟨bl, 0, none⟩) c xs (some bl) (.cells cur e) := .inr ⟨bl, cur, rfl, rfl, rfl, h1, h2, h3, h4⟩
theorem Gs.le {α : Type} {q : Rp α} {e : TypeId} {O : List Nat} {a : Option Addr} {c : Nat} {xs : List α} {kk : Option Nat} {o : Obj} (h : Gs q e w O a c xs kk o) : xs.length ≤ c ∧ c ≤ maxLen := by
  rcases h with ⟨_, rfl, rfl, _⟩ | ⟨_, _, _, _, _, _, h5, h6, _⟩
  · exact ⟨Nat.le_refl _, Nat.zero_le _⟩
  · exact ⟨h5, h6⟩

theorem not_ks_erase (hs : St w0 O0 w bs) {i bl : Nat} {o : Obj} (hi : bs[i]? = some (some bl, o)) : bl ∉ ks (bs.eraseIdx i) O0 := by
  intro hm
  have hb := (hs.own _ (List.mem_of_getElem? hi) bl rfl).1
  rcases List.mem_append.1 hm with hm | hm
  · have key : ∀ (bs : Ents) (i : Nat), (bs.filterMap Prod.fst).Nodup → bs[i]? = some (some bl, o) → bl ∉ (bs.eraseIdx i).filterMap Prod.fst := by
      intro bs
      induction bs with
      | nil => intro i _ hi; simp at hi
      | cons x bs ih =>
        intro i hnd hi
        have hnd' : (bs.filterMap Prod.fst).Nodup := (List.Sublist.filterMap _ (List.sublist_cons_self x bs)).nodup hnd
        cases i with
        | zero =>
          simp only [List.getElem?_cons_zero, Option.some.injEq] at hi
          subst hi
          rw [List.filterMap_cons_some (show Prod.fst ((some bl, o) : Option Nat × Obj) = some bl from rfl), List.nodup_cons] at hnd
          exact hnd.1
        | succ i =>
          have hi' : bs[i]? = some (some bl, o) := by simpa using hi
          have := ih i hnd' hi'
          simp only [List.eraseIdx_cons_succ]
          cases hx : x.1 with
          | none => rw [List.filterMap_cons_none hx]; exact this
          | some c =>
            rw [List.filterMap_cons_some hx, List.mem_cons]
            rw [List.filterMap_cons_some hx, List.nodup_cons] at hnd
            rintro (e | e)
            · subst e; exact hnd.1 (mem_keys.2 ⟨_, List.mem_of_getElem? hi', rfl⟩)
            · exact this e
    exact key bs i hs.nd hi hm
  · exact (hs.dj _ hm).2 (mem_keys.2 ⟨_, List.mem_of_getElem? hi, rfl⟩)

/-- what was owned is only read from here on -/
theorem St.publish {α : Type} {q : Rp α} (hs : St w0 O0 w bs) {i bl o c : Nat} {cs : List Value} {e : TypeId} {fz : Nat × Nat} {xs : List α} (hi : bs[i]? = some (some bl, .cells cs.toArray e fz))
    (hE : Els q w (ks bs O0) ((cs.drop o).take (xs.length * q.n)) xs) (h0 : o + xs.length * q.n ≤ cs.length) (h1 : xs.length ≤ c) (h2 : c ≤ maxLen) :
    St w0 O0 w (bs.eraseIdx i) ∧ Step (ks bs O0) w (ks (bs.eraseIdx i) O0) w ∧ SlR q w (ks (bs.eraseIdx i) O0) (some ⟨bl, o, none⟩) c xs := by
  have hst := Step.drop w O0 bs i
  refine ⟨hs.drop i, hst, h1, h2, (fun h => by cases h), fun ad ha j hj => ?_⟩
  cases ha
  rw [Addr.add_lit]
  have hle : (j + 1) * q.n ≤ xs.length * q.n := Nat.mul_le_mul_right _ hj
  have hj' : (j + 1) * q.n = j * q.n + q.n := by rw [Nat.add_mul]; omega
  refine ⟨rfl, ⟨hs.lt (List.mem_of_getElem? hi) rfl, not_ks_erase hs hi⟩, cs.toArray, e, fz, hs.get hi, by simp only [List.size_toArray]; omega, ?_⟩
  have := q.step hst (hE.get j hj)
  rw [List.drop_take, List.take_take, List.drop_drop, Nat.min_eq_left (by omega)] at this
  simpa using this
theorem Gs.publish {α : Type} {q : Rp α} {e : TypeId} {a : Option Addr} {c i : Nat} {xs : List α} {kk : Option Nat} {o : Obj} (hs : St w0 O0 w bs) (hi : bs[i]? = some (kk, o)) (h : Gs q e w (ks bs O0) a c xs kk o) :
    St w0 O0 w (bs.eraseIdx i) ∧ Step (ks bs O0) w (ks (bs.eraseIdx i) O0) w ∧ SlR q w (ks (bs.eraseIdx i) O0) a c xs := by
  rcases h with ⟨rfl, rfl, rfl, rfl⟩ | ⟨bl, cur, rfl, rfl, rfl, h4, h5, h6, h7⟩
  · exact ⟨hs.drop i, Step.drop w O0 bs i, SlR.nil_⟩
  · have hle : xs.length * q.n ≤ c * q.n := Nat.mul_le_mul_right _ h5
    exact hs.publish (cs := cur.toList) (o := 0) (by simpa using hi) (by simpa using h7) (by simp; omega) h5 h6
end
end Go.Fx
/- One lemma an operation: append, copy, conversions of bytes, calls of closures. No program in sight. -/
set_option linter.unusedSimpArgs false
set_option linter.unusedVariables false
namespace Go.Fx
open Go Go.RowKit
section
variable {P : Program} {r : Option Nat} {ρ : Env} {w : World} {d : Option Nat} {ty : TypeId} {pos : String} {aft : Array Edge} {g : Option (Nat × Bool)} {V : Value → World → Prop}
variable {w0 : Zx} {O0 : List Nat} {bs bs' : Ents}
variable {x y : Operand} {t : TypeId} {td : TypeDesc} {n b : Nat} {z : List Value} {ag : Bool}

theorem run_append_zero (T : Ty P t (.slice n) 1 b z ag) {td' : TypeDesc} {m b' : Nat} {z' : List Value} {ag' : Bool} (E : Ty P n td' m b' z' ag') (ty : TypeId) (a a2 : Option Addr) (l c c2 : Nat) (h : l ≤ c) :
    (Builtin.append_ #[t, t] ty #[.slice a l c, .slice a2 0 c2]).run P w = .ok (.slice a l c) w := by
  cases a <;> cases a2 <;> simp [Builtin.append_, T.runU, E.runSize, Builtin.lenOf, Builtin.firstCells, loadCells, loadCellsFrom, h, storeCells]

theorem St.extend (hs : St w0 O0 w bs) {i : Nat} {kk : Option Nat} {o : Obj} (hi : bs[i]? = some (kk, o)) (o' : Obj) :
    St w0 O0 (w.drew.alloc o') (bs.set i (some w.heap.size, o')) ∧ Step (ks bs O0) w (ks (bs.set i (some w.heap.size, o')) O0) (w.drew.alloc o') := by
  have ho : ∀ j, j < w.heap.size → kk ≠ some j → (w.drew.alloc o').heap[j]? = w.heap[j]? := fun j hj _ => heap_alloc_old w.drew o' j hj
  refine ⟨hs.put hi (hs.below.then ((Ext.drew w).trans (Ext.alloc w.drew o'))) (by simp) (fun j hj => ?_) ho, Step.put hi (by simp) (fun j hj => .inr ?_) ho⟩
  · cases hj
    exact ⟨.inr (Nat.le_refl _), heap_alloc_new w.drew o'⟩
  · cases hj; exact Nat.le_refl _

theorem op_append {α : Type} {q : Rp α} {xs ys : List α} {e : TypeId} {a a2 : Option Addr} {c c2 i bt : Nat} {tz : List Value} {ta : Bool} {kk : Option Nat} {o : Obj} {news : List Value}
    (T : Ty P t (.slice e) 1 bt tz ta) (E : Ty P e td n b z ag) (hqn : q.n = n) (h0 : 0 < n) (hs : St w0 O0 w bs) (hi : bs[i]? = some (kk, o))
    (hx : ev ρ x = .slice a xs.length c) (hG : Gs q e w (ks bs O0) a c xs kk o) (hy : ev ρ y = .slice a2 ys.length c2) (hS : Src w a2 news) (hE : Els q w (ks bs O0) news ys)
    (hb : (xs.length + ys.length) * b ≤ 140737488355328) (h63 : xs.length + ys.length ≤ maxLen)
    (k : ∀ a' c' k' o' w', Step (ks bs O0) w (ks (bs.set i (k', o')) O0) w' → St w0 O0 w' (bs.set i (k', o')) → Gs q e w' (ks (bs.set i (k', o')) O0) a' c' (xs ++ ys) k' o' → V (.slice a' (xs ++ ys).length c') w') :
    Run1 P r ρ w ⟨d, .call ⟨.builtin .append, #[x, y], #[t, t]⟩, ty, pos, aft, g⟩ V := by
  obtain ⟨ti, hi1, hi2, hi3, zv, hi4, hi5⟩ := E.info
  have hlen := hE.len
  have hone := hE.one
  have hle := hG.le
  rw [hqn, ← hi2] at hlen
  have h63' : xs.length + ys.length ≤ 9223372036854775807 := by simpa [maxLen] using h63
  have hzl : zv.cells.size = n := by rw [hi5]; simpa using E.zl
  -- the run, and what it leaves
  have main : ∃ a' c' k' o' w', (Builtin.append_ #[t, t] ty #[.slice a xs.length c, .slice a2 ys.length c2]).run P w = .ok (.slice a' (xs ++ ys).length c') w' ∧
      Step (ks bs O0) w (ks (bs.set i (k', o')) O0) w' ∧ St w0 O0 w' (bs.set i (k', o')) ∧ Gs q e w' (ks (bs.set i (k', o')) O0) a' c' (xs ++ ys) k' o' := by
    by_cases hys : ys = []
    · subst hys
      have hself : bs.set i (kk, o) = bs := by
        apply List.ext_getElem?
        intro j
        rw [List.getElem?_set]
        split
        · rename_i e; subst e
          split
          · exact hi.symm
          · rename_i hl; rw [List.getElem?_eq_none (by omega)]
        · rfl
      refine ⟨a, c, kk, o, w, ?_, ?_, ?_, ?_⟩
      · simp only [List.append_nil, List.length_nil]
        exact run_append_zero T E ty a a2 _ c c2 hle.1
      · rw [hself]; exact Step.refl _ _
      · rw [hself]; exact hs
      · rw [hself, List.append_nil]; exact hG
    · have hpos : 0 < ys.length := List.length_pos_iff.2 hys
      have hnn : news ≠ [] := fun hn => by
        rw [hn, List.length_nil] at hlen
        have : 0 < ys.length * ti.size := Nat.mul_pos hpos (by omega)
        omega
      obtain ⟨ad, ha2, hnews⟩ := hS.resolve_left hnn
      subst ha2
      -- a new block
      have fresh : ∀ (old : Nat) (olds : List Value), Els q w (ks bs O0) olds xs →
          let o' := Obj.cells (olds.toArray ++ news.toArray ++ Builtin.zeroCells zv.cells (grownCap w (xs.length + ys.length) old e - (xs.length + ys.length))) e
          Step (ks bs O0) w (ks (bs.set i (some w.heap.size, o')) O0) (w.drew.alloc o') ∧ St w0 O0 (w.drew.alloc o') (bs.set i (some w.heap.size, o')) ∧
          Gs q e (w.drew.alloc o') (ks (bs.set i (some w.heap.size, o')) O0) (some ⟨w.heap.size, 0, none⟩) (grownCap w (xs.length + ys.length) old e) (xs ++ ys) (some w.heap.size) o' := by
        intro old olds hol o'
        obtain ⟨h1, h2⟩ := hs.extend hi o'
        have hge := grownCap_ge w (xs.length + ys.length) old e
        have hcm := grownCap_le_maxLen w (xs.length + ys.length) old e h63
        have hlo := hol.len
        have hE' : Els q w (ks bs O0) (olds ++ news) (xs ++ ys) := hol.append hE
        refine ⟨h2, h1, Gs.made ?_ (by simpa using hge) hcm ?_⟩
        · simp only [Array.size_append, List.size_toArray, size_zeroCells, hzl, hlo, hlen, hqn, hi2, ← Nat.add_mul]
          congr 1; omega
        · have e1 : (olds.toArray ++ news.toArray ++ Builtin.zeroCells zv.cells (grownCap w (xs.length + ys.length) old e - (xs.length + ys.length))).toList.take ((xs ++ ys).length * q.n) = olds ++ news := by
            have : (xs ++ ys).length * q.n = (olds ++ news).length := by rw [hE'.len]
            rw [this]
            simp only [Array.toList_append, List.append_assoc]
            rw [← List.append_assoc, List.take_left]
          rw [e1]; exact hE'.step h2
      rcases hG with ⟨rfl, rfl, rfl, rfl⟩ | ⟨bl, cur, rfl, rfl, rfl, g4, g5, g6, g7⟩
      · have hr := run_append_nil (P := P) (w := w) t ty e ti zv T.und hi1 hi4 ad ys.length c2 news hlen hnews hpos (by simp at h63'; omega) (by rw [hi3]; simp at hb; omega)
        have hf := fresh 0 [] rfl
        simp only [List.length_nil, Nat.zero_add, List.nil_append, Array.empty_append] at hf ⊢
        exact ⟨_, _, _, _, _, hr, hf⟩
      · by_cases hroom : xs.length + ys.length ≤ c
        · have hnl : news.length = ys.length * q.n := by rw [hlen, hi2, hqn]
          have hfit : xs.length * ti.size + news.length ≤ cur.size := by
            rw [hlen, g4, hqn, ← hi2, ← Nat.add_mul]; exact Nat.mul_le_mul_right _ hroom
          have hr := run_append_room (P := P) w t ty e ti T.und hi1 bl xs.length c cur (hs.get hi) ad ys.length c2 news hlen hnews hone hroom hfit
          obtain ⟨h1, h2⟩ := hs.setRow hi (cur.toList.take (xs.length * ti.size) ++ news ++ cur.toList.drop (xs.length * ti.size + news.length)).toArray
          refine ⟨_, _, _, _, _, by rw [List.length_append]; exact hr, h2, h1, Gs.made ?_ (by simpa using hroom) g6 ?_⟩
          · simp only [List.size_toArray, List.length_append, List.length_take, List.length_drop, Array.length_toList]
            omega
          · have g7' := (g7.append hE).step h2
            have e1 : (cur.toList.take (xs.length * ti.size) ++ news ++ cur.toList.drop (xs.length * ti.size + news.length)).take ((xs ++ ys).length * q.n) = cur.toList.take (xs.length * q.n) ++ news := by
              have : (xs ++ ys).length * q.n = (cur.toList.take (xs.length * q.n) ++ news).length := by rw [(g7.append hE).len]
              rw [this, hi2, hqn, List.take_left]
            simp only [List.toList_toArray]
            rw [e1]; exact g7'
        · have holds : ∀ j u, (cur.toList.take (xs.length * q.n))[j]? = some u → w.cell? ((⟨bl, 0, none⟩ : Addr).add j) = some u := by
            intro j u hj
            rw [Addr.add_lit, cell_at (hs.get hi)]
            rw [List.getElem?_take] at hj
            split at hj
            · simpa using hj
            · cases hj
          have hlo : (cur.toList.take (xs.length * q.n)).length = xs.length * ti.size := by rw [g7.len, hqn, hi2]
          have hr := run_append_grow (P := P) (w := w) t ty e ti zv T.und hi1 hi4 ⟨bl, 0, none⟩ xs.length c _ hlo holds ad ys.length c2 news hlen hnews (by omega) (by omega)
            (growslice_fits (by omega) (by rw [hi3]; exact hb))
          have hf := fresh c _ g7
          exact ⟨_, _, _, _, _, by rw [List.length_append]; exact hr, hf⟩
  obtain ⟨a', c', k', o', w', hr, h1, h2, h3⟩ := main
  refine run1_value (by simp) ?_ (k a' c' k' o' w' h1 h2 h3)
  simp [execOp, resolve, invoke, builtin, hx, hy, hr]

end
end Go.Fx
/- A region whose order is drawn: its operations one by one, each from what those that it hangs on have left. No program in sight. -/
set_option linter.unusedSimpArgs false
set_option linter.unusedVariables false
namespace Go.Fx
open Go Go.RowKit

/-- what is known of a value, of the world and of what stands beside it (Γ) -/
abbrev VR (Γ : Type) := Value → World → Γ → Prop
/-- what the operations of a region keep, and how the world goes on -/
structure Go1 (Γ : Type) where
  inv : World → Γ → Prop
  le : World → Γ → World → Γ → Prop
  refl : ∀ w g, le w g w g
  trans : ∀ {w g w' g' w'' g''}, le w g w' g' → le w' g' w'' g'' → le w g w'' g''
  drew : ∀ w g, inv w g → inv w.drew g ∧ le w g w.drew g
  /-- which operations have been done, as far as it is kept -/
  dn : Γ → List Nat := fun _ => []
variable {Γ : Type}
def Stab (T : Go1 Γ) (V : VR Γ) : Prop := ∀ v w g w' g', T.le w g w' g' → V v w g → V v w' g'
theorem Stab.eq (T : Go1 Γ) (c : Value) : Stab T fun v _ _ => v = c := fun _ _ _ _ _ _ h => h

def look : List (Nat × VR Γ) → Nat → Option (VR Γ)
  | [], _ => none
  | (d, V) :: G, t => if t = d then some V else look G t
/-- what is known of slot t -/
def HoldsAt (G : List (Nat × VR Γ)) (ρ0 ρ : Env) (w : World) (g : Γ) (t : Nat) : Prop := match look G t with
  | some V => V (ρ t) w g
  | none => ρ t = ρ0 t
def StepOp (P : Program) (r : Option Nat) (ops : List Oper) (ρ : Env) (w : World) (o : Oper) (K : Value → World → Prop) : Prop :=
  if Region.wanted o (yieldedE ops ρ) then Run1 P r ρ w o K else K undef w
/-- for all values of the slots that fit -/
def Fin (w : World) (g : Γ) (K : Env → World → Γ → Prop) : List (Nat × VR Γ) → Env → Prop
  | [], ρ => K ρ w g
  | (d, V) :: G, ρ => ∀ v, V v w g → Fin w g K G (upd ρ d v)
/-- what an operation must come to -/
def Goes (T : Go1 Γ) (w : World) (g : Γ) (V : VR Γ) (k : Nat) : Value → World → Prop := fun v w' => ∃ g', T.inv w' g' ∧ T.le w g w' g' ∧ V v w' g' ∧ ∀ i ∈ T.dn g', i ∈ T.dn g ∨ i = k
/-- what is asked at the end of what is known -/
abbrev leafF (T : Go1 Γ) (ρ0 : Env) (w0 : World) (g0 : Γ) (K : Env → World → Γ → Prop) : List (Nat × VR Γ) → Prop := fun G => ∀ w g, T.le w0 g0 w g → T.inv w g → Fin w g K G ρ0
def Dw (P : Program) (r : Option Nat) (T : Go1 Γ) (ops : List Oper) (ρ0 : Env) (w0 : World) (g0 : Γ) (leaf : List (Nat × VR Γ) → Prop) : List Oper → List (Nat × VR Γ) → Prop
  | [], G => leaf G
  | o :: l, G => ∃ V, Stab T V ∧ (∀ ρ w g, T.le w0 g0 w g → T.inv w g → G.length ∉ T.dn g → (∀ t, (o.looksAt ops.toArray).contains t = true → HoldsAt G ρ0 ρ w g t) → StepOp P r ops ρ w o (Goes T w g V G.length)) ∧
      Dw P r T ops ρ0 w0 g0 leaf l (G ++ [((o.dst).getD 0, V)])

section checks
def dstOf (ops : List Oper) (j : Nat) : Option Nat := (ops[j]?).bind (·.dst)
def depsOf (ops : List Oper) (j : Nat) : List Nat := match ops[j]? with
  | some o => (o.after.toList.filter (Region.binds .any)).map (·.on)
  | none => []
def looksOf (ops : List Oper) (j : Nat) : List Nat := match ops[j]? with
  | some o => o.looksAt ops.toArray
  | none => []
/-- what comes before, downward from j -/
def sweep (ops : List Oper) : Nat → List Nat → List Nat
  | 0, s => s
  | j + 1, s => sweep ops j (bif s.contains j then s ++ (depsOf ops j).filter (fun i => !s.contains i) else s)
/-- what comes before -/
def clo (ops : List Oper) (k : Nat) : List Nat := sweep ops k (depsOf ops k)
def apartB (ops : List Oper) (i j : Nat) : Bool := match ops[i]?, ops[j]? with
  | some a, some b => a.apart ops.toArray b
  | _, _ => false
def floatB (ops : List Oper) (i : Nat) : Bool := match ops[i]? with
  | some ⟨some _, .extract _ _, _, _, _, none⟩ => true
  | some ⟨some _, .move _, _, _, _, none⟩ => true
  | _ => false
structure DrawOk (n : Nat) (ops : List Oper) (m : Nat) (fl : List Nat) : Prop where
  dst : ∀ j < m, (dstOf ops j).any (· < n) = true ∧ ∀ i < j, dstOf ops i ≠ dstOf ops j
  up : ∀ j < ops.length, ∀ i ∈ depsOf ops j, i < j
  look : ∀ j < m, ∀ t ∈ looksOf ops j, ∀ i < m, dstOf ops i = some t → i ∈ depsOf ops j
  tail : ∀ k < ops.length, m ≤ k → (∀ i < m, i ∉ fl → i ∈ clo ops k) ∧ (m < k → k - 1 ∈ depsOf ops k)
  fl : ∀ f ∈ fl, f < m ∧ floatB ops f = true ∧ (∀ i ∈ depsOf ops f, i ∉ fl ∧ i < m) ∧ ∀ j < ops.length, j ≠ f → j ∈ depsOf ops f ∨ f ∈ depsOf ops j ∨ apartB ops f j = true
  sel : Region.noSelect ops.toArray = true
  le : m ≤ ops.length
def allLt (n : Nat) (p : Nat → Bool) : Bool := (List.range n).all p
theorem allLt_spec {n : Nat} {p : Nat → Bool} (h : allLt n p = true) : ∀ i < n, p i = true := fun i hi => List.all_eq_true.1 h i (List.mem_range.2 hi)
def drawB (n : Nat) (ops : List Oper) (m : Nat) (fl : List Nat) : Bool :=
  allLt m (fun j => (dstOf ops j).any (· < n) && allLt j fun i => dstOf ops i != dstOf ops j) &&
  (allLt ops.length (fun j => (depsOf ops j).all (· < j)) &&
  (allLt m (fun j => (looksOf ops j).all fun t => allLt m fun i => dstOf ops i != some t || (depsOf ops j).contains i) &&
  (allLt ops.length (fun k => k < m || (allLt m (fun i => fl.contains i || (clo ops k).contains i) && (k ≤ m || (depsOf ops k).contains (k - 1)))) &&
  (fl.all (fun f => f < m && (floatB ops f && ((depsOf ops f).all (fun i => !fl.contains i && i < m) && allLt ops.length fun j => j == f || (depsOf ops f).contains j || (depsOf ops j).contains f || apartB ops f j))) &&
  (Region.noSelect ops.toArray && m ≤ ops.length)))))
theorem DrawOk.of {n : Nat} {ops : List Oper} {m : Nat} {fl : List Nat} (h : drawB n ops m fl = true) : DrawOk n ops m fl := by
  simp only [drawB, Bool.and_eq_true] at h
  obtain ⟨h1, h2, h3, h4, h5, h6, h7⟩ := h
  refine ⟨fun j hj => ?_, fun j hj i hi => ?_, fun j hj t ht i hi hd => ?_, fun k hk hm => ?_, fun f hf => ?_, h6, by simpa using h7⟩
  · have := allLt_spec h1 j hj
    simp only [Bool.and_eq_true] at this
    exact ⟨this.1, fun i hi => by simpa using allLt_spec this.2 i hi⟩
  · have := List.all_eq_true.1 (allLt_spec h2 j hj) i hi
    simpa using this
  · have := allLt_spec (List.all_eq_true.1 (allLt_spec h3 j hj) t ht) i hi
    simp only [Bool.or_eq_true, bne_iff_ne, ne_eq, List.contains_eq_mem, decide_eq_true_eq] at this
    exact this.resolve_left (fun h => h hd)
  · have := allLt_spec h4 k hk
    simp only [Bool.or_eq_true, decide_eq_true_eq, Bool.and_eq_true, List.contains_eq_mem] at this
    rcases this with h | ⟨h, h'⟩
    · omega
    · refine ⟨fun i hi hf => ?_, fun hmk => h'.resolve_left (by omega)⟩
      have := allLt_spec h i hi
      simp only [Bool.or_eq_true, decide_eq_true_eq] at this
      exact this.resolve_left hf
  · have := List.all_eq_true.1 h5 f hf
    simp only [Bool.and_eq_true, decide_eq_true_eq] at this
    obtain ⟨p1, p2, p3, p4⟩ := this
    refine ⟨p1, p2, fun i hi => ?_, fun j hj hne => ?_⟩
    · have := List.all_eq_true.1 p3 i hi
      simpa using this
    · have := allLt_spec p4 j hj
      simp only [Bool.or_eq_true, beq_iff_eq, List.contains_eq_mem, decide_eq_true_eq] at this
      rcases this with ((h | h) | h) | h
      · exact absurd h hne
      · exact .inl h
      · exact .inr (.inl h)
      · exact .inr (.inr h)
end checks

theorem mem_depsOf {ops : List Oper} {j : Nat} {o : Oper} (h : ops[j]? = some o) {i : Nat} : i ∈ depsOf ops j ↔ ∃ e ∈ o.after, Region.binds .any e = true ∧ e.on = i := by
  simp only [depsOf, h, List.mem_map, List.mem_filter, Array.mem_toList_iff]
  constructor
  · rintro ⟨e, ⟨h1, h2⟩, h3⟩; exact ⟨e, h1, h2, h3⟩
  · rintro ⟨e, h1, h2, h3⟩; exact ⟨e, ⟨h1, h2⟩, h3⟩

theorem sweep_listed {ops : List Oper} {L : Nat → Prop} (hdc : ∀ j, L j → ∀ i ∈ depsOf ops j, L i) : ∀ (j : Nat) (s : List Nat), (∀ i ∈ s, L i) → ∀ i ∈ sweep ops j s, L i
  | 0, _, hs => hs
  | j + 1, s, hs => by
    unfold sweep
    refine sweep_listed hdc j _ fun i hi => ?_
    cases h : s.contains j
    · rw [h] at hi; exact hs i hi
    · rw [h, cond_true] at hi
      rcases List.mem_append.1 hi with hi | hi
      · exact hs i hi
      · exact hdc j (hs j (by simpa using h)) i (List.mem_filter.1 hi).1
theorem clo_listed {ops : List Oper} {L : Nat → Prop} (hdc : ∀ j, L j → ∀ i ∈ depsOf ops j, L i) (k : Nat) (hk : ∀ i ∈ depsOf ops k, L i) : ∀ i ∈ clo ops k, L i := sweep_listed hdc k _ hk

/-- the facts of the walk, operation by operation -/
theorem Dw.facts {P : Program} {r : Option Nat} {T : Go1 Γ} {ops : List Oper} {ρ0 : Env} {w0 : World} {g0 : Γ} {leaf : List (Nat × VR Γ) → Prop} : ∀ (l : List Oper) (G : List (Nat × VR Γ)), Dw P r T ops ρ0 w0 g0 leaf l G →
    ∃ Vs : List (VR Γ), Vs.length = l.length ∧
      (∀ i o V, l[i]? = some o → Vs[i]? = some V → Stab T V ∧ ∀ ρ w g, T.le w0 g0 w g → T.inv w g → G.length + i ∉ T.dn g →
        (∀ t, (o.looksAt ops.toArray).contains t = true → HoldsAt (G ++ (((l.map fun o => (o.dst).getD 0).zip Vs).take i)) ρ0 ρ w g t) → StepOp P r ops ρ w o (Goes T w g V (G.length + i))) ∧
      leaf (G ++ (l.map fun o => (o.dst).getD 0).zip Vs)
  | [], G, h => ⟨[], rfl, (fun i o V hi => by simp at hi), by simpa [Dw] using h⟩
  | o :: l, G, ⟨V, h1, h2, h3⟩ => by
    obtain ⟨Vs, hl, ha, hf⟩ := Dw.facts l _ h3
    refine ⟨V :: Vs, by simp [hl], fun i o' V' hi hV => ?_, by simpa using hf⟩
    cases i with
    | zero =>
      simp only [List.getElem?_cons_zero, Option.some.injEq] at hi hV
      subst hi hV
      exact ⟨h1, fun ρ w g hw hi hk ht => h2 ρ w g hw hi hk (by simpa using ht)⟩
    | succ i =>
      have := ha i o' V' (by simpa using hi) (by simpa using hV)
      have e : (G ++ [((o.dst).getD 0, V)]).length + i = G.length + (i + 1) := by simp only [List.length_append, List.length_cons, List.length_nil]; omega
      rw [e] at this
      refine ⟨this.1, fun ρ w g hw hi hk ht => this.2 ρ w g hw hi hk fun t htt => ?_⟩
      have := ht t htt
      simpa using this

theorem Fin.apply {w : World} {g : Γ} {K : Env → World → Γ → Prop} : ∀ (G : List (Nat × VR Γ)) (ρ0 ρ : Env), Fin w g K G ρ0 → (G.map Prod.fst).Nodup → (∀ p ∈ G, p.2 (ρ p.1) w g) → (∀ t, t ∉ G.map Prod.fst → ρ t = ρ0 t) → ρ.ds = ρ0.ds → K ρ w g
  | [], ρ0, ρ, h, _, _, he, hd => by
    have : ρ = ρ0 := Env.ext' (fun t => he t (by simp)) hd
    subst this; exact h
  | (d, V) :: G, ρ0, ρ, h, hn, hv, he, hd => by
    simp only [List.map_cons, List.nodup_cons] at hn
    refine Fin.apply G (upd ρ0 d (ρ d)) ρ (h (ρ d) (hv (d, V) (by simp))) hn.2 (fun p hp => hv p (List.mem_cons_of_mem _ hp)) (fun t ht => ?_) hd
    by_cases htd : t = d
    · subst htd; rw [upd_same]
    · rw [upd_other _ _ _ htd]; exact he t (by simp [htd, ht])

section
variable {P : Program} {r : Option Nat} {n m : Nat} {l : List Oper} {fl : List Nat} {Q : Post}

/-- how many have not come up -/
def cnt (L : Array Bool) : Nat → Nat
  | 0 => 0
  | k + 1 => cnt L k + if L.getD k true then 0 else 1
theorem getD_any {L : Array Bool} {i : Nat} (h : i < L.size) (b : Bool) : L.getD i b = L.getD i true := by simp [Array.getD_eq_getD_getElem?, Array.getElem?_eq_getElem h]
theorem getD_set {L : Array Bool} {i j : Nat} (h : i < L.size) : (L.setIfInBounds i true).getD j true = if j = i then true else L.getD j true := by
  by_cases hji : j = i
  · subst hji; simp [Array.getD_eq_getD_getElem?, h]
  · simp only [Array.getD_eq_getD_getElem?, Array.getElem?_setIfInBounds, Ne.symm hji, hji, if_false]
theorem cnt_set {L : Array Bool} {i : Nat} (h : i < L.size) (hu : L.getD i true = false) : ∀ k, cnt (L.setIfInBounds i true) k + (if i < k then 1 else 0) = cnt L k
  | 0 => by simp [cnt]
  | k + 1 => by
    have ih := cnt_set h hu k
    simp only [cnt, getD_set h]
    by_cases hk : k = i
    · subst hk
      simp only [if_true, hu, Bool.false_eq_true, if_false]
      simp at ih ⊢; omega
    · simp only [hk, if_false]
      by_cases h1 : i < k
      · simp only [h1, if_true] at ih
        rw [if_pos (show i < k + 1 by omega)]; omega
      · simp only [h1, if_false] at ih
        rw [if_neg (show ¬ i < k + 1 by omega)]; omega
theorem cnt_zero {L : Array Bool} : ∀ {k : Nat}, cnt L k = 0 → ∀ i < k, L.getD i true = true
  | 0, _, i, h => by omega
  | k + 1, h, i, hi => by
    simp only [cnt] at h
    by_cases hk : i = k
    · subst hk
      cases hL : L.getD i true with
      | true => rfl
      | false => rw [hL] at h; simp at h
    · exact cnt_zero (Nat.add_eq_zero_iff.1 h).1 i (by omega)
theorem cnt_le (L : Array Bool) : ∀ k, cnt L k ≤ k
  | 0 => Nat.le_refl _
  | k + 1 => by have := cnt_le L k; simp only [cnt]; split <;> omega

/-- the last operations come in their order -/
theorem tail_any (D : DrawOk n l m fl) {Q' : Exit → Act → World → Prop} : ∀ (fuel k : Nat) (listed : Array Bool) (a : Act) (w : World), m ≤ k → k ≤ l.length → cnt listed l.length ≤ fuel → listed.size = l.length →
    (∀ i, i < l.length → listed.getD i true = decide (i < k)) → wpListIn (FW r) 0 P l.toArray Q' (l.drop k) a w → wpAnyIn (FW r) 0 P .any l.toArray Q' fuel listed a w := by
  intro fuel
  induction fuel with
  | zero =>
    intro k listed a w hmk hkl hc hsz hL h
    have hz := cnt_zero (Nat.le_zero.1 hc)
    have hrd : Region.ready .any l.toArray listed = [] := by
      rw [List.eq_nil_iff_forall_not_mem]
      intro i hi
      obtain ⟨h1, o, ho, _⟩ := mem_ready.1 hi
      have hil : i < l.length := by simpa using (Array.getElem?_eq_some_iff.1 ho).1
      rw [hz i hil] at h1
      cases h1
    have hk : l.length ≤ k := by
      rcases Nat.lt_or_ge k l.length with hlt | hge
      · have := hz k hlt; rw [hL k hlt] at this; simp at this
      · exact hge
    rw [List.drop_of_length_le hk] at h
    exact ⟨hrd, h⟩
  | succ fuel ih =>
    intro k listed a w hmk hkle hc hsz hL h
    rcases Nat.eq_or_lt_of_le hkle with hkl | hkl
    · have hrd : Region.ready .any l.toArray listed = [] := by
        rw [List.eq_nil_iff_forall_not_mem]
        intro i hi
        obtain ⟨h1, o, ho, _⟩ := mem_ready.1 hi
        have hil : i < l.length := by simpa using (Array.getElem?_eq_some_iff.1 ho).1
        rw [hL i hil] at h1
        simp at h1; omega
      rw [List.drop_of_length_le (by omega)] at h
      exact wpAnyIn_done hrd h _
    have hgD : ∀ i, i < l.length → listed.getD i false = listed.getD i true := fun i hi => by simp [Array.getD_eq_getD_getElem?, Array.getElem?_eq_getElem (show i < listed.size by omega)]
    -- what may come up is k alone
    have hrd : ∀ i ∈ Region.ready .any l.toArray listed, i = k := by
      intro i hi
      obtain ⟨h1, o, ho, hdep⟩ := mem_ready.1 hi
      have hil : i < l.length := by simpa using (Array.getElem?_eq_some_iff.1 ho).1
      rw [hL i hil] at h1
      have hik : k ≤ i := by simpa using h1
      rcases Nat.eq_or_lt_of_le hik with e | hlt
      · exact e.symm
      · exfalso
        have hm' := (D.tail i hil (by omega)).2 (by omega)
        rw [mem_depsOf (by simpa using ho)] at hm'
        obtain ⟨e, he, hb, hon⟩ := hm'
        have := hdep e he hb
        rw [hon, hgD _ (by omega), hL _ (by omega)] at this
        simp at this; omega
    have hk1 : k ∈ Region.ready .any l.toArray listed := by
      refine mem_ready.2 ⟨by rw [hL k hkl]; simp, l[k], by simp [hkl], fun e he hb => ?_⟩
      have := D.up k hkl e.on ((mem_depsOf (List.getElem?_eq_getElem hkl)).2 ⟨e, he, hb, rfl⟩)
      rw [hgD _ (by omega), hL _ (by omega)]; simpa using this
    refine ⟨fun h0 => absurd hk1 (by rw [h0]; simp), fun i hi => ?_⟩
    have := hrd i hi
    subst this
    rw [List.drop_eq_getElem_cons hkl] at h
    have h' := h
    unfold wpOpIn
    simp only [List.getElem?_toArray, List.getElem?_eq_getElem hkl]
    simp only [wpListIn] at h'
    have hL' : ∀ j, j < l.length → (listed.setIfInBounds i true).getD j true = decide (j < i + 1) := by
      intro j hj
      by_cases hji : j = i
      · subst hji; simp [Array.getD_eq_getD_getElem?, hsz, hkl]
      · have := hL j hj
        simp only [Array.getD_eq_getD_getElem?, Array.getElem?_setIfInBounds, Ne.symm hji, if_false] at this ⊢
        rw [this]; simp; omega
    have step : ∀ a' w', wpListIn (FW r) 0 P l.toArray Q' (l.drop (i + 1)) a' w' → wpAnyIn (FW r) 0 P .any l.toArray Q' fuel (listed.setIfInBounds i true) a' w' :=
      fun a' w' hh => ih (i + 1) _ a' w' (by omega) (by omega) (by
        have := cnt_set (L := listed) (i := i) (by omega) (by rw [hL i hkl]; simp) l.length
        rw [if_pos hkl] at this; omega) (by simpa using hsz) hL' hh
    split
    · rename_i hw
      rw [if_pos hw] at h'
      exact Oper.wpIn_mono step h'
    · rename_i hw
      rw [if_neg hw] at h'
      exact ⟨h'.1, step _ _ h'.2⟩

theorem look_some {G : List (Nat × VR Γ)} {t : Nat} {V : VR Γ} (h : look G t = some V) : (t, V) ∈ G := by
  induction G with
  | nil => simp [look] at h
  | cons p G ih =>
    obtain ⟨d, U⟩ := p
    simp only [look] at h
    split at h
    · rename_i e; subst e; cases h; simp
    · exact List.mem_cons_of_mem _ (ih h)
theorem look_none {G : List (Nat × VR Γ)} {t : Nat} (h : look G t = none) : t ∉ G.map Prod.fst := by
  induction G with
  | nil => simp
  | cons p G ih =>
    obtain ⟨d, U⟩ := p
    simp only [look] at h
    split at h
    · cases h
    · rename_i e; simp only [List.map_cons, List.mem_cons, not_or]; exact ⟨e, ih h⟩

theorem run_float {o : Oper} {ρ : Env} {w : World} {V : Value → World → Prop} (hf : (match o with | ⟨some _, .extract _ _, _, _, _, none⟩ => true | ⟨some _, .move _, _, _, _, none⟩ => true | _ => false) = true)
    (h : Run1 P none ρ w o V) : ∃ v, (∀ w, (execOp (ev ρ) o).run P w = .ok (.value v) w) ∧ V v w := by
  unfold Run1 at h
  obtain ⟨dst, op, ty, pos, aft, g⟩ := o
  cases dst <;> cases op <;> cases g <;> simp at hf
  case some.move x => exact ⟨ev ρ x, fun w => by simp [execOp], by simpa [Oper.semAt, execOp] using h⟩
  case some.extract x i =>
    simp only [Oper.semAt, execOp] at h ⊢
    revert h
    cases ev ρ x <;> intro h <;> simp only [Instr.extract] at h ⊢ <;> try (simp [stuck, Sem.run] at h)
    rename_i vs
    cases hv : vs[i]? with
    | none => simp [hv, stuck, Sem.run] at h
    | some v => simp only [hv, Sem.run_bind, Sem.run_pure, Result.andThen_ok] at h ⊢; exact ⟨v, fun _ => rfl, h⟩

/-- **A region whose order is drawn.** -/
theorem Wp_draw {T : Go1 Γ} {g0 : Γ} {id : Nat} {ρ : Env} {w : World} (hinv : T.inv w g0) (hg0 : T.dn g0 = []) (hro : r = none ∨ fl = []) (hm : P.follows .mixedOrders = true) (hB : drawB n l m fl = true)
    (h : Dw P r T l ρ w g0 (fun G => leafF T ρ w g0 (fun ρ' w' _ => Rg P r n l (l.drop m) Q ρ' w') G.reverse) (l.take m) []) : Wp P r n (.region id l.toArray true) Q ρ w := by
  have D := DrawOk.of hB
  obtain ⟨Vs, hVl, hV, hfin⟩ := Dw.facts _ _ h
  simp only [List.nil_append, List.length_nil, Nat.zero_add, List.length_take, Nat.min_eq_left D.le] at hVl hV hfin
  unfold Wp
  intro a ha
  apply wpIn_region_any hm
  -- the slots and what is known of them
  have hget : ∀ i, i < m → (l.take m)[i]? = l[i]? := fun i hi => by rw [List.getElem?_take, if_pos hi]
  have hdst : ∀ i, i < m → ∃ o d, l[i]? = some o ∧ o.dst = some d ∧ d < n := fun i hi => by
    have h1 := (D.dst i hi).1
    unfold dstOf at h1
    cases ho : l[i]? with
    | none => simp [ho] at h1
    | some o =>
      cases hd : o.dst with
      | none => simp [ho, hd] at h1
      | some d => exact ⟨o, d, rfl, hd, by simpa [ho, hd] using h1⟩
  have hVget : ∀ i, i < m → ∃ V, Vs[i]? = some V := fun i hi => ⟨_, List.getElem?_eq_getElem (by omega)⟩
  let G : List (Nat × VR Γ) := ((l.take m).map fun o => (o.dst).getD 0).zip Vs
  have hGget : ∀ i o d V, i < m → l[i]? = some o → o.dst = some d → Vs[i]? = some V → G[i]? = some (d, V) := fun i o d V hi ho hd hV => by
    simp only [G, List.getElem?_zip_eq_some, List.getElem?_map, hget i hi, ho, Option.map_some, hd, Option.getD_some, hV, and_self]
  have hGlen : G.length = m := by simp [G, hVl, Nat.min_eq_left D.le]
  have hGinv : ∀ i p, G[i]? = some p → i < m ∧ ∃ o, l[i]? = some o ∧ o.dst = some p.1 ∧ Vs[i]? = some p.2 := fun i p hp => by
    have him : i < m := by rw [← hGlen]; exact (List.getElem?_eq_some_iff.1 hp).1
    obtain ⟨o, d, ho, hd, _⟩ := hdst i him
    obtain ⟨V, hV'⟩ := hVget i him
    rw [hGget i o d V him ho hd hV'] at hp
    cases hp
    exact ⟨him, o, ho, hd, hV'⟩
  have hnodup : (G.map Prod.fst).Nodup := by
    rw [List.nodup_iff_pairwise_ne, List.pairwise_iff_getElem]
    intro i j hi hj hij e
    simp only [List.length_map] at hi hj
    obtain ⟨h1, o1, a1, a2, _⟩ := hGinv i G[i] (List.getElem?_eq_getElem hi)
    obtain ⟨h2, o2, b1, b2, _⟩ := hGinv j G[j] (List.getElem?_eq_getElem hj)
    simp only [List.getElem_map] at e
    exact (D.dst j h2).2 i hij (by simp [dstOf, a1, a2, b1, b2, e])
  have hnodup' : (G.reverse.map Prod.fst).Nodup := by rw [List.map_reverse]; exact (List.reverse_perm _).nodup_iff.2 hnodup
  -- the walk
  have key : ∀ (fuel : Nat) (listed : Array Bool) (a : Act) (ρ' : Env) (w' : World) (g : Γ), listed.size = l.length → cnt listed l.length ≤ fuel →
      IsAct n ρ' a → ρ'.ds = ρ.ds → T.le w g0 w' g → T.inv w' g →
      (∀ i, m ≤ i → i < l.length → listed.getD i true = false) →
      (∀ i, i < m → listed.getD i true = true → ∀ o d V, l[i]? = some o → o.dst = some d → Vs[i]? = some V → V (ρ' d) w' g) →
      (∀ t, (∀ i, i < m → listed.getD i true = true → dstOf l i ≠ some t) → ρ' t = ρ t) →
      (∀ i, i < l.length → listed.getD i true = true → ∀ j ∈ depsOf l i, listed.getD j true = true) → (∀ i, i < l.length → i ∈ T.dn g → listed.getD i true = true) →
      wpAnyIn (FW r) 0 P .any l.toArray (lift n Q) fuel listed a w' := by
    intro fuel
    induction fuel with
    | zero =>
      intro listed a ρ' w' g hsz hc ha hds hx hgi htail hfact hframe hdc hdone
      have hz := cnt_zero (Nat.le_zero.1 hc)
      have hml : m = l.length := by
        rcases Nat.eq_or_lt_of_le D.le with h | h
        · exact h
        · have h1 := htail m (Nat.le_refl _) h; rw [hz m h] at h1; cases h1
      have hK := hfin w' g hx hgi
      have hR := Fin.apply G.reverse ρ ρ' hK hnodup' (fun p hp => by
          obtain ⟨i, hi⟩ := List.mem_iff_getElem?.1 (List.mem_reverse.1 hp)
          obtain ⟨him, o, ho, hd, hV'⟩ := hGinv i p hi
          exact hfact i him (hz i (by omega)) o _ _ ho hd hV') (fun t ht => hframe t fun i him _ e => by
          obtain ⟨o, d, ho, hd, _⟩ := hdst i him
          obtain ⟨V, hV'⟩ := hVget i him
          have : d = t := by simpa [dstOf, ho, hd] using e
          subst this
          exact ht (List.mem_map.2 ⟨(d, V), List.mem_reverse.2 (List.mem_of_getElem? (hGget i o d V him ho hd hV')), rfl⟩)) hds
      unfold Rg at hR
      exact tail_any D 0 m listed a w' (Nat.le_refl _) D.le hc hsz (fun i hi => by rw [hz i hi]; simp; omega) (hR a ha)
    | succ fuel ih =>
      intro listed a ρ' w' g hsz hc ha hds hx hgi htail hfact hframe hdc hdone
      by_cases hall : ∀ i, i < m → listed.getD i true = true
      · have hK := hfin w' g hx hgi
        have hR := Fin.apply G.reverse ρ ρ' hK hnodup' (fun p hp => by
            obtain ⟨i, hi⟩ := List.mem_iff_getElem?.1 (List.mem_reverse.1 hp)
            obtain ⟨him, o, ho, hd, hV'⟩ := hGinv i p hi
            exact hfact i him (hall i him) o _ _ ho hd hV') (fun t ht => hframe t fun i him _ e => by
            obtain ⟨o, d, ho, hd, _⟩ := hdst i him
            obtain ⟨V, hV'⟩ := hVget i him
            have : d = t := by simpa [dstOf, ho, hd] using e
            subst this
            exact ht (List.mem_map.2 ⟨(d, V), List.mem_reverse.2 (List.mem_of_getElem? (hGget i o d V him ho hd hV')), rfl⟩)) hds
        unfold Rg at hR
        refine tail_any D _ m listed a w' (Nat.le_refl _) D.le hc hsz (fun i hi => ?_) (hR a ha)
        by_cases him : i < m
        · rw [hall i him]; simp [him]
        · rw [htail i (by omega) hi]; simp [him]
      · -- one of the first has not come up
        have hgD : ∀ i, i < l.length → ∀ b, listed.getD i b = listed.getD i true := fun i hi b => getD_any (by omega) b
        have hready : ∀ i, i < l.length → listed.getD i true = false → (∀ j ∈ depsOf l i, listed.getD j true = true) → i ∈ Region.ready .any l.toArray listed := fun i hi hu hd => by
          refine mem_ready.2 ⟨hu, l[i], by simp [hi], fun e he hb => ?_⟩
          have hj := (mem_depsOf (List.getElem?_eq_getElem hi)).2 ⟨e, he, hb, rfl⟩
          rw [hgD _ (by have := D.up i hi e.on hj; omega)]
          exact hd _ hj
        have hready' : ∀ i ∈ Region.ready .any l.toArray listed, i < l.length ∧ listed.getD i true = false ∧ ∀ j ∈ depsOf l i, listed.getD j true = true := fun i hi => by
          obtain ⟨h1, o, ho, hdep⟩ := mem_ready.1 hi
          have hil : i < l.length := by simpa using (Array.getElem?_eq_some_iff.1 ho).1
          refine ⟨hil, h1, fun j hj => ?_⟩
          have hj' := hj
          rw [mem_depsOf (by simpa using ho)] at hj
          obtain ⟨e, he, hb, rfl⟩ := hj
          rw [← hgD _ (by have := D.up i hil e.on hj'; omega) false]
          exact hdep e he hb
        -- what stands behind one of the first
        have next : ∀ i o d V v w'' g'', i < m → i ∈ Region.ready .any l.toArray listed → l[i]? = some o → o.dst = some d → Vs[i]? = some V → T.inv w'' g'' → T.le w' g w'' g'' → V v w'' g'' → (∀ k ∈ T.dn g'', k ∈ T.dn g ∨ k = i) →
            wpAnyIn (FW r) 0 P .any l.toArray (lift n Q) fuel (listed.setIfInBounds i true) (a.put o.dst v) w'' := by
          intro i o d V v w'' g'' him hi ho hd hVi hi'' hx' hv hdo
          obtain ⟨hil, hu, hdep⟩ := hready' i hi
          have his : i < listed.size := by omega
          obtain ⟨o', d', ho', hd', hdn⟩ := hdst i him
          rw [ho] at ho'; cases ho'
          rw [hd] at hd'; cases hd'
          have hput := ha.put (d := o.dst) (by rw [hd]; simpa using hdn) v
          rw [hd] at hput
          simp only [updO] at hput
          rw [hd]
          refine ih _ _ _ _ g'' (by simpa using hsz) ?_ hput hds (T.trans hx hx') hi'' (fun j hj hjl => ?_) (fun j hjm hjL o2 d2 V2 ho2 hd2 hV2 => ?_) (fun t ht => ?_) (fun j hjl hjL k hk => ?_) (fun k hkl hk => ?_)
          · have := cnt_set his hu l.length
            rw [if_pos hil] at this; omega
          · rw [getD_set his, if_neg (by omega)]; exact htail j hj hjl
          · rw [getD_set his] at hjL
            by_cases hji : j = i
            · subst hji
              rw [ho] at ho2; cases ho2
              rw [hd] at hd2; cases hd2
              rw [hVi] at hV2; cases hV2
              rw [upd_same]; exact hv
            · rw [if_neg hji] at hjL
              have hne : d2 ≠ d := by
                intro e
                subst e
                rcases Nat.lt_or_ge j i with hlt | hge
                · exact (D.dst i him).2 j hlt (by simp [dstOf, ho, hd, ho2, hd2])
                · exact (D.dst j hjm).2 i (by omega) (by simp [dstOf, ho, hd, ho2, hd2])
              rw [upd_other _ _ _ hne]
              exact (hV j o2 V2 (by rw [hget j hjm]; exact ho2) hV2).1 _ _ _ _ _ hx' (hfact j hjm hjL o2 d2 V2 ho2 hd2 hV2)
          · have htd : t ≠ d := fun e => ht i him (by rw [getD_set his, if_pos rfl]) (by simp [dstOf, ho, hd, e])
            rw [upd_other _ _ _ htd]
            exact hframe t fun j hjm hjL => ht j hjm (by
              rw [getD_set his]
              split
              · rfl
              · exact hjL)
          · have hkl : listed.getD k true = true := by
              rw [getD_set his] at hjL
              split at hjL
              · rename_i e; subst e; exact hdep k hk
              · exact hdc j hjl hjL k hk
            rw [getD_set his]; split
            · rfl
            · exact hkl
          · rw [getD_set his]
            rcases hdo k hk with h | h
            · split
              · rfl
              · exact hdone k hkl h
            · rw [if_pos h]
        -- what operation i finds
        have holds : ∀ i o, i < m → i ∈ Region.ready .any l.toArray listed → l[i]? = some o → ∀ t, (o.looksAt l.toArray).contains t = true → HoldsAt (G.take i) ρ ρ' w' g t := by
          intro i o him hi ho t ht
          obtain ⟨hil, hu, hdep⟩ := hready' i hi
          have htl : t ∈ looksOf l i := by simp only [looksOf, ho]; simpa using ht
          unfold HoldsAt
          cases hlk : look (G.take i) t with
          | some V =>
            obtain ⟨j, hj⟩ := List.mem_iff_getElem?.1 (look_some hlk)
            rw [List.getElem?_take] at hj
            split at hj
            · rename_i hji
              obtain ⟨hjm, o2, ho2, hd2, hV2⟩ := hGinv j _ hj
              have := D.look i him t htl j hjm (by simp [dstOf, ho2, hd2])
              exact hfact j hjm (hdep j this) o2 t V ho2 hd2 hV2
            · cases hj
          | none =>
            refine hframe t fun j hjm hjL e => ?_
            have hji := D.up i hil j (D.look i him t htl j hjm e)
            obtain ⟨o2, d2, ho2, hd2, _⟩ := hdst j hjm
            obtain ⟨V2, hV2⟩ := hVget j hjm
            have : d2 = t := by simpa [dstOf, ho2, hd2] using e
            subst this
            exact look_none hlk (List.mem_map.2 ⟨(d2, V2), List.mem_of_getElem? (i := j) (by rw [List.getElem?_take, if_pos hji]; exact hGget j o2 d2 V2 hjm ho2 hd2 hV2), rfl⟩)
        by_cases hfl : ∃ f ∈ fl, f ∈ Region.ready .any l.toArray listed
        · -- one that may be taken first
          obtain ⟨f, hf, hfr⟩ := hfl
          have hr : r = none := hro.resolve_right (fun e => by rw [e] at hf; cases hf)
          subst hr
          obtain ⟨hfm, hfB, hfd, hfa⟩ := D.fl f hf
          obtain ⟨o, d, ho, hd, hdn⟩ := hdst f hfm
          obtain ⟨V, hVf⟩ := hVget f hfm
          have hop := (hV f o V (by rw [hget f hfm]; exact ho) hVf).2 ρ' w' g hx hgi (fun hk => by have h1 := hready' f hfr; have h2 := hdone f h1.1 hk; rw [h1.2.1] at h2; cases h2) (holds f o hfm hfr ho)
          unfold floatB at hfB
          rw [ho] at hfB
          have hg : o.guard = none := by
            obtain ⟨dst, op, ty, pos, aft, g⟩ := o
            cases dst <;> cases op <;> cases g <;> simp at hfB <;> rfl
          unfold StepOp at hop
          rw [if_pos (by simp [Region.wanted, hg])] at hop
          obtain ⟨v, hv1, g'', hv2, hv4, hv3, hv5⟩ := run_float (by
            obtain ⟨dst, op, ty, pos, aft, g⟩ := o
            cases dst <;> cases op <;> cases g <;> simp at hfB <;> rfl) hop
          refine wpAnyIn_first (i := f) (oi := o) (v := v) rfl (by simpa using ho) (Region.noSelect_spec D.sel) (fun c _ _ hh => absurd rfl (hh.1 c)) fuel listed a w' (fun j oj hoj hjf hju hno => ?_) hfr ?_ (next f o d V v w' g'' hfm hfr ho hd hVf hv2 hv4 hv3 hv5)
          · have hjl : j < l.length := by simpa using (Array.getElem?_eq_some_iff.1 hoj).1
            have hoj' : l[j]? = some oj := by simpa using hoj
            rcases hfa j hjl hjf with h1 | h1 | h1
            · have := (hready' f hfr).2.2 j h1
              rw [this] at hju; cases hju
            · exfalso
              rw [mem_depsOf hoj'] at h1
              obtain ⟨e, he, hb, hon⟩ := h1
              exact hno e he hb hon
            · simpa [apartB, ho, hoj'] using h1
          · refine ⟨.inl ⟨by simp [Region.wanted, hg], fun w => by rw [ha.eval]; exact hv1 w⟩, fun w => ?_⟩
            obtain ⟨dst, op, ty, pos, aft, g⟩ := o
            cases dst <;> cases op <;> cases g <;> simp at hfB <;> rfl
        · have hmain : ∀ i ∈ Region.ready .any l.toArray listed, i < m := by
            intro i hi
            obtain ⟨hil, hu, hdep⟩ := hready' i hi
            rcases Nat.lt_or_ge i m with h | hmi
            · exact h
            · exfalso
              have hclo := clo_listed (L := fun j => listed.getD j true = true) (fun j hj k hk => by
                rcases Nat.lt_or_ge j l.length with hjl | hjl
                · exact hdc j hjl hj k hk
                · simp [depsOf, List.getElem?_eq_none hjl] at hk) i hdep
              refine hall fun j hj => ?_
              by_cases hjf : j ∈ fl
              · cases hjL : listed.getD j true with
                | true => rfl
                | false =>
                  exact absurd ⟨j, hjf, hready j (by have := D.le; omega) hjL fun k hk => by
                    have := (D.fl j hjf).2.2.1 k hk
                    exact hclo k ((D.tail i hil hmi).1 k this.2 this.1)⟩ hfl
              · exact hclo j ((D.tail i hil hmi).1 j hj hjf)
          refine ⟨fun h0 => ?_, fun i hi => ?_⟩
          · -- the first that has not come up may come up
            exfalso
            apply hall
            intro i
            induction i using Nat.strongRecOn with
            | _ i ihi =>
              intro him
              cases hL : listed.getD i true with
              | true => rfl
              | false =>
                have hil : i < l.length := by have := D.le; omega
                have := hready i hil hL fun j hj => ihi j (D.up i hil j hj) (by have := D.up i hil j hj; omega)
                rw [h0] at this; cases this
          · have him := hmain i hi
            obtain ⟨o, d, ho, hd, hdn⟩ := hdst i him
            obtain ⟨V, hVi⟩ := hVget i him
            have hop := (hV i o V (by rw [hget i him]; exact ho) hVi).2 ρ' w' g hx hgi (fun hk => by have h1 := hready' i hi; have h2 := hdone i h1.1 hk; rw [h1.2.1] at h2; cases h2) (holds i o him hi ho)
            unfold wpOpIn
            simp only [List.getElem?_toArray, ho]
            rw [ha.yieldedE]
            unfold StepOp at hop
            split
            · rename_i hw
              rw [if_pos hw] at hop
              exact hop.wpIn ha fun v w'' ⟨g'', h1, h2, h3, h4⟩ => next i o d V v w'' g'' him hi ho hd hVi h1 h2 h3 h4
            · rename_i hw
              rw [if_neg hw] at hop
              obtain ⟨g'', h1, h2, h3, h4⟩ := hop
              exact ⟨fun _ _ => trivial, next i o d V undef w' g'' him hi ho hd hVi h1 h2 h3 h4⟩
  have hrep : ∀ i, i < l.length → (Array.replicate l.length false).getD i true = false := fun i hi => by simp [Array.getD_eq_getD_getElem?, hi]
  have hsz : l.toArray.size = l.length := by simp
  rw [hsz]
  refine key l.length (Array.replicate l.length false) a ρ { w with drawn := w.drawn + 1 } g0 (by simp) (cnt_le _ _) ha rfl (T.drew w g0 hinv).2 (T.drew w g0 hinv).1 (fun i _ hi => hrep i hi) (fun i hi hL => ?_) (fun t _ => rfl) (fun i hi hL => ?_) (fun i _ hi => by rw [hg0] at hi; cases hi)
  · rw [hrep i (by have := D.le; omega)] at hL; cases hL
  · rw [hrep i hi] at hL; cases hL
/-- what the last operations must come to while operation f has not come; d: how many there are still -/
def TailP (P : Program) (r : Option Nat) (n : Nat) (ops : List Oper) (f : Nat) (Q : Post) : Nat → Nat → Env → World → Prop
  | d, k, ρ, w => (match d with
      | 0 => True
      | d + 1 => f ∈ depsOf ops k ∨ ∃ o, ops[k]? = some o ∧ o.dst.all (· < n) = true ∧ StepOp P r ops ρ w o fun v w' => TailP P r n ops f Q d (k + 1) (updO ρ o.dst v) w') ∧
    ∃ o, ops[f]? = some o ∧ o.dst.all (· < n) = true ∧ StepOp P r ops ρ w o fun v w' => Rg P r n ops (ops.drop k) Q (updO ρ o.dst v) w'
structure DrawOkL (n : Nat) (ops : List Oper) (m : Nat) (fs : List Nat) (f : Nat) : Prop where
  dst : ∀ j < m, (dstOf ops j).any (· < n) = true ∧ ∀ i < j, dstOf ops i ≠ dstOf ops j
  up : ∀ j < ops.length, ∀ i ∈ depsOf ops j, i < j
  look : ∀ j < m, ∀ t ∈ looksOf ops j, ∀ i < m, dstOf ops i = some t → i ∈ depsOf ops j
  tail : ∀ k < ops.length, m ≤ k → (∀ i < m, i ∉ fs → i ≠ f → i ∈ clo ops k) ∧ (m < k → k - 1 ∈ depsOf ops k)
  fl : ∀ f ∈ fs, f < m ∧ floatB ops f = true ∧ (∀ i ∈ depsOf ops f, i ∉ fs ∧ i < m) ∧ ∀ j < ops.length, j ≠ f → j ∈ depsOf ops f ∨ f ∈ depsOf ops j ∨ apartB ops f j = true
  sel : Region.noSelect ops.toArray = true
  le : m ≤ ops.length
  late : f < m ∧ f ∉ fs ∧ ∀ j < m, f ∉ depsOf ops j
def drawBL (n : Nat) (ops : List Oper) (m : Nat) (fl : List Nat) (f : Nat) : Bool :=
  allLt m (fun j => (dstOf ops j).any (· < n) && allLt j fun i => dstOf ops i != dstOf ops j) &&
  (allLt ops.length (fun j => (depsOf ops j).all (· < j)) &&
  (allLt m (fun j => (looksOf ops j).all fun t => allLt m fun i => dstOf ops i != some t || (depsOf ops j).contains i) &&
  (allLt ops.length (fun k => k < m || (allLt m (fun i => fl.contains i || (i == f || (clo ops k).contains i)) && (k ≤ m || (depsOf ops k).contains (k - 1)))) &&
  (fl.all (fun f => f < m && (floatB ops f && ((depsOf ops f).all (fun i => !fl.contains i && i < m) && allLt ops.length fun j => j == f || (depsOf ops f).contains j || (depsOf ops j).contains f || apartB ops f j))) &&
  (Region.noSelect ops.toArray && (m ≤ ops.length && (f < m && (!fl.contains f && allLt m fun j => !(depsOf ops j).contains f))))))))
theorem DrawOkL.of {n : Nat} {ops : List Oper} {m : Nat} {fl : List Nat} {f : Nat} (h : drawBL n ops m fl f = true) : DrawOkL n ops m fl f := by
  simp only [drawBL, Bool.and_eq_true] at h
  obtain ⟨h1, h2, h3, h4, h5, h6, h7, h8, h9, h10⟩ := h
  refine ⟨fun j hj => ?_, fun j hj i hi => ?_, fun j hj t ht i hi hd => ?_, fun k hk hm => ?_, fun f hf => ?_, h6, by simpa using h7, by simpa using h8, by simpa using h9, fun j hj => by simpa using allLt_spec h10 j hj⟩
  · have := allLt_spec h1 j hj
    simp only [Bool.and_eq_true] at this
    exact ⟨this.1, fun i hi => by simpa using allLt_spec this.2 i hi⟩
  · have := List.all_eq_true.1 (allLt_spec h2 j hj) i hi
    simpa using this
  · have := allLt_spec (List.all_eq_true.1 (allLt_spec h3 j hj) t ht) i hi
    simp only [Bool.or_eq_true, bne_iff_ne, ne_eq, List.contains_eq_mem, decide_eq_true_eq] at this
    exact this.resolve_left (fun h => h hd)
  · have := allLt_spec h4 k hk
    simp only [Bool.or_eq_true, decide_eq_true_eq, Bool.and_eq_true, List.contains_eq_mem] at this
    rcases this with h | ⟨h, h'⟩
    · omega
    · refine ⟨fun i hi hf hne => ?_, fun hmk => h'.resolve_left (by omega)⟩
      have := allLt_spec h i hi
      simp only [Bool.or_eq_true, decide_eq_true_eq, beq_iff_eq] at this
      exact (this.resolve_left hf).resolve_left hne
  · have := List.all_eq_true.1 h5 f hf
    simp only [Bool.and_eq_true, decide_eq_true_eq] at this
    obtain ⟨p1, p2, p3, p4⟩ := this
    refine ⟨p1, p2, fun i hi => ?_, fun j hj hne => ?_⟩
    · have := List.all_eq_true.1 p3 i hi
      simpa using this
    · have := allLt_spec p4 j hj
      simp only [Bool.or_eq_true, beq_iff_eq, List.contains_eq_mem, decide_eq_true_eq] at this
      rcases this with ((h | h) | h) | h
      · exact absurd h hne
      · exact .inl h
      · exact .inr (.inl h)
      · exact .inr (.inr h)
end

/-! the same, what is known kept last first -/
def DwR (P : Program) (r : Option Nat) (T : Go1 Γ) (ops : List Oper) (ρ0 : Env) (w0 : World) (g0 : Γ) (leaf : List (Nat × VR Γ) → Prop) : List Oper → List (Nat × VR Γ) → Prop
  | [], G => leaf G
  | o :: l, G => ∃ V, Stab T V ∧ (∀ ρ w g, T.le w0 g0 w g → T.inv w g → G.length ∉ T.dn g → (∀ t, (o.looksAt ops.toArray).contains t = true → HoldsAt G ρ0 ρ w g t) → StepOp P r ops ρ w o (Goes T w g V G.length)) ∧
      DwR P r T ops ρ0 w0 g0 leaf l (((o.dst).getD 0, V) :: G)
theorem Fin.of {w : World} {g : Γ} {K : Env → World → Γ → Prop} : ∀ (G : List (Nat × VR Γ)) (ρ0 : Env), (G.map Prod.fst).Nodup → (∀ ρ, (∀ p ∈ G, p.2 (ρ p.1) w g) → (∀ t, t ∉ G.map Prod.fst → ρ t = ρ0 t) → ρ.ds = ρ0.ds → K ρ w g) → Fin w g K G ρ0
  | [], ρ0, _, h => h ρ0 (by simp) (by simp) rfl
  | (d, V) :: G, ρ0, hn, h => by
    simp only [List.map_cons, List.nodup_cons] at hn
    intro v hv
    refine Fin.of G (upd ρ0 d v) hn.2 fun ρ h1 h2 hds => h ρ (fun p hp => ?_) (fun t ht => ?_) hds
    · rcases List.mem_cons.1 hp with rfl | hp
      · have := h2 d hn.1
        rw [upd_same] at this
        simp only [this]; exact hv
      · exact h1 p hp
    · simp only [List.map_cons, List.mem_cons, not_or] at ht
      rw [h2 t ht.2, upd_other _ _ _ ht.1]
theorem look_of_mem {t : Nat} {V : VR Γ} : ∀ {G : List (Nat × VR Γ)}, (G.map Prod.fst).Nodup → (t, V) ∈ G → look G t = some V
  | (d, V') :: G, hn, h => by
    simp only [List.map_cons, List.nodup_cons] at hn
    simp only [look]
    rcases List.mem_cons.1 h with h | h
    · cases h; rw [if_pos rfl]
    · rw [if_neg (fun e => hn.1 (by rw [← e]; exact List.mem_map_of_mem (f := Prod.fst) h)), look_of_mem hn.2 h]
theorem mem_of_look {t : Nat} {V : VR Γ} : ∀ {G : List (Nat × VR Γ)}, look G t = some V → (t, V) ∈ G
  | [], h => by cases h
  | (d, V') :: G, h => by
    simp only [look] at h
    split at h
    · rename_i e; cases h; subst e; exact List.mem_cons_self
    · exact List.mem_cons_of_mem _ (mem_of_look h)
theorem look_reverse {t : Nat} {G : List (Nat × VR Γ)} (hn : (G.map Prod.fst).Nodup) : look G.reverse t = look G t := by
  have hr : (G.reverse.map Prod.fst).Nodup := by rw [List.map_reverse]; exact (List.reverse_perm _).nodup_iff.2 hn
  cases h : look G t with
  | some V => exact look_of_mem hr (List.mem_reverse.2 (mem_of_look h))
  | none =>
    cases h' : look G.reverse t with
    | none => rfl
    | some V => rw [look_of_mem hn (List.mem_reverse.1 (mem_of_look h'))] at h; cases h
theorem DwR.dw {P : Program} {r : Option Nat} {T : Go1 Γ} {ops : List Oper} {ρ0 : Env} {w0 : World} {g0 : Γ} {leaf : List (Nat × VR Γ) → Prop} : ∀ (l : List Oper) (G : List (Nat × VR Γ)),
    (l.map fun o => (o.dst).getD 0).Nodup → (G.map Prod.fst).Nodup → (∀ d ∈ l.map fun o => (o.dst).getD 0, d ∉ G.map Prod.fst) → DwR P r T ops ρ0 w0 g0 leaf l G → Dw P r T ops ρ0 w0 g0 (fun G' => leaf G'.reverse) l G.reverse
  | [], G, _, hn, _, h => by
    show leaf G.reverse.reverse
    rw [List.reverse_reverse]; exact h
  | o :: l, G, hl, hn, hd, ⟨V, h1, h2, h3⟩ => by
    simp only [List.map_cons, List.nodup_cons] at hl
    refine ⟨V, h1, fun ρ w g a b k c => ?_, ?_⟩
    · rw [List.length_reverse] at k ⊢
      refine h2 ρ w g a b k fun t ht => ?_
      have := c t ht
      unfold HoldsAt at this ⊢
      rwa [look_reverse hn] at this
    · have := DwR.dw l (((o.dst).getD 0, V) :: G) hl.2 (by
        simp only [List.map_cons, List.nodup_cons]
        exact ⟨hd _ (by simp), hn⟩) (fun d hdl => by
        simp only [List.map_cons, List.mem_cons, not_or]
        exact ⟨fun e => hl.1 (e ▸ hdl), hd d (by simp only [List.map_cons, List.mem_cons]; exact .inr hdl)⟩) h3
      simpa using this
theorem Wp_drawR {P : Program} {r : Option Nat} {n m : Nat} {l : List Oper} {fl : List Nat} {Q : Post} {T : Go1 Γ} {g0 : Γ} {id : Nat} {ρ : Env} {w : World} (hinv : T.inv w g0) (hg0 : T.dn g0 = []) (hro : r = none ∨ fl = []) (hm : P.follows .mixedOrders = true) (hB : drawB n l m fl = true)
    (h : DwR P r T l ρ w g0 (leafF T ρ w g0 fun ρ' w' _ => Rg P r n l (l.drop m) Q ρ' w') (l.take m) []) : Wp P r n (.region id l.toArray true) Q ρ w := by
  have D := DrawOk.of hB
  refine Wp_draw hinv hg0 hro hm hB (DwR.dw _ [] ?_ (by simp) (by simp) h)
  refine List.pairwise_iff_getElem.2 fun i j hi hj hij => ?_
  simp only [List.length_map, List.length_take] at hi hj
  have hjm : j < m := by omega
  have him : i < m := by omega
  have e := (D.dst j hjm).2 i hij
  have ei := (D.dst i him).1
  have ej := (D.dst j hjm).1
  simp only [List.getElem_map, List.getElem_take]
  have h1 : l[i]? = some (l[i]'(by omega)) := List.getElem?_eq_getElem _
  have h2 : l[j]? = some (l[j]'(by omega)) := List.getElem?_eq_getElem _
  unfold dstOf at e ei ej
  rw [h1] at ei e; rw [h2] at ej e
  simp only [Option.bind_some] at ei ej e
  cases h3 : (l[i]'(by omega)).dst with
  | none => rw [h3] at ei; simp at ei
  | some x =>
    cases h4 : (l[j]'(by omega)).dst with
    | none => rw [h4] at ej; simp at ej
    | some y =>
      rw [h3, h4] at e
      simp only [Option.getD_some]
      exact fun he => e (by rw [he])
attribute [irreducible] TailP
end Go.Fx
/- Values that calls hand back; contracts; loops; the walk's own shapes. No program in sight. -/
set_option linter.unusedSimpArgs false
set_option linter.unusedVariables false
namespace Go.Fx
open Go Go.RowKit

/-- how a datum of α stands in one value -/
structure Vr (α : Type) where
  vd : World → List Nat → Value → α → Prop
  step : ∀ {w O w' O' v x}, Step O w O' w' → vd w O v x → vd w' O' v x
def InK (k : IntKind) (x : Int) : Prop := k.min ≤ x ∧ x ≤ k.max
instance (k : IntKind) (x : Int) : Decidable (InK k x) := inferInstanceAs (Decidable (k.min ≤ x ∧ x ≤ k.max))
def vI (k : IntKind) : Vr Int := ⟨fun _ _ v x => v = .int k x ∧ InK k x, fun _ h => h⟩
def vB : Vr Bool := ⟨fun _ _ v x => v = .bool x, fun _ h => h⟩
def vC {α : Type} (r : Rp α) : Vr α := ⟨fun w O v x => r.rd w O [v] x, fun s h => r.step s h⟩
def vT2 {α β : Type} (a : Vr α) (b : Vr β) : Vr (α × β) :=
  ⟨fun w O v x => ∃ v1 v2, v = .tuple [v1, v2].toArray ∧ a.vd w O v1 x.1 ∧ b.vd w O v2 x.2, fun s ⟨v1, v2, h1, h2, h3⟩ => ⟨v1, v2, h1, a.step s h2, b.step s h3⟩⟩
theorem Vr.eq {α : Type} {a : Vr α} {w : World} {O : List Nat} {v : Value} {x y : α} (h : a.vd w O v x) (e : x = y) : a.vd w O v y := e ▸ h

/-- a contract: the call hands back x, in new memory or old, and changes nothing that was there -/
def Ok {α : Type} (P : Program) (f : FuncId) (args : List Value) (w : World) (O : List Nat) (R : Vr α) (x : α) : Prop := Fn P f args w fun v w' => Ext w w' ∧ R.vd w' O v x

section
variable {P : Program} {r : Option Nat} {n : Nat} {Q : Post} {ρ : Env} {w : World} {w0 : Zx} {O0 : List Nat} {bs : Ents}

theorem asB_ne {d : Nat} {v : Value} {b : Bool} (h : ρ d = v) (h2 : (asB v == some b) = false) : asB (ρ d) ≠ some b := by rw [h]; intro e; rw [e] at h2; simp at h2
theorem Rg_case {d : Nat} {b : Bool} {ops rest : List Oper} (ht : b = true → Rg P r n ops rest Q (upd ρ d (.bool true)) w) (hf : b = false → Rg P r n ops rest Q (upd ρ d (.bool false)) w) : Rg P r n ops rest Q (upd ρ d (.bool b)) w := by
  cases b
  · exact hf rfl
  · exact ht rfl

section dw
variable {Γ : Type} {T : Go1 Γ} {g0 : Γ} {ops l : List Oper} {K : List (Nat × VR Γ) → Prop} {G : List (Nat × VR Γ)} {d : Nat} {op : Op} {ty : TypeId} {pos : String} {aft : Array Edge} {gd : Option (Nat × Bool)}
theorem Dw_op (V : VR Γ) (hst : Stab T V) (hop : ∀ ρ' w' g', T.le w g0 w' g' → T.inv w' g' → (∀ t, ((⟨some d, op, ty, pos, aft, gd⟩ : Oper).looksAt ops.toArray).contains t = true → HoldsAt G ρ ρ' w' g' t) →
      StepOp P r ops ρ' w' ⟨some d, op, ty, pos, aft, gd⟩ (Goes T w' g' V G.length))
    (h : DwR P r T ops ρ w g0 K l ((d, V) :: G)) : DwR P r T ops ρ w g0 K (⟨some d, op, ty, pos, aft, gd⟩ :: l) G := ⟨V, hst, fun ρ w g a b _ => hop ρ w g a b, h⟩
/-- a value that is known beforehand -/
theorem Dw_eq (c : Value) (hop : ∀ ρ' w' g', T.le w g0 w' g' → T.inv w' g' → (∀ t, ((⟨some d, op, ty, pos, aft, gd⟩ : Oper).looksAt ops.toArray).contains t = true → HoldsAt G ρ ρ' w' g' t) →
      StepOp P r ops ρ' w' ⟨some d, op, ty, pos, aft, gd⟩ (Goes T w' g' (fun v _ _ => v = c) G.length))
    (h : DwR P r T ops ρ w g0 K l ((d, fun v _ _ => v = c) :: G)) : DwR P r T ops ρ w g0 K (⟨some d, op, ty, pos, aft, gd⟩ :: l) G := ⟨_, Stab.eq T c, fun ρ w g a b _ => hop ρ w g a b, h⟩
/-- a Bool on which others hang: both ways -/
theorem Dw_opB (b : Bool) (hop : ∀ ρ' w' g', T.le w g0 w' g' → T.inv w' g' → (∀ t, ((⟨some d, op, ty, pos, aft, gd⟩ : Oper).looksAt ops.toArray).contains t = true → HoldsAt G ρ ρ' w' g' t) →
      StepOp P r ops ρ' w' ⟨some d, op, ty, pos, aft, gd⟩ (Goes T w' g' (fun v _ _ => v = .bool b) G.length))
    (ht : b = true → DwR P r T ops ρ w g0 K l ((d, fun v _ _ => v = .bool true) :: G)) (hf : b = false → DwR P r T ops ρ w g0 K l ((d, fun v _ _ => v = .bool false) :: G)) :
    DwR P r T ops ρ w g0 K (⟨some d, op, ty, pos, aft, gd⟩ :: l) G := by
  cases b
  · exact ⟨_, Stab.eq _ _, fun ρ w g a b _ => hop ρ w g a b, hf rfl⟩
  · exact ⟨_, Stab.eq _ _, fun ρ w g a b _ => hop ρ w g a b, ht rfl⟩
theorem Dw_skip (hop : ∀ ρ' w' g', (∀ t, ((⟨some d, op, ty, pos, aft, gd⟩ : Oper).looksAt ops.toArray).contains t = true → HoldsAt G ρ ρ' w' g' t) → Region.wanted ⟨some d, op, ty, pos, aft, gd⟩ (yieldedE ops ρ') = false)
    (h : DwR P r T ops ρ w g0 K l ((d, fun v _ _ => v = undef) :: G)) : DwR P r T ops ρ w g0 K (⟨some d, op, ty, pos, aft, gd⟩ :: l) G :=
  ⟨_, Stab.eq T _, fun ρ' w' g' hx hi _ ht => by unfold StepOp; rw [if_neg (by rw [hop ρ' w' g' ht]; simp)]; exact ⟨g', hi, T.refl _ _, rfl, fun _ h => .inl h⟩, h⟩
theorem Dw_nil {K : Env → World → Γ → Prop} (h : ∀ w' g', T.le w g0 w' g' → T.inv w' g' → Fin w' g' K G ρ) : DwR P r T ops ρ w g0 (leafF T ρ w g0 K) [] G := h
theorem StepOp_plain {V : Value → World → Prop} (h : Run1 P r ρ w ⟨some d, op, ty, pos, aft, none⟩ V) : StepOp P r ops ρ w ⟨some d, op, ty, pos, aft, none⟩ V := by
  unfold StepOp; rw [if_pos (by simp [Region.wanted])]; exact h
theorem StepOp_g {V : Value → World → Prop} {j dj : Nat} {b : Bool} (hj : (ops[j]?).bind (·.dst) = some dj) (hb : ρ dj = .bool b) (h : Run1 P r ρ w ⟨some d, op, ty, pos, aft, some (j, b)⟩ V) : StepOp P r ops ρ w ⟨some d, op, ty, pos, aft, some (j, b)⟩ V := by
  unfold StepOp; rw [if_pos (by simp [Region.wanted, yieldedE, hj, hb, asB])]; exact h
theorem wanted_x {j dj : Nat} {b : Bool} {v : Value} (hj : (ops[j]?).bind (·.dst) = some dj) (hb : ρ dj = v) (hv : (asB v == some b) = false) : Region.wanted ⟨some d, op, ty, pos, aft, some (j, b)⟩ (yieldedE ops ρ) = false := by
  simp only [Region.wanted, yieldedE, hj, hb]; exact hv
theorem Goes.same {V : VR Γ} {g' : Γ} {w' : World} {v : Value} {k : Nat} (hi : T.inv w' g') (hv : V v w' g') : Goes T w' g' V k v w' := ⟨g', hi, T.refl _ _, hv, fun _ h => .inl h⟩
end dw

/-! the usual ghost: what a region's operations have made -/
abbrev Nx := List (Nat × Nat × Obj)
def ents (nx : Nx) : Ents := nx.map fun p => (some p.2.1, p.2.2)
def TS (w0 : Zx) (O0 : List Nat) (bs : Ents) : Go1 Nx where
  inv w nx := St w0 O0 w (ents nx ++ bs)
  le w nx w' nx' := (∃ l, nx' = l ++ nx) ∧ Step (ks (ents nx ++ bs) O0) w (ks (ents nx' ++ bs) O0) w' ∧ Ext w w'
  refl w nx := ⟨⟨[], rfl⟩, Step.refl _ _, Ext.refl _⟩
  trans := fun ⟨⟨l, h1⟩, h2, h3⟩ ⟨⟨l', h1'⟩, h2', h3'⟩ => ⟨⟨l' ++ l, by rw [h1', h1, List.append_assoc]⟩, h2.trans h2', h3.trans h3'⟩
  drew w nx h := ⟨h.call (Ext.drew w), ⟨[], rfl⟩, Step.ext (Ext.drew w), Ext.drew w⟩
theorem TS_inv (h : St w0 O0 w bs) : (TS w0 O0 bs).inv w [] := h
abbrev VD {α : Type} (O0 : List Nat) (bs : Ents) (R : Vr α) (x : α) : VR Nx := fun v w nx => R.vd w (ks (ents nx ++ bs) O0) v x
theorem VD.stab {α : Type} (R : Vr α) (x : α) : Stab (TS w0 O0 bs) (VD O0 bs R x) := fun _ _ _ _ _ h hv => R.step h.2.1 hv
abbrev VP {α : Type} (O0 : List Nat) (bs : Ents) (q : Rp α) (x : α) : VR Nx := fun v w nx => ∃ p, v = .pointer (some p) ∧ PtR q w (ks (ents nx ++ bs) O0) p x
theorem VP.stab {α : Type} (q : Rp α) (x : α) : Stab (TS w0 O0 bs) (VP O0 bs q x) := fun _ _ _ _ _ h ⟨p, h1, h2⟩ => ⟨p, h1, h2.step h.2.1⟩
abbrev VN (tag : Nat) (o : Obj) : VR Nx := fun v w nx => ∃ b, v = .pointer (some ⟨b, 0, none⟩) ∧ (tag, b, o) ∈ nx
theorem VN.stab (tag : Nat) (o : Obj) : Stab (TS w0 O0 bs) (VN tag o) := fun _ _ _ _ _ ⟨⟨l, h1⟩, _⟩ ⟨b, h2, h3⟩ => ⟨b, h2, h1 ▸ List.mem_append_right _ h3⟩
theorem Goes.call {V : VR Nx} {nx : Nx} {w' w'' : World} {v : Value} {k : Nat} (hi : St w0 O0 w' (ents nx ++ bs)) (hx : Ext w' w'') (hv : V v w'' nx) : Goes (TS w0 O0 bs) w' nx V k v w'' :=
  ⟨nx, hi.call hx, ⟨⟨[], rfl⟩, Step.ext hx, hx⟩, hv, fun _ h => by cases h⟩
theorem Goes.new {nx : Nx} {w' w'' : World} {b tag k : Nat} {o : Obj} (hi : St w0 O0 w' (ents nx ++ bs)) (h1 : Step (ks (ents nx ++ bs) O0) w' (ks ((some b, o) :: (ents nx ++ bs)) O0) w'') (h2 : St w0 O0 w'' ((some b, o) :: (ents nx ++ bs))) (hx : Ext w' w'') :
    Goes (TS w0 O0 bs) w' nx (VN tag o) k (.pointer (some ⟨b, 0, none⟩)) w'' :=
  ⟨(tag, b, o) :: nx, h2, ⟨⟨[_], rfl⟩, h1, hx⟩, ⟨b, rfl, List.mem_cons_self⟩, fun _ h => by cases h⟩
theorem Goes.pub {V : VR Nx} {nx : Nx} {w' w'' : World} {v : Value} {k : Nat} (hi : St w0 O0 w' (ents nx ++ bs)) (hs : St w0 O0 w'' (ents nx ++ bs)) (p : Step (ks (ents nx ++ bs) O0) w' (ks (ents nx ++ bs) O0) w'') (hx : Ext w' w'') (hv : V v w'' nx) :
    Goes (TS w0 O0 bs) w' nx V k v w'' := ⟨nx, hs, ⟨⟨[], rfl⟩, p, hx⟩, hv, fun _ h => by cases h⟩
/-- where no entry has come, what is known at the end -/
theorem VD.fin {α : Type} {R : Vr α} {x : α} {v : Value} {nx : Nx} (h : VD O0 bs R x v w nx) : R.vd w (ks (ents nx ++ bs) O0) v x := h
theorem Step.nx {nx : Nx} {w' : World} (hi : St w0 O0 w' (ents nx ++ bs)) : St w0 O0 w' bs ∧ Step (ks (ents nx ++ bs) O0) w' (ks bs O0) w' := by
  induction nx with
  | nil => exact ⟨hi, Step.refl _ _⟩
  | cons p nx ih =>
    have h1 : St w0 O0 w' (ents nx ++ bs) := hi.drop 0
    have h2 : Step (ks (ents (p :: nx) ++ bs) O0) w' (ks (ents nx ++ bs) O0) w' := Step.drop w' O0 (ents (p :: nx) ++ bs) 0
    exact ⟨(ih h1).1, h2.trans (ih h1).2⟩
/-! loops -/
/-- slots ds hold what ξ says, all others what ρ says -/
def mix (ds E : List Nat) (ξ ρ : Env) : Env := ⟨fun t => if ds.contains t then ξ t else ρ t, E⟩
def updL (ρ : Env) : List (Nat × Value) → Env
  | [] => ρ
  | (d, v) :: l => upd (updL ρ l) d v
theorem updL_id : ∀ (l : List (Nat × Value)), (∀ p ∈ l, ρ p.1 = p.2) → updL ρ l = ρ
  | [], _ => rfl
  | (d, v) :: l, h => by
    rw [updL, updL_id l fun p hp => h p (List.mem_cons_of_mem _ hp)]
    refine Env.ext' (fun t => ?_) rfl
    simp only [upd]
    split
    · rename_i e; subst e; exact (h (t, v) (by simp)).symm
    · rfl
/-- the slots hold these values -/
def AllP (ρ : Env) : List (Nat × Value) → Prop
  | [] => True
  | (d, v) :: l => ρ d = v ∧ AllP ρ l
theorem AllP.mem {ρ : Env} : ∀ {l : List (Nat × Value)}, AllP ρ l → ∀ p ∈ l, ρ p.1 = p.2
  | [], _, _, h => by cases h
  | (d, v) :: l, h, p, hp => by
    rcases List.mem_cons.1 hp with rfl | hp
    · exact h.1
    · exact AllP.mem h.2 p hp
theorem le_lit {a b : Nat} (h : Nat.ble a b = true) : a ≤ b := Nat.le_of_ble_eq_true h
def Out (ds : List Nat) (ρ ρ' : Env) : Prop := ∀ t, ds.contains t = false → ρ' t = ρ t
theorem Out.refl (ds : List Nat) (ρ : Env) : Out ds ρ ρ := fun _ _ => rfl
theorem Out.mix (ds E : List Nat) (ξ ρ : Env) : Out ds ρ (mix ds E ξ ρ) := fun t h => by simp only [Fx.mix]; rw [if_neg (by rw [h]; simp)]
theorem Out.upd {ds : List Nat} {ρ ρ' : Env} {d : Nat} {v : Value} (h : Out ds ρ ρ') (hd : ds.contains d = true) : Out ds ρ (upd ρ' d v) := fun t ht => by
  rw [upd_other _ _ _ (fun e => by rw [e, hd] at ht; cases ht)]; exact h t ht
theorem Out.updL {ds : List Nat} {ρ ρ' : Env} (h : Out ds ρ ρ') : ∀ {l : List (Nat × Value)}, (l.all fun p => ds.contains p.1) = true → Out ds ρ (updL ρ' l)
  | [], _ => h
  | (d, v) :: l, hl => by
    simp only [List.all_cons, Bool.and_eq_true] at hl
    exact Out.upd (Out.updL h hl.2) hl.1
theorem mix_out {ds E : List Nat} {ρ ρ' : Env} (h : Out ds ρ ρ') (hE : ρ'.ds = E) : mix ds E ρ' ρ = ρ' := by
  refine Env.ext' (fun t => ?_) hE.symm
  simp only [mix]
  cases hd : ds.contains t with
  | true => simp
  | false => simp [h t hd]
theorem frame_eq {ds E : List Nat} {ρ ρ' : Env} {l : List (Nat × Value)} (h : Out ds ρ ρ') (hE : ρ'.ds = E) (hl : AllP ρ' l) : ρ' = updL (mix ds E ρ' ρ) l := by
  rw [mix_out h hE, updL_id l hl.mem]

/-- a loop with a ghost -/
theorem Wp_loopG {γ : Type} {c : Code} (I : γ → Env → World → Prop) (μ : γ → Nat) (g0 : γ) (h0 : I g0 ρ w)
    (round : ∀ g ρ w, I g ρ w → Wp P r n c (thenE (fun ρ' w' => ∃ g', I g' ρ' w' ∧ μ g' < μ g) Q) ρ w) : Wp P r n (.loop c) Q ρ w := by
  have key : ∀ k g ρ w a, I g ρ w → IsAct n ρ a → μ g < k → Code.roundsIn (FW r) 0 P c (lift n Q) k a w := by
    intro k
    induction k with
    | zero => intro g ρ w a _ _ h; omega
    | succ k ih =>
      intro g ρ w a hI ha hk
      have := round g ρ w hI
      unfold Wp at this
      refine wpIn_mono (this a ha) fun e a' w' ⟨hp, ρ', h1, h2⟩ => ?_
      cases e with
      | normal =>
        obtain ⟨g', h3, h4⟩ := h2
        exact ih g' ρ' w' a' h3 h1 (by omega)
      | _ => exact ⟨hp, ρ', h1, h2⟩
  unfold Wp
  exact fun a ha => wpIn_loop_rounds (μ g0 + 1) (key _ g0 ρ w a h0 ha (Nat.lt_succ_self _))

/-- frames that are ρ but for the slots ds, of which L tells -/
def Frm (ds : List Nat) (ρ ρ' : Env) (E : List Nat) (L : List (Nat × Value)) : Prop := Out ds ρ ρ' ∧ ρ'.ds = E ∧ AllP ρ' L
theorem Frm.eq {ds E : List Nat} {ρ ρ' : Env} {L : List (Nat × Value)} (h : Frm ds ρ ρ' E L) : ρ' = updL (mix ds E ρ' ρ) L := frame_eq h.1 h.2.1 h.2.2
theorem Out.mix' {ds ds' E : List Nat} {ρ ρ' ξ : Env} (h : Out ds ρ ρ') (hd : (ds'.all fun d => ds.contains d) = true) : Out ds ρ (Fx.mix ds' E ξ ρ') := fun t ht => by
  simp only [Fx.mix]
  rw [if_neg (fun hc => ?_)]
  · exact h t ht
  · have := List.all_eq_true.1 hd t (List.elem_iff.1 hc)
    rw [this] at ht; cases ht
/-- a loop whose model runs on so much fuel -/
theorem Wp_loopM {c : Code} (ds : List Nat) (F : Nat → (List Nat → List (Nat × Value) → Prop) → World → Prop) (N : Nat) (h0 : F N (Frm ds ρ ρ) w) (hz : ∀ ρ' w', ¬ F 0 (Frm ds ρ ρ') w')
    (round : ∀ m (K : Env → World → Prop), (∀ ρ'' w'', F m (Frm ds ρ ρ'') w'' → K ρ'' w'') → ∀ ρ' w', F (m + 1) (Frm ds ρ ρ') w' → Wp P r n c (thenE K Q) ρ' w') : Wp P r n (.loop c) Q ρ w := by
  refine Wp_loopG (fun m ρ' w' => F m (Frm ds ρ ρ') w') (fun m => m) N h0 fun m ρ' w' h => ?_
  cases m with
  | zero => exact absurd h (hz _ _)
  | succ m =>
    refine Wp.mono (round m (fun ρ'' w'' => F m (Frm ds ρ ρ'') w'') (fun _ _ h => h) ρ' w' h) fun e ρ'' w'' h => ?_
    cases e with
    | normal => exact ⟨m, h, Nat.lt_succ_self m⟩
    | _ => exact h
/-- where ways meet -/
theorem Wp_seqJ {c1 c2 : Code} (ds : List Nat) (F : (List Nat → List (Nat × Value) → Prop) → World → Prop)
    (h1 : ∀ ρ' w', F (Frm ds ρ ρ') w' → Wp P r n c2 Q ρ' w')
    (h2 : ∀ K : Env → World → Prop, (∀ ρ' w', F (Frm ds ρ ρ') w' → K ρ' w') → Wp P r n c1 (thenE K Q) ρ w) : Wp P r n (.seq c1 c2) Q ρ w :=
  Wp_seq (Wp.mono (h2 (fun ρ' w' => F (Frm ds ρ ρ') w') fun _ _ h => h) fun e ρ' w' h => by
    cases e with
    | normal => exact h1 _ _ h
    | _ => exact h)

/-- the frame said anew: the slots that are still read -/
theorem Wp_reset {c : Code} (E : List Nat) (L : List (Nat × Value)) (hE : ρ.ds = E) (hL : AllP ρ L) (k : ∀ ξ : Nat → Value, Wp P r n c Q (updL ⟨ξ, E⟩ L) w) : Wp P r n c Q ρ w := by
  have h := k ρ.f
  rwa [show (⟨ρ.f, E⟩ : Env) = ρ from Env.ext' (fun _ => rfl) hE.symm, updL_id L hL.mem] at h
/-- the same within: what lies outside ds is as it was at ρj -/
theorem Wp_reset2 {c : Code} (ds E : List Nat) (ρj : Env) (L : List (Nat × Value)) (hO : Out ds ρj ρ) (hE : ρ.ds = E) (hL : AllP ρ L) (k : ∀ ξ : Env, Wp P r n c Q (updL (mix ds E ξ ρj) L) w) : Wp P r n c Q ρ w := by
  have h := k ρ
  rwa [mix_out hO hE, updL_id L hL.mem] at h
/-! results -/
theorem res1 {t a i bl off : Nat} {td : TypeDesc} {nn b : Nat} {z : List Value} {cs : List Value} {v : Value} {e : TypeId} {fz : Nat × Nat} (T : Ty P t td nn b z false) (hs : St w0 O0 w bs) (hx : ρ a = .pointer (some ⟨bl, off, none⟩))
    (hi : bs[i]? = some (some bl, .cells cs.toArray e fz)) (hv : cs[off]? = some v) : ResV P ρ w (.cell a t) v :=
  ⟨_, hx, run_loadOne T ((cell_at (hs.get hi)).trans (by simpa using hv))⟩
end
end Go.Fx
/- Small lemmas beside the engine. No program in sight. -/
set_option linter.unusedSimpArgs false
set_option linter.unusedVariables false
namespace Go.Fx
open Go Go.RowKit

theorem info_of {P : Program} {t : TypeId} {i : TypeInfo} (h : P.types[t]? = some i) : P.info? t = some i := by
  have hlt : t < P.types.size := (Array.getElem?_eq_some_iff.1 h).1
  show P.toTables.info? t = some i
  unfold Tables.info?
  rw [if_pos hlt]; exact h

section
variable {P : Program} {r : Option Nat} {ρ : Env} {w : World} {d : Option Nat} {ty : TypeId} {pos : String} {aft : Array Edge} {g : Option (Nat × Bool)} {V : Value → World → Prop}
variable {w0 : Zx} {w' : World} {O0 : List Nat} {bs new : Ents}
variable {x y : Operand} {t s : TypeId} {td : TypeDesc} {n b : Nat} {z : List Value} {ag : Bool}

section
variable {α β γ δ : Type} {O : List Nat}
theorem mkC {q : Rp α} {v : Value} {x : α} (h : q.rd w O [v] x) : (vC q).vd w O v x := h
theorem mkVia {f : β → α} {q : Rp α} {cs : List Value} {x : β} (h : q.rd w O cs (f x)) : (rVia f q).rd w O cs x := h
theorem mkT2 {a : Vr α} {b : Vr β} {v1 v2 : Value} {x : α} {y : β} (h1 : a.vd w O v1 x) (h2 : b.vd w O v2 y) : (vT2 a b).vd w O (.tuple [v1, v2].toArray) (x, y) := ⟨v1, v2, rfl, h1, h2⟩
end
theorem step_all (hs : St w0 O0 w bs) : Step (ks bs O0) w O0 w := Step.all w O0 bs
theorem op_makeFunc {f : Go.Fn} {a c : Array Operand} (h : V (.func f (a.map (ev ρ)) (c.map (ev ρ))) w) : Run1 P r ρ w ⟨d, .makeFunc f a c, ty, pos, aft, g⟩ V :=
  run1_value (by simp) (by simp [execOp, Instr.makeFunc]) h

end
end Go.Fx
/- What the models of functions are made of; more operations. No program in sight. -/
set_option linter.unusedSimpArgs false
set_option linter.unusedVariables false
namespace Go.Fx
open Go Go.RowKit

/-! models -/
section model
universe u v
variable {R : Type} {α : Type u} {x : R} {m a b : Option R} {c : Bool}
/-- on only where c holds -/
def ck (c : Prop) [Decidable c] (m : Option R) : Option R := if c then m else none
/-- where ways meet -/
def jn (k : α) (f : α → Option R) : Option R := f k
theorem ck_some {c : Prop} [Decidable c] (h : ck c m = some x) : c ∧ m = some x := by
  unfold ck at h; split at h
  · exact ⟨‹_›, h⟩
  · cases h
theorem jn_elim {k : α} {f : α → Option R} (h : jn k f = some x) : ∃ j, j = k ∧ f j = some x := ⟨k, rfl, h⟩
theorem bif_t (h : (bif c then a else b) = some x) (hc : c = true) : a = some x := by rw [hc] at h; exact h
theorem bif_f (h : (bif c then a else b) = some x) (hc : c = false) : b = some x := by rw [hc] at h; exact h
theorem bd {β : Type} {o : Option β} {f : β → Option R} (h : o.bind f = some x) : ∃ v, o = some v ∧ f v = some x := by
  cases o with
  | none => cases h
  | some v => exact ⟨v, rfl, h⟩
theorem jnE0 {j f : Option R}  (e : j = f) (h : j  = some x) : f  = some x := e ▸ h
theorem jnE1 {A0 : Type} {j f : A0 → Option R} {a0 : A0} (e : j = f) (h : j a0 = some x) : f a0 = some x := e ▸ h
@[irreducible] def loop1 {A0 : Type} (b : (A0 → Option R) → A0 → Option R) (n : Nat) : A0 → Option R := Nat.rec (fun _ => none) (fun _ s => b s) n
theorem loop1_zero {A0 : Type} {b : (A0 → Option R) → A0 → Option R} {a0 : A0} : loop1 b 0 a0 = none := by unfold loop1; rfl
theorem loop1_succ {A0 : Type} {b : (A0 → Option R) → A0 → Option R} {n : Nat} {a0 : A0} : loop1 b (n + 1) a0 = b (loop1 b n) a0 := by unfold loop1; rfl
theorem loop1_z {A0 : Type} {b : (A0 → Option R) → A0 → Option R} {a0 : A0} (h : loop1 b 0 a0 = some x) : False := by rw [loop1_zero] at h; cases h
theorem loop1_s {A0 : Type} {b : (A0 → Option R) → A0 → Option R} {n : Nat} {a0 : A0} (h : loop1 b (n + 1) a0 = some x) : ∃ sf, sf = loop1 b n ∧ b sf a0 = some x := ⟨_, rfl, loop1_succ.symm.trans h⟩
theorem jnE2 {A0 A1 : Type} {j f : A0 → A1 → Option R} {a0 : A0} {a1 : A1} (e : j = f) (h : j a0 a1 = some x) : f a0 a1 = some x := e ▸ h
@[irreducible] def loop2 {A0 A1 : Type} (b : (A0 → A1 → Option R) → A0 → A1 → Option R) (n : Nat) : A0 → A1 → Option R := Nat.rec (fun _ _ => none) (fun _ s => b s) n
theorem loop2_zero {A0 A1 : Type} {b : (A0 → A1 → Option R) → A0 → A1 → Option R} {a0 : A0} {a1 : A1} : loop2 b 0 a0 a1 = none := by unfold loop2; rfl
theorem loop2_succ {A0 A1 : Type} {b : (A0 → A1 → Option R) → A0 → A1 → Option R} {n : Nat} {a0 : A0} {a1 : A1} : loop2 b (n + 1) a0 a1 = b (loop2 b n) a0 a1 := by unfold loop2; rfl
theorem loop2_z {A0 A1 : Type} {b : (A0 → A1 → Option R) → A0 → A1 → Option R} {a0 : A0} {a1 : A1} (h : loop2 b 0 a0 a1 = some x) : False := by rw [loop2_zero] at h; cases h
theorem loop2_s {A0 A1 : Type} {b : (A0 → A1 → Option R) → A0 → A1 → Option R} {n : Nat} {a0 : A0} {a1 : A1} (h : loop2 b (n + 1) a0 a1 = some x) : ∃ sf, sf = loop2 b n ∧ b sf a0 a1 = some x := ⟨_, rfl, loop2_succ.symm.trans h⟩
theorem jnE3 {A0 A1 A2 : Type} {j f : A0 → A1 → A2 → Option R} {a0 : A0} {a1 : A1} {a2 : A2} (e : j = f) (h : j a0 a1 a2 = some x) : f a0 a1 a2 = some x := e ▸ h
@[irreducible] def loop3 {A0 A1 A2 : Type} (b : (A0 → A1 → A2 → Option R) → A0 → A1 → A2 → Option R) (n : Nat) : A0 → A1 → A2 → Option R := Nat.rec (fun _ _ _ => none) (fun _ s => b s) n
theorem loop3_zero {A0 A1 A2 : Type} {b : (A0 → A1 → A2 → Option R) → A0 → A1 → A2 → Option R} {a0 : A0} {a1 : A1} {a2 : A2} : loop3 b 0 a0 a1 a2 = none := by unfold loop3; rfl
theorem loop3_succ {A0 A1 A2 : Type} {b : (A0 → A1 → A2 → Option R) → A0 → A1 → A2 → Option R} {n : Nat} {a0 : A0} {a1 : A1} {a2 : A2} : loop3 b (n + 1) a0 a1 a2 = b (loop3 b n) a0 a1 a2 := by unfold loop3; rfl
theorem loop3_z {A0 A1 A2 : Type} {b : (A0 → A1 → A2 → Option R) → A0 → A1 → A2 → Option R} {a0 : A0} {a1 : A1} {a2 : A2} (h : loop3 b 0 a0 a1 a2 = some x) : False := by rw [loop3_zero] at h; cases h
theorem loop3_s {A0 A1 A2 : Type} {b : (A0 → A1 → A2 → Option R) → A0 → A1 → A2 → Option R} {n : Nat} {a0 : A0} {a1 : A1} {a2 : A2} (h : loop3 b (n + 1) a0 a1 a2 = some x) : ∃ sf, sf = loop3 b n ∧ b sf a0 a1 a2 = some x := ⟨_, rfl, loop3_succ.symm.trans h⟩
theorem jnE4 {A0 A1 A2 A3 : Type} {j f : A0 → A1 → A2 → A3 → Option R} {a0 : A0} {a1 : A1} {a2 : A2} {a3 : A3} (e : j = f) (h : j a0 a1 a2 a3 = some x) : f a0 a1 a2 a3 = some x := e ▸ h
@[irreducible] def loop4 {A0 A1 A2 A3 : Type} (b : (A0 → A1 → A2 → A3 → Option R) → A0 → A1 → A2 → A3 → Option R) (n : Nat) : A0 → A1 → A2 → A3 → Option R := Nat.rec (fun _ _ _ _ => none) (fun _ s => b s) n
theorem loop4_zero {A0 A1 A2 A3 : Type} {b : (A0 → A1 → A2 → A3 → Option R) → A0 → A1 → A2 → A3 → Option R} {a0 : A0} {a1 : A1} {a2 : A2} {a3 : A3} : loop4 b 0 a0 a1 a2 a3 = none := by unfold loop4; rfl
theorem loop4_succ {A0 A1 A2 A3 : Type} {b : (A0 → A1 → A2 → A3 → Option R) → A0 → A1 → A2 → A3 → Option R} {n : Nat} {a0 : A0} {a1 : A1} {a2 : A2} {a3 : A3} : loop4 b (n + 1) a0 a1 a2 a3 = b (loop4 b n) a0 a1 a2 a3 := by unfold loop4; rfl
theorem loop4_z {A0 A1 A2 A3 : Type} {b : (A0 → A1 → A2 → A3 → Option R) → A0 → A1 → A2 → A3 → Option R} {a0 : A0} {a1 : A1} {a2 : A2} {a3 : A3} (h : loop4 b 0 a0 a1 a2 a3 = some x) : False := by rw [loop4_zero] at h; cases h
theorem loop4_s {A0 A1 A2 A3 : Type} {b : (A0 → A1 → A2 → A3 → Option R) → A0 → A1 → A2 → A3 → Option R} {n : Nat} {a0 : A0} {a1 : A1} {a2 : A2} {a3 : A3} (h : loop4 b (n + 1) a0 a1 a2 a3 = some x) : ∃ sf, sf = loop4 b n ∧ b sf a0 a1 a2 a3 = some x := ⟨_, rfl, loop4_succ.symm.trans h⟩
end model

section ink
theorem inK_wrap (k : IntKind) (n : Int) : InK k (k.wrap n) := wrap_within k n
theorem inK_len {α : Type} {r : Rp α} {w : World} {O : List Nat} {a : Option Addr} {c : Nat} {xs : List α} (h : SlR r w O a c xs) : InK .i64 (xs.length : Int) := by
  have := h.len
  constructor <;> simp [IntKind.min, IntKind.max, IntKind.bits, IntKind.signed] <;> omega
theorem inK_lenG {α : Type} {q : Rp α} {e : TypeId} {w : World} {O : List Nat} {a : Option Addr} {c : Nat} {xs : List α} {kk : Option Nat} {o : Obj} (h : Gs q e w O a c xs kk o) : InK .i64 (xs.length : Int) := by
  have := h.le
  have : maxLen = 9223372036854775807 := rfl
  constructor <;> simp [IntKind.min, IntKind.max, IntKind.bits, IntKind.signed] <;> omega
theorem inK_min {k : IntKind} {m n : Int} (h1 : InK k m) (h2 : InK k n) : InK k (min m n) := ⟨Int.le_min.2 ⟨h1.1, h2.1⟩, Int.le_trans (Int.min_le_left ..) h1.2⟩
theorem mk_int {k : IntKind} {x : Int} {w : World} {O : List Nat} (h : InK k x) : (rInt k).rd w O [.int k x] x := ⟨rfl, h⟩
end ink

section
variable {P : Program} {r : Option Nat} {ρ : Env} {w : World} {d : Option Nat} {ty : TypeId} {pos : String} {aft : Array Edge} {g : Option (Nat × Bool)} {V : Value → World → Prop}
variable {w0 : Zx} {w' : World} {O0 : List Nat} {bs bs' new : Ents}
variable {x y : Operand} {t s u : TypeId} {td : TypeDesc} {n b : Nat} {z : List Value} {ag : Bool} {k q q' : IntKind} {m j : Int}

theorem op_and (hx : ev ρ x = .int q m) (hy : ev ρ y = .int q j) (h : V (.int q (Go.bits .and q m j)) w) : Run1 P r ρ w ⟨d, .binOp .and t x y u, ty, pos, aft, g⟩ V :=
  run1_value (by simp) (by simp [execOp, hx, hy, eqGuard, binOp, Op.intBits, Go.bits]) h
theorem op_shr (hx : ev ρ x = .int q m) (hy : ev ρ y = .int q' j) (h0 : 0 ≤ j) (h : V (.int q (m / 2 ^ min j.toNat q.bits)) w) : Run1 P r ρ w ⟨d, .binOp .shr t x y u, ty, pos, aft, g⟩ V :=
  run1_value (by simp) (by simp [execOp, hx, hy, eqGuard, binOp, shift_shr_any _ _ _ _ h0]) h
theorem op_min {us : Array TypeId} (hx : ev ρ x = .int q m) (hy : ev ρ y = .int q j) (h : V (.int q (min m j)) w) : Run1 P r ρ w ⟨d, .call ⟨.builtin .min, #[x, y], us⟩, ty, pos, aft, g⟩ V := by
  have e : (if j < m then j else m) = min m j := by split <;> omega
  exact run1_value (v := .int q (min m j)) (by simp) (by simp [execOp, resolve, invoke, builtin, Builtin.min_, Builtin.min2, hx, hy, e]) h
theorem eqlen {a : Option Addr} {l l' c : Nat} (h : ev ρ x = .slice a l c) (e : l = l') : ev ρ x = .slice a l' c := e ▸ h
theorem eqlenV {a : Option Addr} {l l' c : Nat} (e : l = l') : Value.slice a l c = .slice a l' c := e ▸ rfl
theorem bndI {o : Operand} {dflt l : Nat} {m : Int} (h : ev ρ o = .int q m) (hk : m = (l : Int)) : Bnd ρ (some o) dflt l := ⟨q, by rw [h, hk]⟩
theorem Src.owned' {bl len : Nat} {cs news : List Value} {e : TypeId} {fz : Nat × Nat} (h : w.heap[bl]? = some (.cells cs.toArray e fz)) (hn : (cs.drop 0).take len = news) : Src w (some ⟨bl, 0, none⟩) news := hn ▸ Src.owned h
theorem Gs.of_make {α : Type} {p : Rp α} {O : List Nat} {e : TypeId} {bl l c : Nat} {v : Value} {x0 : α} (hp : p.n = 1) (hr : ∀ w O, p.rd w O [v] x0) (hlc : l ≤ c) (hc : c ≤ maxLen) :
    Gs p e w O (some ⟨bl, 0, none⟩) c (List.replicate l x0) (some bl) (.cells (List.replicate c v).toArray e) := by
  refine Gs.made (by simp [hp]) (by simpa using hlc) hc ?_
  simp only [hp, Nat.mul_one, List.length_replicate, List.take_replicate, Nat.min_eq_left hlc]
  clear hlc
  induction l with
  | zero => exact Els.nil
  | succ l ih => exact ⟨[v], List.replicate l v, by simp [List.replicate_succ], hr w O, ih⟩
theorem op_makeSliceI {α : Type} {q : Rp α} {e : TypeId} {bt : Nat} {tz : List Value} {ta : Bool} {v : Value} {x0 : α} {kl kc : IntKind} {l c : Int} (T : Ty P t (.slice e) 1 bt tz ta) (E : Ty P e td 1 b [v] ag) (hs : St w0 O0 w bs)
    (hx : ev ρ x = .int kl l) (hy : ev ρ y = .int kc c) (hc : 0 ≤ l ∧ l ≤ c ∧ b * c ≤ 281474976710656 ∧ c ≤ 281474976710656) (hq : q.n = 1) (hr : ∀ w O, q.rd w O [v] x0)
    (k : ∀ bl w', Ext w w' → Step (ks bs O0) w (ks ((some bl, .cells (List.replicate c.toNat v).toArray e) :: bs) O0) w' → St w0 O0 w' ((some bl, .cells (List.replicate c.toNat v).toArray e) :: bs) →
      Gs q e w' (ks ((some bl, .cells (List.replicate c.toNat v).toArray e) :: bs) O0) (some ⟨bl, 0, none⟩) c.toNat (List.replicate l.toNat x0) (some bl) (.cells (List.replicate c.toNat v).toArray e) →
      V (.slice (some ⟨bl, 0, none⟩) (List.replicate l.toNat x0).length c.toNat) w') :
    Run1 P r ρ w ⟨d, .makeSlice t x y, ty, pos, aft, g⟩ V := by
  have hm : maxLen = 9223372036854775807 := rfl
  refine op_makeSlice (l := l.toNat) (c := c.toNat) T E hs (hx.trans (by rw [Int.toNat_of_nonneg hc.1])) (hy.trans (by rw [Int.toNat_of_nonneg (by omega)])) (by omega) ?_ (by omega) fun bl w' hx h1 h2 => ?_
  · have e1 : ((c.toNat : Nat) : Int) = c := Int.toNat_of_nonneg (by omega)
    have e2 : ((b * c.toNat : Nat) : Int) = b * c := by rw [Int.natCast_mul, e1]
    have := hc.2.2.1
    rw [← e2] at this
    exact Int.ofNat_le.1 this
  · have := k bl w' hx h1 h2 (Gs.of_make hq hr (by omega) (by omega))
    rwa [List.length_replicate] at this
/-! slices of one's own, read and written -/
section own
variable {α : Type} {p : Rp α} {O O' : List Nat}
theorem Els.set : ∀ {cs : List Value} {xs : List α}, Els p w O cs xs → ∀ i, i < xs.length → ∀ {vs : List Value} {y : α}, p.rd w O vs y → Els p w O (cs.take (i * p.n) ++ vs ++ cs.drop (i * p.n + p.n)) (xs.set i y)
  | _, [], h, i, hi, _, _, _ => by simp at hi
  | _, x :: xs, ⟨v1, v2, h1, h2, h3⟩, 0, _, vs, y, hy => by
    refine ⟨vs, v2, ?_, hy, h3⟩
    rw [h1, ← p.len h2]; simp
  | _, x :: xs, ⟨v1, v2, h1, h2, h3⟩, i + 1, hi, vs, y, hy => by
    refine ⟨v1, v2.take (i * p.n) ++ vs ++ v2.drop (i * p.n + p.n), ?_, h2, Els.set h3 i (by simpa using hi) hy⟩
    have hl := p.len h2
    have e1 : (i + 1) * p.n = v1.length + i * p.n := by rw [hl, Nat.add_mul, Nat.one_mul, Nat.add_comm]
    rw [h1, e1, List.take_length_add_append, Nat.add_assoc, List.drop_append]
    simp [Nat.add_assoc]

theorem Gs.at_ {e : TypeId} {a : Option Addr} {c : Nat} {xs : List α} {kk : Option Nat} {o : Obj} (h : Gs p e w O a c xs kk o) (hx : 0 < xs.length) : ∃ bl, a = some ⟨bl, 0, none⟩ ∧ kk = some bl := by
  rcases h with ⟨_, _, rfl, _⟩ | ⟨bl, cur, h1, h2, _⟩
  · simp at hx
  · exact ⟨bl, h1, h2⟩
theorem op_indexAddrG {xs : List α} {e : TypeId} {dt : TypeDesc} {a : Option Addr} {c : Nat} {kd : IntKind} {bt : Nat} {tz : List Value} {ta : Bool} {kk : Option Nat} {o : Obj} (T : Ty P t (.slice e) 1 bt tz ta) (E : Ty P e dt n b z ag)
    (hx : ev ρ x = .slice a xs.length c) (hy : ev ρ y = .int kd m) (h : Gs p e w O a c xs kk o) (h0 : 0 ≤ m ∧ m < xs.length)
    (k : ∀ bl, a = some ⟨bl, 0, none⟩ → kk = some bl → V (.pointer (some ⟨bl, m.toNat * n, none⟩)) w) : Run1 P r ρ w ⟨d, .indexAddr t x y, ty, pos, aft, g⟩ V := by
  obtain ⟨bl, ha, hk⟩ := h.at_ (by omega)
  refine op_indexAddrO T E (hx.trans (by rw [ha])) hy h0.1 h0.2 ?_
  simpa using k bl ha hk
theorem Gs.cellsAt {e : TypeId} {a : Option Addr} {c bl : Nat} {xs : List α} {o : Obj} (h : Gs p e w O a c xs (some bl) o) {i : Nat} (hi : i < xs.length) :
    ∃ cur, o = .cells cur e (0, 0) ∧ (i + 1) * p.n ≤ cur.size ∧ p.rd w O ((cur.toList.drop (i * p.n)).take p.n) xs[i] := by
  rcases h with ⟨_, _, rfl, _⟩ | ⟨b2, cur, h1, h2, h3, h4, h5, h6, h7⟩
  · simp at hi
  · have e1 : (i + 1) * p.n ≤ xs.length * p.n := Nat.mul_le_mul_right _ hi
    have e2 : xs.length * p.n ≤ c * p.n := Nat.mul_le_mul_right _ h5
    refine ⟨cur, h3, by omega, ?_⟩
    have := h7.get i hi
    rwa [List.drop_take, List.take_take, Nat.min_eq_left (by rw [Nat.add_mul] at e1; omega)] at this
theorem op_loadG [Inhabited α] {xs : List α} {e : TypeId} {a : Option Addr} {c bl i : Nat} {o : Obj} (T : Ty P t td 1 b z false) (hp : p.n = 1) (hs : St w0 O0 w bs) (hi : bs[i]? = some (some bl, o))
    (hx : ev ρ x = .pointer (some ⟨bl, m.toNat * 1, none⟩)) (h : Gs p e w O a c xs (some bl) o) (h0 : 0 ≤ m ∧ m < xs.length)
    (k : ∀ v, p.rd w O [v] (xs.getD m.toNat default) → V v w) : Run1 P r ρ w ⟨d, .load t x, ty, pos, aft, g⟩ V := by
  have hm : m.toNat < xs.length := by omega
  obtain ⟨cur, h1, h2, h3⟩ := h.cellsAt hm
  subst h1
  rw [hp] at h2 h3
  simp only [Nat.mul_one] at h2 h3 hx
  have hl : m.toNat < cur.size := by omega
  have e1 : (cur.toList.drop m.toNat).take 1 = [cur[m.toNat]] := by
    rw [List.drop_eq_getElem_cons (by simpa using hl)]; simp
  rw [e1] at h3
  refine op_load (cs := cur.toList) (v := cur[m.toNat]) T hs hx (by rw [hi]) ?_ (k _ ?_)
  · rw [List.getElem?_eq_getElem (by simpa using hl)]; simp
  · have : xs.getD m.toNat default = xs[m.toNat] := by simp [List.getD_eq_getElem?_getD, List.getElem?_eq_getElem hm]
    rw [this]; exact h3
theorem op_storeG {xs : List α} {e : TypeId} {a : Option Addr} {c bl i : Nat} {o : Obj} {v : Value} {vs : List Value} {yv : α} (T : Ty P t td n b z ag) (hp : p.n = n) (hs : St w0 O0 w bs) (hi : bs[i]? = some (some bl, o))
    (hx : ev ρ x = .pointer (some ⟨bl, m.toNat * n, none⟩)) (hy : ev ρ y = v) (hv : v.cells = vs.toArray) (h : Gs p e w (ks bs O0) a c xs (some bl) o) (h0 : 0 ≤ m ∧ m < xs.length) (hr : p.rd w (ks bs O0) vs yv)
    (k : ∀ w' o', Step (ks bs O0) w (ks (bs.set i (some bl, o')) O0) w' → St w0 O0 w' (bs.set i (some bl, o')) → Gs p e w' (ks (bs.set i (some bl, o')) O0) a c (xs.set m.toNat yv) (some bl) o' → V undef w') :
    Run1 P r ρ w ⟨d, .store t x y, ty, pos, aft, g⟩ V := by
  have hm : m.toNat < xs.length := by omega
  rcases h with ⟨_, _, rfl, _⟩ | ⟨b2, cur, h1, h2, h3, h4, h5, h6, h7⟩
  · simp at hm
  · cases h2
    subst h3 hp
    have e1 : (m.toNat + 1) * p.n ≤ xs.length * p.n := Nat.mul_le_mul_right _ hm
    have e2 : xs.length * p.n ≤ c * p.n := Nat.mul_le_mul_right _ h5
    rw [Nat.add_mul, Nat.one_mul] at e1
    have hn := p.len hr
    refine op_store (cs := cur.toList) (vs := vs) T hs hx hy (by rw [hi]) hv hn (by simp; omega) (List.all_eq_true.2 fun v hv => by simpa using p.one hr v hv) rfl rfl fun w' h8 h9 => ?_
    refine k w' _ h8 h9 ?_
    refine .inr ⟨bl, _, h1, rfl, rfl, ?_, by simpa using h5, h6, ?_⟩
    · rw [List.size_toArray, setL_length (by simp; omega)]; simpa using h4
    · have e3 := (h7.set m.toNat hm hr).step h8
      simp only [List.length_set]
      have e4 : (setL cur.toList (m.toNat * p.n) vs).take (xs.length * p.n) = ((cur.toList.take (xs.length * p.n)).take (m.toNat * p.n)) ++ vs ++ (cur.toList.take (xs.length * p.n)).drop (m.toNat * p.n + p.n) := by
        apply List.ext_getElem?
        intro j
        rw [List.getElem?_take, setL_getAll (by simp; omega)]
        simp only [List.getElem?_append, List.length_append, List.length_take, Array.length_toList, List.getElem?_take, List.getElem?_drop, hn]
        rw [Nat.min_eq_left (show xs.length * p.n ≤ cur.size by omega), Nat.min_eq_left (show m.toNat * p.n ≤ xs.length * p.n by omega)]
        by_cases c1 : j < m.toNat * p.n
        · simp [c1, show j < m.toNat * p.n + p.n by omega, show j < xs.length * p.n by omega, show ¬ m.toNat * p.n ≤ j by omega]
        · by_cases c2 : j < m.toNat * p.n + p.n
          · simp [c1, c2, show j < xs.length * p.n by omega, show m.toNat * p.n ≤ j by omega]
          · simp only [c1, c2, if_false, and_false]
            have : m.toNat * p.n + p.n + (j - (m.toNat * p.n + p.n)) = j := by omega
            rw [this]
      rw [e4]; exact e3
theorem Gs.of_cells {e : TypeId} {bl c : Nat} {cs : List Value} {xs : List α} (h : Els p w O cs xs) (hc : xs.length = c) (hm : c ≤ maxLen) : Gs p e w O (some ⟨bl, 0, none⟩) c xs (some bl) (.cells cs.toArray e) := by
  refine Gs.made (by simp [h.len, hc]) (by omega) hm ?_
  simp only
  rw [List.take_of_length_le (by rw [h.len]; exact Nat.le_refl _)]; exact h
end own

/-! function values -/
/-- a call of a function value -/
def FvTo (P : Program) (fv : Value) (args : List Value) (w : World) (K : Value → World → Prop) : Prop :=
  ∃ f first cap, fv = .func (.func f) first cap ∧ (∀ (zs : Array Value) (w : World), (callFunc f zs).run P w = .ok (.enter f zs) w) ∧ Fn P f (first.toList ++ args ++ cap.toList) w K
theorem op_callF {fv : Value} {args : Array Operand} {us : Array TypeId} {vs : List Value} {K : Value → World → Prop} (hx : ev ρ x = fv) (h : FvTo P fv vs w K) (ha : args.toList.map (ev ρ) = vs) (hk : ∀ v w', K v w' → V v w') :
    Run1 P r ρ w ⟨d, .call ⟨.value x, args, us⟩, ty, pos, aft, g⟩ V := by
  obtain ⟨f, first, cap, rfl, hc, hf⟩ := h
  refine run1_enter (f := f) (args := first.toList ++ vs ++ cap.toList) (w' := w) (by simp) ?_ hf hk
  have : args.map (ev ρ) = vs.toArray := by rw [← ha, ← Array.toList_map]
  simp [execOp, resolve, Deferred.ofValue, hx, invoke, hc, this]
theorem op_makeFunc' {f : Go.Fn} {a c : Array Operand} {a' c' : List Value} (ha : a.toList.map (ev ρ) = a') (hc : c.toList.map (ev ρ) = c') (h : V (.func f a'.toArray c'.toArray) w) : Run1 P r ρ w ⟨d, .makeFunc f a c, ty, pos, aft, g⟩ V := by
  refine op_makeFunc ?_
  have e1 : a.map (ev ρ) = a'.toArray := by rw [← ha, ← Array.toList_map]
  have e2 : c.map (ev ρ) = c'.toArray := by rw [← hc, ← Array.toList_map]
  rw [e1, e2]; exact h
/-- a function value computes what f says -/
def CallsTo1 {α β : Type} (P : Program) (w : World) (O : List Nat) (fv : Value) (A : Vr α) (R : Vr β) (f : α → Option β) : Prop :=
  ∀ w' O', Step O w O' w' → (∀ k ∈ O', k < w'.heap.size) → ∀ v x y, A.vd w' O' v x → f x = some y → FvTo P fv [v] w' fun u w'' => Ext w' w'' ∧ R.vd w'' O' u y
def CallsTo2 {α α' β : Type} (P : Program) (w : World) (O : List Nat) (fv : Value) (A : Vr α) (A' : Vr α') (R : Vr β) (f : α → α' → Option β) : Prop :=
  ∀ w' O', Step O w O' w' → (∀ k ∈ O', k < w'.heap.size) → ∀ v v' x x' y, A.vd w' O' v x → A'.vd w' O' v' x' → f x x' = some y → FvTo P fv [v, v'] w' fun u w'' => Ext w' w'' ∧ R.vd w'' O' u y
theorem CallsTo1.step {α β : Type} {w' : World} {O O' : List Nat} {fv : Value} {A : Vr α} {R : Vr β} {f : α → Option β} (h : CallsTo1 P w O fv A R f) (s : Step O w O' w') : CallsTo1 P w' O' fv A R f :=
  fun _ _ s' => h _ _ (s.trans s')
theorem CallsTo2.step {α α' β : Type} {w' : World} {O O' : List Nat} {fv : Value} {A : Vr α} {A' : Vr α'} {R : Vr β} {f : α → α' → Option β} (h : CallsTo2 P w O fv A A' R f) (s : Step O w O' w') : CallsTo2 P w' O' fv A A' R f :=
  fun _ _ s' => h _ _ (s.trans s')
theorem CallsTo1.call {α β : Type} {O : List Nat} {fv : Value} {A : Vr α} {R : Vr β} {f : α → Option β} (h : CallsTo1 P w O fv A R f) (hO : ∀ k ∈ O, k < w.heap.size) {v : Value} {x : α} {y : β} (hv : A.vd w O v x) (hy : f x = some y) :
    FvTo P fv [v] w fun u w'' => Ext w w'' ∧ R.vd w'' O u y := h _ _ (Step.refl _ _) hO _ _ _ hv hy
theorem CallsTo2.call {α α' β : Type} {O : List Nat} {fv : Value} {A : Vr α} {A' : Vr α'} {R : Vr β} {f : α → α' → Option β} (h : CallsTo2 P w O fv A A' R f) (hO : ∀ k ∈ O, k < w.heap.size) {v v' : Value} {x : α} {x' : α'} {y : β} (hv : A.vd w O v x) (hv' : A'.vd w O v' x') (hy : f x x' = some y) :
    FvTo P fv [v, v'] w fun u w'' => Ext w w'' ∧ R.vd w'' O u y := h _ _ (Step.refl _ _) hO _ _ _ _ _ hv hv' hy
theorem St.publishP {α : Type} {p : Rp α} (hs : St w0 O0 w bs) {i bl : Nat} {cs : List Value} {e : TypeId} {fz : Nat × Nat} {x : α} (hi : bs[i]? = some (some bl, .cells cs.toArray e fz)) (h : p.rd w (ks bs O0) cs x) :
    St w0 O0 w (bs.eraseIdx i) ∧ Step (ks bs O0) w (ks (bs.eraseIdx i) O0) w ∧ PtR p w (ks (bs.eraseIdx i) O0) ⟨bl, 0, none⟩ x := by
  have hst := Step.drop w O0 bs i
  refine ⟨hs.drop i, hst, rfl, ⟨hs.lt (List.mem_of_getElem? hi) rfl, not_ks_erase hs hi⟩, _, e, fz, hs.get hi, ?_, ?_⟩
  · have := p.len h; simp; omega
  · have h1 := p.len h
    simp only [List.drop_zero]
    rw [← h1, List.take_length]; exact p.step hst h

/-! a slice handed back as the caller's own -/
def OkG {α : Type} (P : Program) (f : FuncId) (args : List Value) (w : World) (O : List Nat) (p : Rp α) (e : TypeId) (x : List α) : Prop :=
  Fn P f args w fun v w' => Ext w w' ∧ ∃ a c kk o, v = .slice a x.length c ∧ (∀ b, kk = some b → w.heap.size ≤ b ∧ w'.heap[b]? = some o) ∧ Gs p e w' (kk.toList ++ O) a c x kk o
theorem ks_cons (kk : Option Nat) (o : Obj) : ks ((kk, o) :: bs) O0 = kk.toList ++ ks bs O0 := by cases kk <;> rfl
theorem St.callG {kk : Option Nat} {o : Obj} (hs : St w0 O0 w bs) (hx : Ext w w') (hk : ∀ b, kk = some b → w.heap.size ≤ b ∧ w'.heap[b]? = some o) :
    St w0 O0 w' ((kk, o) :: bs) ∧ Step (ks bs O0) w (ks ((kk, o) :: bs) O0) w' := by
  have h1 := hs.call hx
  cases kk with
  | none => exact ⟨h1.ghost o, Step.ext hx⟩
  | some b =>
    obtain ⟨hb, hg⟩ := hk b rfl
    refine ⟨⟨h1.below, fun q hq j hj => ?_, ?_, fun j hj => ⟨(h1.dj j hj).1, fun hm => ?_⟩, h1.dsn, h1.dfs⟩, hx.size, fun j hj hn => ⟨fun hm => ?_, (Step.ext (O := ks bs O0) hx).keep j hj hn |>.2⟩⟩
    · rcases List.mem_cons.1 hq with rfl | hq
      · cases hj; exact ⟨.inr (Nat.le_trans hs.below.size hb), hg⟩
      · exact h1.own q hq j hj
    · show (b :: bs.filterMap Prod.fst).Nodup
      rw [List.nodup_cons]
      refine ⟨fun hm => ?_, h1.nd⟩
      have := hs.ltw b (List.mem_append_left _ hm)
      omega
    · rcases List.mem_cons.1 (show j ∈ b :: bs.filterMap Prod.fst from hm) with e | hm
      · have := hs.lt0 j hj; omega
      · exact (hs.dj j hj).2 hm
    · rw [ks_cons] at hm
      rcases List.mem_append.1 hm with hm | hm
      · simp at hm; omega
      · exact hn hm
theorem OkG.ok {α : Type} {f : FuncId} {args : List Value} {O : List Nat} {p : Rp α} {e : TypeId} {xs : List α} (hO : ∀ k ∈ O, k < w.heap.size) (h : OkG P f args w O p e xs) : Ok P f args w O (vC (rSl p)) xs := by
  refine Fn.mono h fun v w' ⟨hx, a, c, kk, o, hv, hk, hG⟩ => ⟨hx, ?_⟩
  obtain ⟨h1, h2⟩ := (St.start hO).callG hx hk
  obtain ⟨_, _, h3⟩ := Gs.publish (i := 0) h1 rfl (by rw [ks_cons]; exact hG)
  rw [hv]
  exact mkC (mk_sl h3)
theorem OkG.mk {w0 : World} {α : Type} {O : List Nat} {p : Rp α} {e : TypeId} {xs ys : List α} {a : Option Addr} {c i : Nat} {kk : Option Nat} {o : Obj} (hs : St ⟨w0, [], []⟩ O w' bs) (hi : bs[i]? = some (kk, o)) (h : Gs p e w' (ks bs O) a c xs kk o) (he : xs = ys) :
    ∃ a' c' kk o, Value.slice a xs.length c = .slice a' ys.length c' ∧ (∀ b, kk = some b → w0.heap.size ≤ b ∧ w'.heap[b]? = some o) ∧ Gs p e w' (kk.toList ++ O) a' c' ys kk o := by
  subst he
  refine ⟨a, c, kk, o, rfl, fun b hb => ⟨((hs.own _ (List.mem_of_getElem? hi) b hb).1).resolve_left (by simp), (hs.own _ (List.mem_of_getElem? hi) b hb).2⟩, h.step ⟨Nat.le_refl _, fun j hj hn => ⟨fun hm => hn ?_, rfl⟩⟩⟩
  rcases List.mem_append.1 hm with hm | hm
  · refine List.mem_append_left _ (mem_keys.2 ⟨_, List.mem_of_getElem? hi, ?_⟩)
    simpa using hm
  · exact List.mem_append_right _ hm
theorem OkG.mkNil {w0 : World} {α : Type} {O : List Nat} {p : Rp α} {e : TypeId} {ys : List α} (he : ([] : List α) = ys) :
    ∃ a' c' kk o, Value.slice none 0 0 = .slice a' ys.length c' ∧ (∀ b, kk = some b → w0.heap.size ≤ b ∧ w'.heap[b]? = some o) ∧ Gs p e w' (kk.toList ++ O) a' c' ys kk o := by
  subst he
  exact ⟨none, 0, none, .cells #[] e, rfl, (fun _ h => by cases h), Gs.nil_⟩

theorem Els.drop {α : Type} {p : Rp α} {O : List Nat} : ∀ {cs : List Value} {xs : List α}, Els p w O cs xs → ∀ k, Els p w O (cs.drop (k * p.n)) (xs.drop k)
  | _, [], h, k => by rw [show _ = _ from h]; simp [Els]
  | _, _ :: _, h, 0 => by simpa using h
  | _, x :: xs, ⟨v1, v2, h1, h2, h3⟩, k + 1 => by
    have := Els.drop h3 k
    rw [h1, Nat.add_mul, Nat.one_mul, Nat.add_comm, ← p.len h2, List.drop_append, List.drop_of_length_le (by omega)]
    simp only [List.nil_append, List.drop_succ_cons, p.len h2, Nat.add_sub_cancel_left]; exact this
/-- a slice whose capacity is its length -/
def vCl {α : Type} (p : Rp α) : Vr (List α) := ⟨fun w O v x => ∃ a, v = .slice a x.length x.length ∧ SlR p w O a x.length x, fun s ⟨a, h1, h2⟩ => ⟨a, h1, h2.step s⟩⟩
theorem mkCl {α : Type} {p : Rp α} {O : List Nat} {a : Option Addr} {c : Nat} {xs : List α} (h : SlR p w O a c xs) (e : c = xs.length) : (vCl p).vd w O (.slice a xs.length c) xs := by
  subst e; exact ⟨a, rfl, h⟩

/-! arrays in blocks of one's own -/
end
end Go.Fx
/- Ranges over functions: iterators as lists of what they hand out; the loop over one. No program in sight. -/
set_option linter.unusedSimpArgs false
set_option linter.unusedVariables false
namespace Go.Fx
open Go Go.RowKit

/-- blocks of one's own from one world to the next: those of old, and new ones -/
structure Grow (O O' : List Nat) (w w' : World) : Prop where
  new : ∀ k ∈ O', k ∈ O ∨ w.heap.size ≤ k
  lt : ∀ k ∈ O', k < w'.heap.size
theorem Grow.refl {O : List Nat} {w w' : World} (h : ∀ k ∈ O, k < w'.heap.size) : Grow O O w w' := ⟨fun _ h => .inl h, h⟩

/-- what has come, the world, what the loop owns, what the iterator owns -/
abbrev JP (α : Type) := List α → World → List Nat → List Nat → Prop
structure Abides {α : Type} (J : JP α) : Prop where
  loc : ∀ {pre : List α} {w w' : World} {O K K' : List Nat}, J pre w O K → (∀ k ∈ K, k ∉ O) → Loc K w w' → Grow K K' w w' → J pre w' O K'
/-- how the loop's body takes what it is handed -/
def YieldsTo {α : Type} (P : Program) (enc : α → World → List Nat → List Value → Prop) (L : List α) (l : Nat) (J Jx : JP α) : Prop :=
  ∀ (pre : List α) (x : α) (w : World) (O K : List Nat) (vs : List Value), pre ++ [x] <+: L → J pre w O K → (∀ k ∈ K, k < w.heap.size ∧ k ∉ O) → (∀ k ∈ O, k < w.heap.size) → enc x w (K ++ O) vs →
    YieldAt (FW none) 0 P l vs.toArray w fun e w' => ∃ O', Loc O w w' ∧ Grow O O' w w' ∧ ((e = .returned (.bool true) ∧ J (pre ++ [x]) w' O' K) ∨ (e = .returned (.bool false) ∧ Jx (pre ++ [x]) w' O' K))
/-- function f, over what it has captured, hands out the list L -/
def IterF {α : Type} (P : Program) (w : World) (O : List Nat) (f : FuncId) (caps : List Value) (enc : α → World → List Nat → List Value → Prop) (L : List α) : Prop :=
  ∀ (w1 : World) (O1 : List Nat), Step O w O1 w1 → (∀ k ∈ O1, k < w1.heap.size) → ∀ (l : Nat) (J Jx : JP α), Abides J → Abides Jx → YieldsTo P enc L l J Jx → J [] w1 O1 [] →
    Fn P f (.func (.yield l) #[] #[] :: caps) w1 fun _ w2 => ∃ O2, J L w2 O2 [] ∨ ∃ pre, Jx pre w2 O2 []
theorem IterF.step {α : Type} {P : Program} {w w' : World} {O O' : List Nat} {f : FuncId} {caps : List Value} {enc : α → World → List Nat → List Value → Prop} {L : List α} (h : IterF P w O f caps enc L) (s : Step O w O' w') : IterF P w' O' f caps enc L :=
  fun w1 O1 s1 => h w1 O1 (s.trans s1)
def enc1 {α : Type} (a : Vr α) : α → World → List Nat → List Value → Prop := fun x w O vs => ∃ v, vs = [v] ∧ a.vd w O v x
theorem enc1_len {α : Type} {a : Vr α} {x : α} {w : World} {O : List Nat} {vs : List Value} (h : enc1 a x w O vs) : vs.length = 1 := by obtain ⟨v, rfl, _⟩ := h; rfl
theorem enc1_step {α : Type} {a : Vr α} {x : α} {w w' : World} {O O' : List Nat} {vs : List Value} (s : Step O w O' w') (h : enc1 a x w O vs) : enc1 a x w' O' vs := by obtain ⟨v, e, h⟩ := h; exact ⟨v, e, a.step s h⟩
/-! ### what is owned, said anew -/
theorem Step.sub {O O' : List Nat} {w : World} (h : ∀ k ∈ O', k ∈ O) : Step O w O' w := ⟨Nat.le_refl _, fun k _ hn => ⟨fun hm => hn (h k hm), rfl⟩⟩
theorem Step.of_loc {O O' K : List Nat} {w w' : World} (h : Loc K w w') (hK : ∀ k ∈ K, k ∈ O) (hO : ∀ k ∈ O', k ∈ O ∨ w.heap.size ≤ k) : Step O w O' w' :=
  ⟨h.size, fun k hk hn => ⟨fun hm => (hO k hm).elim hn (fun h => by omega), h.block k hk fun hm => hn (hK k hm)⟩⟩
section
variable {z : Zx} {O0 O1 : List Nat} {w w' : World} {bs : Ents}
theorem mem_ks {k : Nat} : k ∈ ks bs O0 ↔ k ∈ bs.filterMap Prod.fst ∨ k ∈ O0 := List.mem_append
/-- what others own has turned -/
theorem St.loc (h : St z O0 w bs) {K : List Nat} (hl : Loc K w w') (hK : ∀ k ∈ K, k ∉ bs.filterMap Prod.fst ∧ (k ∈ z.K ∨ z.w.heap.size ≤ k) ∧ k ∉ z.ds) : St z O0 w' bs :=
  ⟨h.below.trans' hl fun k hk => (hK k hk).2.1, fun p hp b hb => ⟨(h.own p hp b hb).1, by rw [hl.block b (h.lt hp hb) fun hm => (hK b hm).1 (mem_keys.2 ⟨p, hp, hb⟩)]; exact (h.own p hp b hb).2⟩, h.nd,
   fun k hk => ⟨Nat.lt_of_lt_of_le (h.dj k hk).1 hl.size, (h.dj k hk).2⟩, h.dsn,
   fun D hD => ⟨(h.dfs D hD).1, (h.dfs D hD).2.1, by rw [hl.block D (h.lt0 D (h.dfs D hD).1) fun hm => (hK D hm).2.2 hD]; exact (h.dfs D hD).2.2⟩⟩
/-- others own other blocks -/
theorem St.others (h : St z O0 w bs) (hO : ∀ k ∈ O1, k < w.heap.size ∧ k ∉ bs.filterMap Prod.fst) (hd : ∀ D ∈ z.ds, D ∈ O1) : St z O1 w bs :=
  ⟨h.below, h.own, h.nd, hO, h.dsn, fun D hD => ⟨hd D hD, (h.dfs D hD).2⟩⟩
/-- said from here on -/
theorem St.re (h : St z O0 w bs) : St ⟨w, bs.filterMap Prod.fst, []⟩ O0 w bs :=
  ⟨Loc.refl _ _, fun p hp b hb => ⟨.inl (mem_keys.2 ⟨p, hp, hb⟩), (h.own p hp b hb).2⟩, h.nd, h.dj, List.nodup_nil, fun _ h => by cases h⟩
/-- and from the old beginning again -/
theorem St.back {w1 : World} {K1 : List Nat} (h : St ⟨w1, K1, []⟩ O0 w bs) (hl : Loc z.K z.w w1) (hK : ∀ k ∈ K1, k ∈ z.K ∨ z.w.heap.size ≤ k) (hdn : z.ds.Nodup)
    (hd : ∀ D ∈ z.ds, D ∈ O0 ∧ (D ∈ z.K ∨ z.w.heap.size ≤ D) ∧ w.heap[D]? = some (.deferred (some []))) : St z O0 w bs :=
  ⟨hl.trans' h.below hK, fun p hp b hb => ⟨(h.own p hp b hb).1.elim (hK b) fun h1 => .inr (Nat.le_trans hl.size h1), (h.own p hp b hb).2⟩, h.nd, h.dj, hdn, hd⟩
/-- what is no longer spoken of is let go -/
theorem St.sub {bs' : Ents} (h : St z O0 w bs) (hb : bs'.Sublist bs) : St z O0 w bs' ∧ Step (ks bs O0) w (ks bs' O0) w :=
  ⟨⟨h.below, fun p hp => h.own p (hb.subset hp), (hb.filterMap _).nodup h.nd, fun k hk => ⟨(h.dj k hk).1, fun hm => (h.dj k hk).2 ((hb.filterMap _).subset hm)⟩, h.dsn, h.dfs⟩,
   Step.sub fun k hk => (mem_ks.1 hk).elim (fun hm => mem_ks.2 (.inl ((hb.filterMap _).subset hm))) fun hm => mem_ks.2 (.inr hm)⟩
/-- the marks are taken up -/
theorem St.close {w0 : World} {K0 : List Nat} : ∀ {ds : List Nat} {w : World}, St ⟨w0, K0, ds⟩ O0 w bs → ∃ w', Closes ds w w' ∧ St ⟨w0, K0, []⟩ O0 w' bs ∧ Step (ks bs O0) w (ks bs O0) w'
  | [], w, h => ⟨w, rfl, h, Step.refl _ _⟩
  | D :: ds, w, h => by
    obtain ⟨h1, h2, h3⟩ := h.dfs D (by simp)
    have hlt := h.lt0 D h1
    have hn := List.nodup_cons.1 h.dsn
    have hl : Loc [D] w (w.putObj D (.deferred none)) := ⟨rfl, rfl, rfl, by simp, fun k hk hn => World.putObj_heap_other (by simpa using hn), Nat.le_refl _⟩
    have h4 : St ⟨w0, K0, ds⟩ O0 w bs := ⟨h.below, h.own, h.nd, h.dj, hn.2, fun E hE => h.dfs E (List.mem_cons_of_mem _ hE)⟩
    have h5 : St ⟨w0, K0, ds⟩ O0 (w.putObj D (.deferred none)) bs := h4.loc hl (by rintro k hk; simp at hk; subst hk; exact ⟨(h.dj _ h1).2, h2, hn.1⟩)
    obtain ⟨w', hc, hs, hp⟩ := h5.close
    exact ⟨w', ⟨h3, hc⟩, hs, (Step.of_loc hl (by rintro k hk; simp at hk; subst hk; exact mem_ks.2 (.inr h1)) (fun k hk => .inl hk)).trans hp⟩
end

def updP (ρ : Env) : List Nat → List Value → Env
  | p :: ps, v :: vs => updP (upd ρ p v) ps vs
  | _, _ => ρ
theorem isAct_round {n : Nat} : ∀ (ps : List Nat) (vs : List Value) {ρ : Env} {t : Array Value}, IsAct n ρ { tmps := t, defers := [] } → ps.all (· < n) = true →
    IsAct n (updP ρ ps vs) { tmps := (ps.zip vs).foldl (fun t (p, v) => t.setIfInBounds p v) t, defers := [] }
  | [], vs, ρ, t, h, _ => by cases vs <;> exact h
  | p :: ps, [], ρ, t, h, _ => h
  | p :: ps, v :: vs, ρ, t, h, hp => by
    simp only [List.all_cons, Bool.and_eq_true, decide_eq_true_eq] at hp
    have := h.put (d := some p) (by simpa using hp.1) v
    exact isAct_round ps vs (ρ := upd ρ p v) (t := t.setIfInBounds p v) (by simpa [Act.put, updO] using this) hp.2

theorem isAct_f {n : Nat} {ρ : Env} {a : Act} (h : IsAct n ρ a) : IsAct n ⟨ρ.f, []⟩ { tmps := a.tmps, defers := [] } := ⟨h.size, rfl, h.get⟩

/-- how a round is left for good: by a return (none), or out of a block -/
def exitOf : Option Nat → Exit
  | none => .ret
  | some id => .exit id
def codeOf : Option Nat → Code
  | none => .ret
  | some id => .exit id

section rule
variable {P : Program} {n : Nat} {Q : Post} {ρ : Env} {w : World} {z : Zx} {O0 : List Nat} {bs : Ents}
variable {α σ : Type} {g : Operand} {ps : List Nat} {assign body : Code} {f : FuncId} {caps : List Value} {enc : α → World → List Nat → List Value → Prop} {L : List α}
/-- what is known of the loop's own between two rounds; E: what the iterator and the loop's machinery own -/
structure Core (bs : Ents) (O0 : List Nat) (w : World) (z : Zx) (bsF : σ → Ents) (fct : σ → World → List Nat → Prop) (E : List Nat) (s : σ) (w' : World) : Prop where
  st : St z (E ++ O0) w' (bsF s)
  ch : Step (ks bs O0) w (ks (bsF s) (E ++ O0)) w'
  fc : fct s w' (ks (bsF s) (E ++ O0))

theorem Core.loc {bsF : σ → Ents} {fct : σ → World → List Nat → Prop} (hfs : ∀ s w O w' O', Step O w O' w' → fct s w O → fct s w' O') {K K' F : List Nat} {s : σ} {w' w'' : World} (h : Core bs O0 w z bsF fct (K ++ F) s w')
    (hK : ∀ k ∈ K, k ∉ ks (bsF s) (F ++ O0)) (hz : ∀ k ∈ K, k ∈ z.K ∨ z.w.heap.size ≤ k) (hds : ∀ D ∈ z.ds, D ∈ F ++ O0) (hl : Loc K w' w'') (hg : Grow K K' w' w'') : Core bs O0 w z bsF fct (K' ++ F) s w'' := by
  have h1 : St z (K ++ F ++ O0) w'' (bsF s) := h.st.loc hl fun k hk => ⟨fun hm => hK k hk (mem_ks.2 (.inl hm)), hz k hk, fun hm => hK k hk (mem_ks.2 (.inr (hds k hm)))⟩
  have h2 : St z (K' ++ F ++ O0) w'' (bsF s) := by
    refine h1.others (fun k hk => ?_) (fun D hD => ?_)
    · rw [List.append_assoc] at hk
      rcases List.mem_append.1 hk with hk | hk
      · refine ⟨hg.lt k hk, fun hm => ?_⟩
        rcases hg.new k hk with h5 | h5
        · exact hK k h5 (mem_ks.2 (.inl hm))
        · obtain ⟨p, hp, e⟩ := mem_keys.1 hm
          have := h.st.lt hp e
          omega
      · exact h1.dj k (by rw [List.append_assoc]; exact List.mem_append_right _ hk)
    · rw [List.append_assoc]; exact List.mem_append_right _ (hds D hD)
  have hst : Step (ks (bsF s) (K ++ F ++ O0)) w' (ks (bsF s) (K' ++ F ++ O0)) w'' := Step.of_loc hl (fun k hk => mem_ks.2 (.inr (by simp [hk]))) fun k hk => by
    rcases mem_ks.1 hk with hk | hk
    · exact .inl (mem_ks.2 (.inl hk))
    · rw [List.append_assoc] at hk
      rcases List.mem_append.1 hk with hk | hk
      · rcases hg.new k hk with h | h
        · exact .inl (mem_ks.2 (.inr (by simp [h])))
        · exact .inr h
      · exact .inl (mem_ks.2 (.inr (by rw [List.append_assoc]; exact List.mem_append_right _ hk)))
  exact ⟨h2, h.ch.trans hst, hfs _ _ _ _ _ hst h.fc⟩

/-- the loop over an iterator: s tells what the loop's own holds; tl: what is still to come; tx: how it is left -/
theorem Wp_rangeFunc (hs : St z O0 w bs) (hv : ev ρ g = .func (.func f) #[] caps.toArray) (hcall : ∀ (args : Array Value) (w : World), (callFunc f args).run P w = .ok (.enter f args) w) (it : IterF P w (ks bs O0) f caps enc L)
    (hps : ps.all (· < n) = true) (hlen : ∀ {x w O vs}, enc x w O vs → vs.length = ps.length) (henc : ∀ {x w O w' O' vs}, Step O w O' w' → enc x w O vs → enc x w' O' vs)
    (bsF : σ → Ents) (fct : σ → World → List Nat → Prop) (hfs : ∀ s w O w' O', Step O w O' w' → fct s w O → fct s w' O') (tl : σ → List α → Prop) (xs : List (Option Nat)) (tx : Option Nat → σ → Prop)
    (s0 : σ) (hb0 : bsF s0 = bs) (hf0 : fct s0 w (ks bs O0)) (ht0 : tl s0 L)
    (round : ∀ l E s x rest w' vs za, za.ds = [] → St za (E ++ O0) w' (bsF s) → Step (ks bs O0) w (ks (bsF s) (E ++ O0)) w' → fct s w' (ks (bsF s) (E ++ O0)) → tl s (x :: rest) → enc x w' (ks (bsF s) (E ++ O0)) vs →
      Wp P (some l) n assign (thenE (fun ρ' w2 => ∃ bs2, St za (E ++ O0) w2 bs2 ∧ ∀ w3 zb (RQ : Post), zb.ds = [] → St zb (E ++ O0) w3 bs2 → Step (ks bs2 (E ++ O0)) w2 (ks bs2 (E ++ O0)) w3 →
          (∀ s' ρ' w4, St zb (E ++ O0) w4 (bsF s') → Step (ks bs O0) w (ks (bsF s') (E ++ O0)) w4 → fct s' w4 (ks (bsF s') (E ++ O0)) → tl s' rest → RQ .normal ρ' w4) →
          (∀ e s' ρ' w4, e ∈ xs → St zb (E ++ O0) w4 (bsF s') → Step (ks bs O0) w (ks (bsF s') (E ++ O0)) w4 → fct s' w4 (ks (bsF s') (E ++ O0)) → tx e s' → RQ (exitOf e) ρ' w4) →
          Wp P (some l) n body RQ ρ' w3) (fun _ _ _ => False)) (updP ⟨ρ.f, []⟩ ps vs) w')
    (done : ∀ D s w', St ⟨z.w, z.K, D :: z.ds⟩ (D :: O0) w' (bsF s) → Step (ks bs O0) w (ks (bsF s) (D :: O0)) w' → fct s w' (ks (bsF s) (D :: O0)) → tl s [] → Q .normal ⟨ρ.f, D :: ρ.ds⟩ w')
    (stop : ∀ e D s w', e ∈ xs → St ⟨z.w, z.K, D :: z.ds⟩ (D :: O0) w' (bsF s) → Step (ks bs O0) w (ks (bsF s) (D :: O0)) w' → fct s w' (ks (bsF s) (D :: O0)) → tx e s → Q (exitOf e) ⟨ρ.f, D :: ρ.ds⟩ w') :
    Wp P none n (.rangeFunc g ps.toArray assign body) Q ρ w := by
  subst hb0
  unfold Wp
  intro a ha
  refine wpIn_rangeFunc ?_
  intro fn hfn
  obtain ⟨rec, hrec⟩ : ∃ rec : LoopState → Option Code → Loop, rec = fun st pe => { state := st, pending := pe, fn, tmps := a.tmps, params := ps.toArray, assign, body, defers := w.heap.size } := ⟨_, rfl⟩
  obtain ⟨w1, hw1⟩ : ∃ w1, (w.alloc (.deferred (some []))).alloc (.loop (rec .ready none)) = w1 := ⟨_, rfl⟩
  have hx1 : Ext w w1 := by rw [← hw1]; exact (Ext.alloc w _).trans (Ext.alloc _ _)
  have hsz : w1.heap.size = w.heap.size + 2 := by rw [← hw1]; simp
  have hl1 : w1.heap[w.heap.size + 1]? = some (.loop (rec .ready none)) := by
    rw [← hw1]; have := heap_alloc_new (w.alloc (.deferred (some []))) (.loop (rec .ready none)); simpa using this
  have hd1 : w1.heap[w.heap.size]? = some (.deferred (some [])) := by
    rw [← hw1, heap_alloc_old _ _ _ (by simp)]; exact heap_alloc_new w _
  obtain ⟨zD, hzD⟩ : ∃ zD : Zx, zD = ⟨z.w, z.K, w.heap.size :: z.ds⟩ := ⟨_, rfl⟩
  obtain ⟨F, hF⟩ : ∃ F : List Nat, F = [w.heap.size + 1, w.heap.size] := ⟨_, rfl⟩
  have hmF : ∀ k, k ∈ F ↔ k = w.heap.size + 1 ∨ k = w.heap.size := fun k => by rw [hF]; simp
  have hzds : ∀ D ∈ zD.ds, D ∈ F ++ O0 := fun D hD => by
    rw [hzD] at hD
    rcases List.mem_cons.1 hD with e | hD
    · exact List.mem_append_left _ ((hmF D).2 (.inr e))
    · exact List.mem_append_right _ (hs.dfs D hD).1
  have hzw : z.w.heap.size ≤ w.heap.size := hs.below.size
  -- the loop's invariant
  obtain ⟨J0, hJ0⟩ : ∃ J0 : (LoopState × Option Code) → List Nat → List Nat → World → σ → Prop, J0 = fun st O K w' s => O = ks (bsF s) (F ++ O0) ∧ (∀ k ∈ K, w.heap.size + 2 ≤ k) ∧ Core (bsF s0) O0 w zD bsF fct (K ++ F) s w' ∧
      w'.heap[w.heap.size + 1]? = some (.loop (rec st.1 st.2)) := ⟨_, rfl⟩
  have hJ0ab : ∀ {st : LoopState × Option Code} {O K K' : List Nat} {w' w'' : World} {s : σ}, J0 st O K w' s → (∀ k ∈ K, k ∉ O) → Loc K w' w'' → Grow K K' w' w'' → J0 st O K' w'' s := by
    intro st O K K' w' w'' s h hKO hl hg
    rw [hJ0] at h ⊢
    obtain ⟨h1, h2, h3, h4⟩ := h
    have hsz' : w.heap.size + 2 ≤ w'.heap.size := by
      have := h3.st.lt0 (w.heap.size + 1) (by simp [hF]); omega
    refine ⟨h1, fun k hk => (hg.new k hk).elim (h2 k) fun h => by omega, h3.loc hfs (fun k hk => h1 ▸ hKO k hk) (fun k hk => .inr ?_) hzds hl hg, ?_⟩
    · have := h2 k hk; rw [hzD]; simp only; omega
    · rw [hl.block _ (h3.st.lt0 _ (by simp [hF])) fun hm => by have := h2 _ hm; omega]; exact h4
  have hst0 : St z O0 w1 (bsF s0) := hs.call hx1
  have hcore1 : Core (bsF s0) O0 w zD bsF fct ([] ++ F) s0 w1 := by
    have h1 : St zD ([] ++ F ++ O0) w1 (bsF s0) := by
      refine ⟨by rw [hzD]; exact hst0.below, by rw [hzD]; exact hst0.own, hst0.nd, fun k hk => ?_, ?_, fun D hD => ?_⟩
      · rw [List.nil_append] at hk
        rcases List.mem_append.1 hk with hk | hk
        · have hk' := (hmF k).1 hk
          refine ⟨by omega, fun hm => ?_⟩
          obtain ⟨p, hp, e⟩ := mem_keys.1 hm
          have := hs.lt hp e; omega
        · exact hst0.dj k hk
      · rw [hzD]
        exact List.nodup_cons.2 ⟨fun hm => by have := hs.lt0 _ (hs.dfs _ hm).1; omega, hs.dsn⟩
      · refine ⟨by rw [List.nil_append]; exact hzds D hD, ?_⟩
        rw [hzD] at hD ⊢
        rcases List.mem_cons.1 hD with e | hD
        · subst e; exact ⟨.inr hzw, hd1⟩
        · exact (hst0.dfs D hD).2
    have h2 : Step (ks (bsF s0) O0) w (ks (bsF s0) ([] ++ F ++ O0)) w1 := Step.of_loc (K := []) (.of_ext hx1) (by simp) fun k hk => by
      rw [List.nil_append] at hk
      rcases mem_ks.1 hk with hk | hk
      · exact .inl (mem_ks.2 (.inl hk))
      · rcases List.mem_append.1 hk with hk | hk
        · have := (hmF k).1 hk; exact .inr (by omega)
        · exact .inl (mem_ks.2 (.inr hk))
    exact ⟨h1, h2, hfs _ _ _ _ _ h2 hf0⟩
  refine ⟨w.heap.size + 1, [dcol w.heap.size], w1, { target := .fn (.func f) caps.toArray, args := #[.func (.yield (w.heap.size + 1)) #[] #[]] }, w1, f,
    #[.func (.yield (w.heap.size + 1)) #[] #[]] ++ caps.toArray, w1, ?_, ?_, fun _ _ => trivial, ?_, fun h => by simp [FW] at h, ?_⟩
  · rw [← hw1, hrec]; exact run_enterLoop_outer _ _ _ _ _
  · simp only [resolve, ha.eval, hv]
    simp [go_sem, ev]
  · simp [invoke, go_sem, hcall]
  · have hfn' := it w1 (ks (bsF s0) (F ++ O0)) (by have := hcore1.ch; simpa using this) (fun k hk => by have := hcore1.st.ltw k (by simpa using hk); exact this) (w.heap.size + 1)
      (fun pre w' O K => ∃ s rest, L = pre ++ rest ∧ J0 (.ready, none) O K w' s ∧ tl s rest)
      (fun _ w' O K => ∃ s e, e ∈ xs ∧ J0 (.done, some (codeOf e)) O K w' s ∧ tx e s)
      ⟨fun ⟨s, rest, h1, h2, h3⟩ hk hl hg => ⟨s, rest, h1, hJ0ab h2 hk hl hg, h3⟩⟩ ⟨fun ⟨s, e, h1, h2, h3⟩ hk hl hg => ⟨s, e, h1, hJ0ab h2 hk hl hg, h3⟩⟩
      ?_ ⟨s0, L, rfl, by rw [hJ0]; exact ⟨rfl, by simp, hcore1, hl1⟩, ht0⟩
    · -- behind the iterator
      unfold Fn at hfn'
      have hcl : (#[Value.func (.yield (w.heap.size + 1)) #[] #[]] ++ caps.toArray) = (Value.func (.yield (w.heap.size + 1)) #[] #[] :: caps).toArray := by simp
      rw [hcl]
      refine CallsIn.mono hfn' ?_
      rintro e w2 ⟨v, rfl, O2, h⟩
      have fin : ∀ {st : LoopState × Option Code} {s : σ}, st.1 ≠ .busy → J0 st O2 [] w2 s → ∃ w3, (Instr.endLoop (w.heap.size + 1)).run P w2 = .ok st.2 w3 ∧
          St ⟨z.w, z.K, w.heap.size :: z.ds⟩ (w.heap.size :: O0) w3 (bsF s) ∧ Step (ks (bsF s0) O0) w (ks (bsF s) (w.heap.size :: O0)) w3 ∧ fct s w3 (ks (bsF s) (w.heap.size :: O0)) := by
        intro st s hb h
        rw [hJ0] at h
        obtain ⟨h1, h2, h3, h4⟩ := h
        have hrun := run_endLoop (P := P) h4 (by rw [hrec]; exact hb)
        have hlo : Loc [w.heap.size + 1] w2 (w2.putObj (w.heap.size + 1) (.loop { rec st.1 st.2 with state := .exhausted })) := ⟨rfl, rfl, rfl, by simp, fun k hk hn => World.putObj_heap_other (by simpa using hn), Nat.le_refl _⟩
        have h5 := h3.st.loc hlo (by
          rintro k hk
          simp at hk; subst hk
          exact ⟨(h3.st.dj _ (by simp [hF])).2, .inr (by rw [hzD]; simp only; omega), fun hm => by
            rw [hzD] at hm
            rcases List.mem_cons.1 hm with e | hm
            · omega
            · have := hs.lt0 _ (hs.dfs _ hm).1; omega⟩)
        have h6 : St ⟨z.w, z.K, w.heap.size :: z.ds⟩ (w.heap.size :: O0) (w2.putObj (w.heap.size + 1) (.loop { rec st.1 st.2 with state := .exhausted })) (bsF s) := by
          rw [← hzD]
          refine h5.others (fun k hk => h5.dj k ?_) fun D hD => ?_
          · rcases List.mem_cons.1 hk with e | hk
            · subst e; simp [hF]
            · simp [hk]
          · have := hzds D hD
            rw [hF] at this
            simp only [List.cons_append, List.nil_append, List.mem_cons] at this
            rcases this with e | e | e
            · exfalso
              rw [hzD] at hD
              rcases List.mem_cons.1 hD with e' | hD
              · omega
              · have := hs.lt0 _ (hs.dfs _ hD).1; omega
            · subst e; simp
            · simp [e]
        have h7 : Step (ks (bsF s) ([] ++ F ++ O0)) w2 (ks (bsF s) (w.heap.size :: O0)) (w2.putObj (w.heap.size + 1) (.loop { rec st.1 st.2 with state := .exhausted })) := Step.of_loc hlo (by
          rintro k hk
          simp at hk; subst hk
          exact mem_ks.2 (.inr (by simp [hF]))) fun k hk => .inl (by
          rcases mem_ks.1 hk with hk | hk
          · exact mem_ks.2 (.inl hk)
          · refine mem_ks.2 (.inr ?_)
            rcases List.mem_cons.1 hk with e | hk
            · subst e; simp [hF]
            · simp [hk])
        refine ⟨_, ?_, h6, h3.ch.trans h7, hfs _ _ _ _ _ h7 h3.fc⟩
        rw [hrun, hrec]
      have hav : ∀ D, IsAct n (⟨ρ.f, D :: ρ.ds⟩ : Env) { a with defers := [dcol D] ++ a.defers } := fun D => ⟨ha.size, by simp [ha.defers], ha.get⟩
      rcases h with ⟨s, rest, h1, h2, h3⟩ | ⟨pre, s, e, h1, h2, h3⟩
      · have hr : rest = [] := by simpa using h1
        subst hr
        obtain ⟨w3, h4, h5, h6, h7⟩ := fin (by simp) h2
        exact ⟨none, w3, h4, (fun _ h => by cases h), _, hav _, done _ s w3 h5 h6 h7 h3⟩
      · obtain ⟨w3, h4, h5, h6, h7⟩ := fin (by simp) h2
        refine ⟨some (codeOf e), w3, h4, ?_⟩
        have h8 := stop e _ s w3 h1 h5 h6 h7 h3
        cases e with
        | none => exact wpIn_ret ⟨(fun _ h => by cases h), _, hav _, h8⟩
        | some id => exact wpIn_exit ⟨(fun _ h => by cases h), _, hav _, h8⟩
    · -- one round
      rintro pre x w' O K vs ⟨tail, hpre⟩ ⟨s, rest, h1, h2, h3⟩ hK hO hen
      rw [hJ0] at h2
      obtain ⟨g1, g2, g3, g4⟩ := h2
      have hrest : rest = x :: tail := by
        rw [← hpre] at h1
        simpa using h1.symm
      subst hrest
      subst g1
      have hy := run_yield (P := P) (args := vs.toArray) g4 (by rw [hrec]; simpa using hlen hen)
      rw [hrec] at hy
      refine ⟨fn, _, assign, body, hy, roundIn_of_wpIn hfn ?_⟩
      have hen' : enc x w' (ks (bsF s) (K ++ F ++ O0)) vs := henc (Step.sub fun k hk => by
        rcases mem_ks.1 hk with hk | hk
        · exact List.mem_append_right _ (mem_ks.2 (.inl hk))
        · rw [List.append_assoc] at hk
          rcases List.mem_append.1 hk with hk | hk
          · exact List.mem_append_left _ hk
          · exact List.mem_append_right _ (mem_ks.2 (.inr hk))) hen
      have hza := g3.st.re
      have hrd := round (w.heap.size + 1) (K ++ F) s x tail w' vs _ rfl hza g3.ch g3.fc h3 hen'
      have hact := isAct_round ps vs (isAct_f ha) hps
      unfold Wp at hrd
      have hzip : (ps.toArray.zip vs.toArray).foldl (fun t (p : Nat × Value) => t.setIfInBounds p.1 p.2) a.tmps = (ps.zip vs).foldl (fun t (p, v) => t.setIfInBounds p v) a.tmps := by
        rw [← Array.foldl_toList, Array.toList_zip]
      rw [hzip]
      have hlF : w.heap.size + 1 ∈ K ++ F ++ O0 := by simp [hF]
      refine wpIn_mono (hrd _ hact) ?_
      rintro e a2 w2 ⟨hp, ρ2, ha2, hq⟩
      cases e <;> try exact hq.elim
      obtain ⟨bs2, hs2, hq⟩ := hq
      -- the record is as it was
      have hl2 : w2.heap[w.heap.size + 1]? = some (.loop (rec .ready none)) := by
        rw [hs2.below.block _ (by have := g3.st.lt0 _ hlF; exact this) (g3.st.dj _ hlF).2]; exact g4
      have hbr := run_beginRound (P := P) hl2 (by rw [hrec])
      refine ⟨_, hbr, ?_⟩
      have hlo2 : Loc [w.heap.size + 1] w2 (w2.putObj (w.heap.size + 1) (.loop { rec .ready none with state := .busy })) := ⟨rfl, rfl, rfl, by simp, fun k hk hn => World.putObj_heap_other (by simpa using hn), Nat.le_refl _⟩
      have hs2' := hs2.re
      have hs3 : St ⟨w2.putObj (w.heap.size + 1) (.loop { rec .ready none with state := .busy }), bs2.filterMap Prod.fst, []⟩ (K ++ F ++ O0) (w2.putObj (w.heap.size + 1) (.loop { rec .ready none with state := .busy })) bs2 := by
        refine ⟨Loc.refl _ _, fun p hp b hb => ⟨.inl (mem_keys.2 ⟨p, hp, hb⟩), ?_⟩, hs2.nd, fun k hk => ⟨by simpa using (hs2.dj k hk).1, (hs2.dj k hk).2⟩, List.nodup_nil, fun _ h => by cases h⟩
        rw [hlo2.block b (hs2.lt hp hb) (by simp; rintro rfl; exact (hs2.dj _ hlF).2 (mem_keys.2 ⟨p, hp, hb⟩))]
        exact (hs2.own p hp b hb).2
      have hst3 : Step (ks bs2 (K ++ F ++ O0)) w2 (ks bs2 (K ++ F ++ O0)) (w2.putObj (w.heap.size + 1) (.loop { rec .ready none with state := .busy })) :=
        Step.of_loc hlo2 (by rintro k hk; simp at hk; subst hk; exact mem_ks.2 (.inr hlF)) fun k hk => .inl hk
      obtain ⟨w3, hw3⟩ : ∃ w3, w3 = w2.putObj (w.heap.size + 1) (.loop { rec .ready none with state := .busy }) := ⟨_, rfl⟩
      rw [← hw3] at hs3 hst3 hlo2 ⊢
      have hl3 : w3.heap[w.heap.size + 1]? = some (.loop { rec .ready none with state := .busy }) := by
        rw [hw3]; exact World.putObj_heap_same (hs2.lt0 _ hlF)
      -- what the round's end makes of it
      have ends : ∀ (jump : Option Code) (s' : σ) (w4 : World), St ⟨w3, bs2.filterMap Prod.fst, []⟩ (K ++ F ++ O0) w4 (bsF s') → Step (ks (bsF s0) O0) w (ks (bsF s') (K ++ F ++ O0)) w4 → fct s' w4 (ks (bsF s') (K ++ F ++ O0)) →
          ∃ w5, (Instr.endRound (w.heap.size + 1) jump).run P w4 = .ok (.bool jump.isNone) w5 ∧ Loc (ks (bsF s) (F ++ O0)) w' w5 ∧ Grow (ks (bsF s) (F ++ O0)) (ks (bsF s') (F ++ O0)) w' w5 ∧
            J0 (if jump.isNone then .ready else .done, jump) (ks (bsF s') (F ++ O0)) K w5 s' := by
        intro jump s' w4 e1 e2 e3
        have hl4 : w4.heap[w.heap.size + 1]? = some (.loop { rec .ready none with state := .busy }) := by
          rw [e1.below.block _ (by have := hs3.lt0 _ hlF; exact this) (hs3.dj _ hlF).2]; exact hl3
        have hrun := run_endRound (P := P) jump hl4
        obtain ⟨w5, hw5⟩ : ∃ w5, w5 = w4.putObj (w.heap.size + 1) (.loop (rec (if jump.isNone then .ready else .done) jump)) := ⟨_, rfl⟩
        have hlo5 : Loc [w.heap.size + 1] w4 w5 := by rw [hw5]; exact ⟨rfl, rfl, rfl, by simp, fun k hk hn => World.putObj_heap_other (by simpa using hn), Nat.le_refl _⟩
        -- from w' to w5
        have hk2 : ∀ k ∈ bs2.filterMap Prod.fst, k ∈ (bsF s).filterMap Prod.fst ∨ w'.heap.size ≤ k := fun k hk => by
          obtain ⟨p, hp, e⟩ := mem_keys.1 hk
          exact (hs2.own p hp k e).1
        have L1 : Loc (ks (bsF s) (F ++ O0)) w' w2 := hs2.below.sub fun k hk => .inl (mem_ks.2 (.inl hk))
        have L2 : Loc (ks (bsF s) (F ++ O0)) w' w3 := L1.trans' hlo2 fun k hk => .inl (by simp at hk; subst hk; exact mem_ks.2 (.inr (by simp [hF])))
        have L3 : Loc (ks (bsF s) (F ++ O0)) w' w4 := L2.trans' e1.below fun k hk => (hk2 k hk).imp (fun h => mem_ks.2 (.inl h)) id
        have L4 : Loc (ks (bsF s) (F ++ O0)) w' w5 := L3.trans' hlo5 fun k hk => .inl (by simp at hk; subst hk; exact mem_ks.2 (.inr (by simp [hF])))
        have hsz2 : w'.heap.size ≤ w2.heap.size := hs2.below.size
        have hsz3 : w3.heap.size = w2.heap.size := by rw [hw3]; simp
        have keys' : ∀ k ∈ (bsF s').filterMap Prod.fst, k ∈ (bsF s).filterMap Prod.fst ∨ w'.heap.size ≤ k := fun k hk => by
          obtain ⟨p, hp, e⟩ := mem_keys.1 hk
          rcases (e1.own p hp k e).1 with h | h
          · exact hk2 k h
          · exact .inr (by simp only at h; omega)
        have hG : Grow (ks (bsF s) (F ++ O0)) (ks (bsF s') (F ++ O0)) w' w5 := ⟨fun k hk => by
            rcases mem_ks.1 hk with hk | hk
            · exact (keys' k hk).imp (fun h => mem_ks.2 (.inl h)) id
            · exact .inl (mem_ks.2 (.inr hk)), fun k hk => by
            have : k < w4.heap.size := e1.ltw k (by
              rcases mem_ks.1 hk with hk | hk
              · exact mem_ks.2 (.inl hk)
              · exact mem_ks.2 (.inr (by rw [List.append_assoc]; exact List.mem_append_right _ hk)))
            have := hlo5.size; omega⟩
        have hzk : ∀ k ∈ (bsF s).filterMap Prod.fst, k ∈ zD.K ∨ zD.w.heap.size ≤ k := fun k hk => by
          obtain ⟨p, hp, e⟩ := mem_keys.1 hk
          exact (g3.st.own p hp k e).1
        have hzs : zD.w.heap.size ≤ w.heap.size := by rw [hzD]; exact hzw
        have hzw' : zD.w.heap.size ≤ w'.heap.size := g3.st.below.size
        have hlds : w.heap.size + 1 ∉ zD.ds := fun hm => by
          rw [hzD] at hm
          rcases List.mem_cons.1 hm with e | hm
          · omega
          · have := hs.lt0 _ (hs.dfs _ hm).1; omega
        have B3 : Loc zD.K zD.w w3 := (g3.st.below.trans' hs2.below hzk).trans' hlo2 fun k hk => by simp at hk; subst hk; exact .inr (by omega)
        have S4 : St zD (K ++ F ++ O0) w4 (bsF s') := e1.back B3 (fun k hk => by
          rcases hk2 k hk with h | h
          · exact hzk k h
          · exact .inr (by omega)) g3.st.dsn fun D hD => by
          obtain ⟨d1, d2, d3⟩ := g3.st.dfs D hD
          refine ⟨d1, d2, ?_⟩
          have hlt := g3.st.lt0 D d1
          rw [e1.below.block D (by rw [hsz3]; omega) (hs2.dj D d1).2, hlo2.block D (by omega) (by simp; rintro rfl; exact hlds hD), hs2.below.block D hlt (g3.st.dj D d1).2]
          exact d3
        have S5 : St zD (K ++ F ++ O0) w5 (bsF s') := S4.loc hlo5 (by
          rintro k hk; simp at hk; subst hk
          exact ⟨(e1.dj _ hlF).2, .inr (by omega), hlds⟩)
        have P5 : Step (ks (bsF s') (K ++ F ++ O0)) w4 (ks (bsF s') (K ++ F ++ O0)) w5 := Step.of_loc hlo5 (by rintro k hk; simp at hk; subst hk; exact mem_ks.2 (.inr hlF)) fun k hk => .inl hk
        refine ⟨w5, ?_, L4, hG, ?_⟩
        · rw [hrun, hw5, hrec]
        · rw [hJ0]
          refine ⟨rfl, g2, ⟨S5, e2.trans P5, hfs _ _ _ _ _ P5 e3⟩, ?_⟩
          rw [hw5]; exact World.putObj_heap_same (by have := e1.lt0 _ hlF; exact this)
      have hbody := hq w3 _ (fun e _ w4 => match e with
          | .normal => ∃ s', St ⟨w3, bs2.filterMap Prod.fst, []⟩ (K ++ F ++ O0) w4 (bsF s') ∧ Step (ks (bsF s0) O0) w (ks (bsF s') (K ++ F ++ O0)) w4 ∧ fct s' w4 (ks (bsF s') (K ++ F ++ O0)) ∧ tl s' tail
          | e => ∃ e', e = exitOf e' ∧ e' ∈ xs ∧ ∃ s', St ⟨w3, bs2.filterMap Prod.fst, []⟩ (K ++ F ++ O0) w4 (bsF s') ∧ Step (ks (bsF s0) O0) w (ks (bsF s') (K ++ F ++ O0)) w4 ∧ fct s' w4 (ks (bsF s') (K ++ F ++ O0)) ∧ tx e' s') rfl hs3 hst3
          (fun s' _ w4 e1 e2 e3 e4 => ⟨s', e1, e2, e3, e4⟩) (fun e s' _ w4 he e1 e2 e3 e4 => by
            cases e with
            | none => exact ⟨none, rfl, he, s', e1, e2, e3, e4⟩
            | some id => exact ⟨some id, rfl, he, s', e1, e2, e3, e4⟩)
      unfold Wp at hbody
      refine wpIn_mono (hbody a2 ha2) ?_
      rintro e a4 w4 ⟨hp4, ρ4, ha4, hq4⟩
      cases e with
      | normal =>
        obtain ⟨s', e1, e2, e3, e4⟩ := hq4
        obtain ⟨w5, r1, r2, r3, r4⟩ := ends none s' w4 e1 e2 e3
        exact ⟨_, w5, r1, _, r2, r3, .inl ⟨rfl, s', tail, by rw [List.append_assoc]; exact h1, r4, e4⟩⟩
      | ret =>
        obtain ⟨e', hee, he, s', e1, e2, e3, e4⟩ := hq4
        cases e' with
        | some id => cases hee
        | none =>
          obtain ⟨w5, r1, r2, r3, r4⟩ := ends (some .ret) s' w4 e1 e2 e3
          exact ⟨_, w5, r1, _, r2, r3, .inr ⟨rfl, s', none, he, r4, e4⟩⟩
      | exit id =>
        obtain ⟨e', hee, he, s', e1, e2, e3, e4⟩ := hq4
        cases e' with
        | none => cases hee
        | some id' =>
          cases hee
          obtain ⟨w5, r1, r2, r3, r4⟩ := ends (some (.exit id)) s' w4 e1 e2 e3
          exact ⟨_, w5, r1, _, r2, r3, .inr ⟨rfl, s', some id, he, r4, e4⟩⟩
      | goto t => obtain ⟨e', hee, _⟩ := hq4; cases e' <;> cases hee
      | panic c => exact absurd rfl (hp4 c)
      | outgrown => obtain ⟨e', hee, _⟩ := hq4; cases e' <;> cases hee
end rule
/-! models: a list gone through -/
section model
universe u
variable {R : Type} {A : Type u} {x : R} {a : A} {L : List A}
def rng0 (b : (Option R) → A → Option R) (k : (Option R)) : List A → Option R
  | [] => k
  | x :: L => b (rng0 b k L) x
def rng1 {A0 : Type} (b : (A0 → Option R) → A → A0 → Option R) (k : (A0 → Option R)) : List A → A0 → Option R
  | [] => k
  | x :: L => b (rng1 b k L) x
def rng2 {A0 A1 : Type} (b : (A0 → A1 → Option R) → A → A0 → A1 → Option R) (k : (A0 → A1 → Option R)) : List A → A0 → A1 → Option R
  | [] => k
  | x :: L => b (rng2 b k L) x
theorem rng2_nil {A0 A1 : Type} {b : (A0 → A1 → Option R) → A → A0 → A1 → Option R} {k : (A0 → A1 → Option R)} {a0 : A0} {a1 : A1} : rng2 b k [] a0 a1 = k a0 a1 := rfl
theorem rng2_cons {A0 A1 : Type} {b : (A0 → A1 → Option R) → A → A0 → A1 → Option R} {k : (A0 → A1 → Option R)} {a0 : A0} {a1 : A1} : rng2 b k (a :: L) a0 a1 = b (rng2 b k L) a a0 a1 := rfl
theorem rng2_z {A0 A1 : Type} {b : (A0 → A1 → Option R) → A → A0 → A1 → Option R} {k : (A0 → A1 → Option R)} {a0 : A0} {a1 : A1} (h : rng2 b k [] a0 a1 = some x) : k a0 a1 = some x := rng2_nil.symm.trans h
theorem rng2_s {A0 A1 : Type} {b : (A0 → A1 → Option R) → A → A0 → A1 → Option R} {k : (A0 → A1 → Option R)} {a0 : A0} {a1 : A1} (h : rng2 b k (a :: L) a0 a1 = some x) : ∃ sf, sf = rng2 b k L ∧ b sf a a0 a1 = some x := ⟨_, rfl, rng2_cons.symm.trans h⟩
def rng3 {A0 A1 A2 : Type} (b : (A0 → A1 → A2 → Option R) → A → A0 → A1 → A2 → Option R) (k : (A0 → A1 → A2 → Option R)) : List A → A0 → A1 → A2 → Option R
  | [] => k
  | x :: L => b (rng3 b k L) x
theorem rng3_nil {A0 A1 A2 : Type} {b : (A0 → A1 → A2 → Option R) → A → A0 → A1 → A2 → Option R} {k : (A0 → A1 → A2 → Option R)} {a0 : A0} {a1 : A1} {a2 : A2} : rng3 b k [] a0 a1 a2 = k a0 a1 a2 := rfl
theorem rng3_cons {A0 A1 A2 : Type} {b : (A0 → A1 → A2 → Option R) → A → A0 → A1 → A2 → Option R} {k : (A0 → A1 → A2 → Option R)} {a0 : A0} {a1 : A1} {a2 : A2} : rng3 b k (a :: L) a0 a1 a2 = b (rng3 b k L) a a0 a1 a2 := rfl
theorem rng3_z {A0 A1 A2 : Type} {b : (A0 → A1 → A2 → Option R) → A → A0 → A1 → A2 → Option R} {k : (A0 → A1 → A2 → Option R)} {a0 : A0} {a1 : A1} {a2 : A2} (h : rng3 b k [] a0 a1 a2 = some x) : k a0 a1 a2 = some x := rng3_nil.symm.trans h
theorem rng3_s {A0 A1 A2 : Type} {b : (A0 → A1 → A2 → Option R) → A → A0 → A1 → A2 → Option R} {k : (A0 → A1 → A2 → Option R)} {a0 : A0} {a1 : A1} {a2 : A2} (h : rng3 b k (a :: L) a0 a1 a2 = some x) : ∃ sf, sf = rng3 b k L ∧ b sf a a0 a1 a2 = some x := ⟨_, rfl, rng3_cons.symm.trans h⟩
def rng4 {A0 A1 A2 A3 : Type} (b : (A0 → A1 → A2 → A3 → Option R) → A → A0 → A1 → A2 → A3 → Option R) (k : (A0 → A1 → A2 → A3 → Option R)) : List A → A0 → A1 → A2 → A3 → Option R
  | [] => k
  | x :: L => b (rng4 b k L) x
def rng5 {A0 A1 A2 A3 A4 : Type} (b : (A0 → A1 → A2 → A3 → A4 → Option R) → A → A0 → A1 → A2 → A3 → A4 → Option R) (k : (A0 → A1 → A2 → A3 → A4 → Option R)) : List A → A0 → A1 → A2 → A3 → A4 → Option R
  | [] => k
  | x :: L => b (rng5 b k L) x
def rng6 {A0 A1 A2 A3 A4 A5 : Type} (b : (A0 → A1 → A2 → A3 → A4 → A5 → Option R) → A → A0 → A1 → A2 → A3 → A4 → A5 → Option R) (k : (A0 → A1 → A2 → A3 → A4 → A5 → Option R)) : List A → A0 → A1 → A2 → A3 → A4 → A5 → Option R
  | [] => k
  | x :: L => b (rng6 b k L) x
def rng7 {A0 A1 A2 A3 A4 A5 A6 : Type} (b : (A0 → A1 → A2 → A3 → A4 → A5 → A6 → Option R) → A → A0 → A1 → A2 → A3 → A4 → A5 → A6 → Option R) (k : (A0 → A1 → A2 → A3 → A4 → A5 → A6 → Option R)) : List A → A0 → A1 → A2 → A3 → A4 → A5 → A6 → Option R
  | [] => k
  | x :: L => b (rng7 b k L) x
def rng8 {A0 A1 A2 A3 A4 A5 A6 A7 : Type} (b : (A0 → A1 → A2 → A3 → A4 → A5 → A6 → A7 → Option R) → A → A0 → A1 → A2 → A3 → A4 → A5 → A6 → A7 → Option R) (k : (A0 → A1 → A2 → A3 → A4 → A5 → A6 → A7 → Option R)) : List A → A0 → A1 → A2 → A3 → A4 → A5 → A6 → A7 → Option R
  | [] => k
  | x :: L => b (rng8 b k L) x
attribute [irreducible] rng0 rng1 rng2 rng3 rng4 rng5 rng6 rng7 rng8
/-- what is handed out, and what comes behind -/
def yl {α : Type} (x : α) (m : Option (List α)) : Option (List α) := m.map (x :: ·)
theorem yl_elim {α : Type} {x : α} {m : Option (List α)} {L : List α} (h : yl x m = some L) : ∃ L', m = some L' ∧ L = x :: L' := by
  cases m with
  | none => cases h
  | some L' => exact ⟨L', rfl, (Option.some.inj h).symm⟩
end model

/-! the iterator's own walk -/
/-- an iterator as a value -/
def vIt {α : Type} (P : Program) (enc : α → World → List Nat → List Value → Prop) : Vr (List α) :=
  ⟨fun w O v L => ∃ f caps, v = .func (.func f) #[] (List.toArray caps) ∧ (∀ (args : Array Value) (w : World), (callFunc f args).run P w = .ok (.enter f args) w) ∧ IterF P w O f caps enc L,
   fun s ⟨f, caps, h1, h2, h3⟩ => ⟨f, caps, h1, h2, h3.step s⟩⟩
/-- the same, to be carried along -/
def ItR {α : Type} (P : Program) (enc : α → World → List Nat → List Value → Prop) (w : World) (O : List Nat) (v : Value) (L : List α) : Prop := (vIt P enc).vd w O v L
theorem ItR.step {α : Type} {P : Program} {enc : α → World → List Nat → List Value → Prop} {w w' : World} {O O' : List Nat} {v : Value} {L : List α} (h : ItR P enc w O v L) (s : Step O w O' w') : ItR P enc w' O' v L := (vIt P enc).step s h
section iter
variable {P : Program} {ρ : Env} {w : World} {z : Zx} {O : List Nat} {bs : Ents} {α : Type} {J Jx : JP α} {L pre : List α} {a : α} {l : Nat} {enc : α → World → List Nat → List Value → Prop}
structure Itr (J : JP α) (pre : List α) (z : Zx) (O : List Nat) : Prop where
  j : J pre z.w O z.K
  dj : ∀ k ∈ z.K, k ∉ O
theorem Itr.now (h : Itr J pre z O) (hJ : Abides J) (hs : St z O w bs) : J pre w O (bs.filterMap Prod.fst) :=
  hJ.loc h.j h.dj hs.below ⟨fun k hk => by obtain ⟨p, hp, e⟩ := mem_keys.1 hk; exact (hs.own p hp k e).1, fun k hk => by obtain ⟨p, hp, e⟩ := mem_keys.1 hk; exact hs.lt hp e⟩
theorem Itr.fin (h : Itr J pre z O) (hJ : Abides J) (hs : St z O w bs) : J pre w O [] :=
  hJ.loc (h.now hJ hs) (fun k hk hm => (hs.dj k hm).2 hk) (Loc.refl _ _) ⟨(fun _ h => by cases h), fun _ h => by cases h⟩
theorem Itr.start {w : World} (h : J [] w O []) : Itr J [] ⟨w, [], []⟩ O := ⟨h, fun _ h => by cases h⟩
theorem op_yield {d : Option Nat} {ty : TypeId} {pos : String} {aft : Array Edge} {g : Option (Nat × Bool)} {V : Value → World → Prop} {x : Operand} {args : List Operand} {us : Array TypeId} {vs : List Value}
    (hx : ev ρ x = .func (.yield l) #[] #[]) (ha : args.map (ev ρ) = vs) (hY : YieldsTo P enc L l J Jx) (hJ : Abides J) (hI : Itr J pre z O) (hs : St z O w bs) (hL : pre ++ [a] <+: L) (hen : enc a w (ks bs O) vs)
    (kt : ∀ w' O', St ⟨w', bs.filterMap Prod.fst, []⟩ O' w' bs → Step (ks bs O) w (ks bs O') w' → Itr J (pre ++ [a]) ⟨w', bs.filterMap Prod.fst, []⟩ O' → V (.bool true) w')
    (kf : ∀ w' O', St ⟨w', bs.filterMap Prod.fst, []⟩ O' w' bs → Itr Jx (pre ++ [a]) ⟨w', bs.filterMap Prod.fst, []⟩ O' → V (.bool false) w') :
    Run1 P none ρ w ⟨d, .call ⟨.value x, args.toArray, us⟩, ty, pos, aft, g⟩ V := by
  obtain ⟨fn, tmps, assign, body, hy, hR⟩ := hY pre a w O (bs.filterMap Prod.fst) vs hL (hI.now hJ hs) (fun k hk => ⟨hs.ltw k (mem_ks.2 (.inl hk)), fun hm => (hs.dj k hm).2 hk⟩) hs.lt0 hen
  unfold Run1
  rw [Oper.semAt_eq _ _ _ (by simp)]
  have hrun : (execOp (ev ρ) ⟨d, .call ⟨.value x, args.toArray, us⟩, ty, pos, aft, g⟩).run P w = .ok (.round l fn tmps assign body) w := by
    simp only [execOp, resolve, hx]
    subst ha
    simpa [go_sem, invoke] using hy
  rw [hrun]
  simp only
  refine RoundIn.mono hR ?_
  rintro e w' ⟨O', hl, hg, h⟩
  have hS : St ⟨w', bs.filterMap Prod.fst, []⟩ O' w' bs := by
    refine ⟨Loc.refl _ _, fun p hp b hb => ⟨.inl (mem_keys.2 ⟨p, hp, hb⟩), ?_⟩, hs.nd, fun k hk => ⟨hg.lt k hk, fun hm => ?_⟩, List.nodup_nil, fun _ h => by cases h⟩
    · rw [hl.block b (hs.lt hp hb) fun hm => (hs.dj b hm).2 (mem_keys.2 ⟨p, hp, hb⟩)]; exact (hs.own p hp b hb).2
    · rcases hg.new k hk with h1 | h1
      · exact (hs.dj k h1).2 hm
      · obtain ⟨p, hp, e⟩ := mem_keys.1 hm
        have := hs.lt hp e; omega
  have hP : Step (ks bs O) w (ks bs O') w' := Step.of_loc hl (fun k hk => mem_ks.2 (.inr hk)) fun k hk => by
    rcases mem_ks.1 hk with hk | hk
    · exact .inl (mem_ks.2 (.inl hk))
    · exact (hg.new k hk).imp (fun h => mem_ks.2 (.inr h)) id
  have hdj : ∀ k ∈ bs.filterMap Prod.fst, k ∉ O' := fun k hk hm => (hS.dj k hm).2 hk
  rcases h with ⟨rfl, h⟩ | ⟨rfl, h⟩
  · exact ⟨_, rfl, kt w' O' hS hP ⟨h, hdj⟩⟩
  · exact ⟨_, rfl, kf w' O' hS ⟨h, hdj⟩⟩
end iter
end Go.Fx
/- From what an argument reads as in a row to what it reads as here. No program in sight. -/
set_option linter.unusedSimpArgs false
set_option linter.unusedVariables false
namespace Go.Fx
open Go Go.RowKit Go.ChangeShapes

section
variable {H : Type} {enc : TypeId × Value → H} {P : Program} {w : World} {base : Nat} {spare : Nat → Bool} {held : Bool}
/-- no slice longer than memory -/
def SmL {α : Type} (Sm : α → Prop) (xs : List α) : Prop := xs.length ≤ 140737488351232 ∧ ∀ x ∈ xs, Sm x
/-- whatever is read as a datum of type t stands in cells as one of α -/
def Rd {α : Type} (enc : TypeId × Value → H) (P : Program) (w : World) (base : Nat) (spare : Nat → Bool) (held : Bool) (t : TypeId) (q : Rp α) (Sm : α → Prop) : Prop :=
  P.cellsOf t = q.n ∧ ∀ (fuel : Nat) (cs : List Value) (y : DataW H × List MemPlace), DataW.trod enc P w base spare held fuel t cs = some y → ∃ x, q.rd w [] cs x ∧ ((∀ n ∈ y.1.weights P t, n ≤ reachBytes) → Sm x)

theorem wf_inK {k : IntKind} {n : Int} (h : (Lit.int k n).wf = true) : k.min ≤ n ∧ n ≤ k.max := by
  simpa [Lit.wf, IntKind.has] using h
theorem Rd_int {t : TypeId} {k : IntKind} (ht : P.underlying t = some (.int k)) (hc : P.cellsOf t = 1) : Rd enc P w base spare held t (rInt k) (InK k) := by
  refine ⟨hc, fun fuel cs y h => ?_⟩
  obtain ⟨n, rfl, _, hw⟩ := DataW.trod_int ht h
  exact ⟨n, ⟨rfl, wf_inK hw⟩, fun _ => wf_inK hw⟩
theorem ptR_of_cells {α : Type} {q : Rp α} {a : Addr} {cs : List Value} {x : α} (hn : 0 < q.n) (hc : w.cells? base a q.n = some cs) (hr : q.rd w [] cs x) : PtR q w [] a x := by
  obtain ⟨_, hl, hg⟩ := World.cells?_some hc
  have h0 := hg 0 hn
  have hs0 : (cs[0]?).isSome := by simp; omega
  obtain ⟨v0, hv0⟩ := Option.isSome_iff_exists.1 hs0
  rw [hv0] at h0
  have hsp : a.spot = none := by have := World.cell?_spot h0; rwa [Addr.add_zero'] at this
  obtain ⟨b, off, sp⟩ := a
  simp only at hsp; subst hsp
  have hblk : ∃ c T fz, w.heap[b]? = some (.cells c T fz) := by
    simp only [Addr.add_lit, World.cell?, Option.isSome_none, Bool.false_eq_true, if_false] at h0
    cases hb : w.heap[b]? with
    | none => rw [hb] at h0; simp at h0
    | some o => cases o <;> simp [hb] at h0; exact ⟨_, _, _, rfl⟩
  obtain ⟨c, T, fz, hb⟩ := hblk
  have hget : ∀ i, i < q.n → c[off + i]? = cs[i]? := fun i hi => by
    have := hg i hi
    rw [Addr.add_lit, cell_at hb] at this
    exact this
  have hsz : off + q.n ≤ c.size := by
    have := hget (q.n - 1) (by omega)
    rw [List.getElem?_eq_getElem (by omega)] at this
    have := (Array.getElem?_eq_some_iff.1 this).1
    omega
  refine ⟨rfl, ⟨(Array.getElem?_eq_some_iff.1 hb).1, by simp⟩, c, T, fz, hb, hsz, ?_⟩
  have e : (c.toList.drop off).take q.n = cs := by
    apply List.ext_getElem?
    intro i
    rw [List.getElem?_take, List.getElem?_drop]
    split
    · rename_i hi; rw [← hget i hi]; simp
    · rw [List.getElem?_eq_none (by omega)]
  simp only [e]; exact hr
theorem weightsAll_mem {e : TypeId} : ∀ {l : List (DataW H)} {d : DataW H}, d ∈ l → ∀ n ∈ d.weights P e, n ∈ DataW.weightsAll P e l
  | [], _, h, _, _ => by cases h
  | x :: l, d, h, n, hn => by
    rw [DataW.weightsAll]
    rcases List.mem_cons.1 h with e | h
    · subst e; exact List.mem_append_left _ hn
    · exact List.mem_append_right _ (weightsAll_mem h n hn)
theorem Rd_slice {α : Type} {q : Rp α} {Sm : α → Prop} {t e : TypeId} (ht : P.underlying t = some (.slice e)) (hc : P.cellsOf t = 1) (hn : 0 < q.n) (hby : 1 ≤ P.bytesOf e) (R : Rd enc P w base spare held e q Sm) : Rd enc P w base spare held t (rSl q) (SmL Sm) := by
  refine ⟨hc, fun fuel cs y h => ?_⟩
  rcases DataW.trod_slice ht h with ⟨rfl, _⟩ | ⟨a, len, cap, elems, rest, n, _, rfl, hy, hb, hl, hm, hlen, hel, _, _⟩
  · exact ⟨[], ⟨none, 0, rfl, SlR.nil_⟩, fun _ => ⟨by simp, by simp⟩⟩
  · have hex : ∀ i (hi : i < elems.length), ∃ x, PtR q w [] (a.add (i * q.n)) x ∧ ((∀ n ∈ elems[i].1.weights P e, n ≤ reachBytes) → Sm x) := fun i hi => by
      have h1 := hel i (by omega)
      rw [List.getElem?_eq_getElem hi, Option.bind_eq_some_iff] at h1
      obtain ⟨cs, h2, h3⟩ := h1
      obtain ⟨x, hx, hs⟩ := R.2 _ _ _ h3
      rw [R.1] at h2
      exact ⟨x, ptR_of_cells hn h2 hx, hs⟩
    have key : ∀ k, k ≤ elems.length → ∃ xs : List α, xs.length = k ∧ ∀ i (h : i < xs.length) (hi : i < elems.length), PtR q w [] (a.add (i * q.n)) xs[i] ∧ ((∀ n ∈ elems[i].1.weights P e, n ≤ reachBytes) → Sm xs[i]) := by
      intro k
      induction k with
      | zero => exact fun _ => ⟨[], rfl, by simp⟩
      | succ k ih =>
        intro hk
        obtain ⟨xs, h1, h2⟩ := ih (by omega)
        obtain ⟨x, hx⟩ := hex k (by omega)
        refine ⟨xs ++ [x], by simp [h1], fun i hi hi2 => ?_⟩
        by_cases hik : i < xs.length
        · rw [List.getElem_append_left hik]; exact h2 i hik hi2
        · have : i = k := by simp at hi; omega
          subst this
          rw [List.getElem_append_right (by omega)]; simpa [h1] using hx
    obtain ⟨xs, h1, h2⟩ := key elems.length (Nat.le_refl _)
    refine ⟨xs, ⟨some a, cap, by rw [h1, hlen], ⟨by omega, hm, (fun h => by cases h), fun ad he i hi => by cases he; exact (h2 i hi (by omega)).1⟩⟩, fun hw => ?_⟩
    rw [hy] at hw
    simp only [DataW.weights, ht, List.mem_cons, List.mem_append] at hw
    refine ⟨?_, fun x hx => ?_⟩
    · have h3 := hw _ (.inl rfl)
      simp only [List.length_map, reachBytes] at h3
      have h4 : elems.length * 1 ≤ (elems.length + rest.length) * P.bytesOf e := Nat.mul_le_mul (by omega) hby
      rw [h1]; omega
    · obtain ⟨i, hi, rfl⟩ := List.mem_iff_getElem.1 hx
      refine (h2 i hi (by omega)).2 fun n hn' => hw n (.inr (.inl (weightsAll_mem (d := elems[i].1) (List.mem_map.2 ⟨elems[i], List.getElem_mem _, rfl⟩) n hn')))
theorem fld {α : Type} {q : Rp α} {Sm : α → Prop} {fs : Array Field} {cs : List Value} {xs : List (DataW H × List MemPlace)} {n i : Nat} {f : Field} {t : TypeId} {y : DataW H × List MemPlace} (ht : P.underlying t = some (.struct fs))
    (h : ∀ (i : Nat) (f : Field), fs[i]? = some f → DataW.trod enc P w base spare held n f.type ((cs.drop f.offset).take (P.cellsOf f.type)) = xs[i]?) (hl : xs.length = fs.size) (hy : y = (.agg (xs.map (·.1)), xs.flatMap (·.2))) (hf : fs[i]? = some f)
    (R : Rd enc P w base spare held f.type q Sm) : ∃ x, q.rd w [] ((cs.drop f.offset).take q.n) x ∧ ((∀ n ∈ y.1.weights P t, n ≤ reachBytes) → Sm x) := by
  have h1 := h i f hf
  have hi : i < xs.length := by rw [hl]; exact (Array.getElem?_eq_some_iff.1 hf).1
  rw [List.getElem?_eq_getElem hi] at h1
  obtain ⟨x, hx, hs⟩ := R.2 _ _ _ h1
  rw [R.1] at hx
  refine ⟨x, hx, fun hw => hs fun n hn => hw n ?_⟩
  rw [hy]
  simp only [DataW.weights, ht]
  exact DataW.weights_mem_each (j := i) (t := f.type) (d := xs[i].1) (by simp [hf]) (by simp [hi]) n hn
theorem rd_pair {α β : Type} {r : Rp α} {s : Rp β} {O : List Nat} {cs : List Value} {o : Nat} {x : α} {y : β} (h1 : r.rd w O ((cs.drop o).take r.n) x) (h2 : s.rd w O ((cs.drop (o + r.n)).take s.n) y) :
    (rPair r s).rd w O ((cs.drop o).take (rPair r s).n) (x, y) := by
  refine ⟨_, _, ?_, h1, h2⟩
  show (cs.drop o).take (r.n + s.n) = _
  rw [List.take_add, List.drop_drop]
theorem rd_all {α : Type} {q : Rp α} {O : List Nat} {cs : List Value} {x : α} (h : q.rd w O ((cs.drop 0).take q.n) x) (hl : cs.length = q.n) : q.rd w O cs x := by
  rwa [List.drop_zero, List.take_of_length_le (by omega)] at h
end
end Go.Fx
/- Function values that may be nil; append of fresh zeros; slices cut to nothing. No program in sight. -/
set_option linter.unusedSimpArgs false
set_option linter.unusedVariables false
namespace Go.Fx
open Go Go.RowKit

/-! function values that may be nil -/
/-- a call of one -/
def callO {α β : Type} (f : Option (α → Option β)) (x : α) : Option β := f.bind fun g => g x
/-- it is nil, or computes what f says -/
def CallsO1 {α β : Type} (P : Program) (w : World) (O : List Nat) (fv : Value) (A : Vr α) (R : Vr β) (f : Option (α → Option β)) : Prop :=
  (f = none ∧ fv = .nilFunc) ∨ ∃ g fn first cap, f = some g ∧ fv = .func fn first cap ∧ CallsTo1 P w O fv A R g
theorem CallsO1.step {α β : Type} {P : Program} {w w' : World} {O O' : List Nat} {fv : Value} {A : Vr α} {R : Vr β} {f : Option (α → Option β)} (h : CallsO1 P w O fv A R f) (s : Step O w O' w') : CallsO1 P w' O' fv A R f := by
  rcases h with h | ⟨g, fn, first, cap, h1, h2, h3⟩
  · exact .inl h
  · exact .inr ⟨g, fn, first, cap, h1, h2, h3.step s⟩
theorem CallsO1.nil_ {α β : Type} {P : Program} {w : World} {O : List Nat} {A : Vr α} {R : Vr β} : CallsO1 P w O .nilFunc A R (none : Option (α → Option β)) := .inl ⟨rfl, rfl⟩
theorem CallsO1.call {α β : Type} {P : Program} {w : World} {O : List Nat} {fv : Value} {A : Vr α} {R : Vr β} {f : Option (α → Option β)} (h : CallsO1 P w O fv A R f) (hO : ∀ k ∈ O, k < w.heap.size) {v : Value} {x : α} {y : β} (hv : A.vd w O v x) (hy : callO f x = some y) :
    FvTo P fv [v] w fun u w'' => Ext w w'' ∧ R.vd w'' O u y := by
  rcases h with ⟨rfl, _⟩ | ⟨g, fn, first, cap, rfl, h2, h3⟩
  · cases hy
  · exact h3.call hO hv hy
theorem CallsO1.cells {α β : Type} {P : Program} {w : World} {O : List Nat} {fv : Value} {A : Vr α} {R : Vr β} {f : Option (α → Option β)} (h : CallsO1 P w O fv A R f) : fv.cells = [fv].toArray := by
  rcases h with ⟨_, rfl⟩ | ⟨_, _, _, _, _, rfl, _⟩ <;> rfl
section
variable {α β : Type} {P : Program} {w : World} {O : List Nat} {A : Vr α} {R : Vr β} {f : Option (α → Option β)} {v : Value} {cs : List Value}
end
/-! function values in cells -/
def rFv2 {α α' β : Type} (P : Program) (A : Vr α) (A' : Vr α') (R : Vr β) : Rp (α → α' → Option β) where
  n := 1
  rd w O cs f := ∃ v, cs = [v] ∧ (∃ fn first cap, v = .func fn first cap) ∧ CallsTo2 P w O v A A' R f
  len := fun ⟨_, h, _⟩ => by rw [h]; rfl
  one := fun ⟨v, h, ⟨fn, first, cap, h2⟩, _⟩ => by subst h; subst h2; simp [Value.oneCell']
  step := fun s ⟨v, h, h2, h3⟩ => ⟨v, h, h2, h3.step s⟩
def vFv2 {α α' β : Type} (P : Program) (A : Vr α) (A' : Vr α') (R : Vr β) : Vr (α → α' → Option β) := ⟨fun w O v f => CallsTo2 P w O v A A' R f, fun s h => h.step s⟩
section
variable {α α' β : Type} {P : Program} {w : World} {O : List Nat} {A : Vr α} {A' : Vr α'} {R : Vr β}
theorem mk_fv2 {f : α → α' → Option β} {fn : Go.Fn} {first cap : Array Value} (h : CallsTo2 P w O (.func fn first cap) A A' R f) : (rFv2 P A A' R).rd w O [.func fn first cap] f := ⟨_, rfl, ⟨_, _, _, rfl⟩, h⟩
theorem un_fv2 {f : α → α' → Option β} {v : Value} (h : (rFv2 P A A' R).rd w O [v] f) : (∃ fn first cap, v = .func fn first cap) ∧ CallsTo2 P w O v A A' R f := by obtain ⟨v', h1, h2⟩ := h; cases h1; exact h2
end
section
variable {P : Program} {r : Option Nat} {ρ : Env} {w : World} {d : Option Nat} {ty : TypeId} {pos : String} {aft : Array Edge} {g : Option (Nat × Bool)} {V : Value → World → Prop}
variable {w0 : Zx} {O0 : List Nat} {bs bs' : Ents} {x y : Operand} {t u : TypeId} {td : TypeDesc} {n b : Nat} {z : List Value} {ag : Bool}
theorem op_appendPX {α : Type} {q : Rp α} {xs ys : List α} {e : TypeId} {a a2 : Option Addr} {c2 bt : Nat} {tz : List Value} {ta : Bool} {news : List Value}
    (T : Ty P t (.slice e) 1 bt tz ta) (E : Ty P e td n b z ag) (hqn : q.n = n) (h0 : 0 < n) (hs : St w0 O0 w bs)
    (hx : ev ρ x = .slice a xs.length xs.length) (hG : SlR q w (ks bs O0) a xs.length xs) (hy : ev ρ y = .slice a2 ys.length c2) (hS : Src w a2 news) (hE : Els q w (ks bs O0) news ys) (hys : 0 < ys.length)
    (hb : (xs.length + ys.length) * b ≤ 140737488355328) (h63 : xs.length + ys.length ≤ maxLen)
    (k : ∀ a' c' w', Ext w w' → Step (ks bs O0) w (ks bs O0) w' → St w0 O0 w' bs → SlR q w' (ks bs O0) a' c' (xs ++ ys) → V (.slice a' (xs ++ ys).length c') w') :
    Run1 P r ρ w ⟨d, .call ⟨.builtin .append, #[x, y], #[t, t]⟩, ty, pos, aft, g⟩ V := by
  obtain ⟨ti, hi1, hi2, hi3, zv, hi4, hi5⟩ := E.info
  have hlen := hE.len
  rw [hqn, ← hi2] at hlen
  have h63' : xs.length + ys.length ≤ 9223372036854775807 := by simpa [maxLen] using h63
  have hzl : zv.cells.size = n := by rw [hi5]; simpa using E.zl
  have hnn : news ≠ [] := fun hn => by
    rw [hn, List.length_nil] at hlen
    have : 0 < ys.length * ti.size := Nat.mul_pos hys (by omega)
    omega
  obtain ⟨ad, ha2, hnews⟩ := hS.resolve_left hnn
  subst ha2
  have hs1 := hs.ghost default
  have fresh : ∀ (old : Nat) (olds : List Value), Els q w (ks bs O0) olds xs →
      let o' := Obj.cells (olds.toArray ++ news.toArray ++ Builtin.zeroCells zv.cells (grownCap w (xs.length + ys.length) old e - (xs.length + ys.length))) e
      Ext w (w.drew.alloc o') ∧ Step (ks bs O0) w (ks bs O0) (w.drew.alloc o') ∧ St w0 O0 (w.drew.alloc o') bs ∧
      SlR q (w.drew.alloc o') (ks bs O0) (some ⟨w.heap.size, 0, none⟩) (grownCap w (xs.length + ys.length) old e) (xs ++ ys) := by
    intro old olds hol o'
    obtain ⟨h1, h2⟩ := hs1.extend (i := 0) rfl o'
    have hge := grownCap_ge w (xs.length + ys.length) old e
    have hcm := grownCap_le_maxLen w (xs.length + ys.length) old e h63
    have hlo := hol.len
    have hE' : Els q w (ks bs O0) (olds ++ news) (xs ++ ys) := hol.append hE
    have h2' : Step (ks bs O0) w (ks ((some w.heap.size, o') :: bs) O0) (w.drew.alloc o') := by
      have := h2; rw [ks_ghost] at this; exact this
    have hG' : Gs q e (w.drew.alloc o') (ks ((some w.heap.size, o') :: bs) O0) (some ⟨w.heap.size, 0, none⟩) (grownCap w (xs.length + ys.length) old e) (xs ++ ys) (some w.heap.size) o' := by
      refine Gs.made ?_ (by simpa using hge) hcm ?_
      · simp only [Array.size_append, List.size_toArray, size_zeroCells, hzl, hlo, hlen, hqn, hi2, ← Nat.add_mul]
        congr 1; omega
      · have e1 : (olds.toArray ++ news.toArray ++ Builtin.zeroCells zv.cells (grownCap w (xs.length + ys.length) old e - (xs.length + ys.length))).toList.take ((xs ++ ys).length * q.n) = olds ++ news := by
          have : (xs ++ ys).length * q.n = (olds ++ news).length := by rw [hE'.len]
          rw [this]
          simp only [Array.toList_append, List.append_assoc]
          rw [← List.append_assoc, List.take_left]
        rw [e1]; exact hE'.step h2'
    obtain ⟨p1, p2, p3⟩ := Gs.publish (i := 0) h1 rfl hG'
    exact ⟨(Ext.drew w).trans (Ext.alloc w.drew o'), h2'.trans p2, p1, p3⟩
  have main : ∃ a' c' w', (Builtin.append_ #[t, t] ty #[.slice a xs.length xs.length, .slice (some ad) ys.length c2]).run P w = .ok (.slice a' (xs ++ ys).length c') w' ∧
      Ext w w' ∧ Step (ks bs O0) w (ks bs O0) w' ∧ St w0 O0 w' bs ∧ SlR q w' (ks bs O0) a' c' (xs ++ ys) := by
    cases a with
    | none =>
      have hx0 := (hG.nil rfl).1
      subst hx0
      have hr := run_append_nil (P := P) (w := w) t ty e ti zv T.und hi1 hi4 ad ys.length c2 news hlen hnews hys (by simp at h63'; omega) (by rw [hi3]; simp at hb; omega)
      have hf := fresh 0 [] rfl
      simp only [List.length_nil, Nat.zero_add, List.nil_append, Array.empty_append] at hf ⊢
      exact ⟨_, _, _, hr, hf⟩
    | some ad0 =>
      obtain ⟨olds, ho1, ho2⟩ := hG.cells
      have hlo : olds.length = xs.length * ti.size := by rw [ho1.len, hqn, hi2]
      have hr := run_append_grow (P := P) (w := w) t ty e ti zv T.und hi1 hi4 ad0 xs.length xs.length olds hlo ho2 ad ys.length c2 news hlen hnews (by omega) (by omega)
        (growslice_fits (by omega) (by rw [hi3]; exact hb))
      exact ⟨_, _, _, by rw [List.length_append]; exact hr, fresh _ olds ho1⟩
  obtain ⟨a', c', w', hr, h0, h1, h2, h3⟩ := main
  refine run1_value (by simp) ?_ (k a' c' w' h0 h1 h2 h3)
  simp [execOp, resolve, invoke, builtin, hx, hy, hr]
end
end Go.Fx
/- Maps with integer keys and scalar elements: models (sorted lists of pairs), what stands in memory, one lemma an operation. No program in sight. -/
set_option linter.unusedSimpArgs false
set_option linter.unusedVariables false
namespace Go.Fx
open Go Go.RowKit

/-! models -/
section model
variable {V : Type}
def mget : List (Int × V) → Int → Option V
  | [], _ => none
  | (k, v) :: t, n => if k = n then some v else mget t n
def mput : List (Int × V) → Int → V → List (Int × V)
  | [], n, x => [(n, x)]
  | (k, v) :: t, n, x => if n < k then (n, x) :: (k, v) :: t else if n = k then (n, x) :: t else (k, v) :: mput t n x
/-- keys rise -/
def Ris (l : List (Int × V)) : Prop := l.Pairwise fun p q => p.1 < q.1
theorem mget_none {l : List (Int × V)} {n : Int} (h : mget l n = none) : ∀ p ∈ l, p.1 ≠ n := by
  induction l with
  | nil => intro p hp; cases hp
  | cons q t ih =>
    obtain ⟨k, v⟩ := q
    unfold mget at h
    split at h
    · cases h
    · rename_i hk
      intro p hp
      rcases List.mem_cons.1 hp with e | hp
      · subst e; exact hk
      · exact ih h p hp
theorem mget_some {l : List (Int × V)} {n : Int} {x : V} (h : mget l n = some x) : (n, x) ∈ l := by
  induction l with
  | nil => cases h
  | cons q t ih =>
    obtain ⟨k, v⟩ := q
    unfold mget at h
    split at h
    · rename_i hk; subst hk; cases h; simp
    · exact List.mem_cons_of_mem _ (ih h)
theorem mput_mem {l : List (Int × V)} (hr : Ris l) (n : Int) (x : V) (p : Int × V) : p ∈ mput l n x ↔ p = (n, x) ∨ (p ∈ l ∧ p.1 ≠ n) := by
  induction l with
  | nil => simp [mput]
  | cons q t ih =>
    obtain ⟨k, v⟩ := q
    have hr' := List.pairwise_cons.1 hr
    unfold mput
    by_cases h1 : n < k
    · simp only [h1, if_true, List.mem_cons]
      constructor
      · rintro (h | h | h)
        · exact .inl h
        · subst h; exact .inr ⟨.inl rfl, by simp only; omega⟩
        · exact .inr ⟨.inr h, by have := hr'.1 p h; simp only at this; omega⟩
      · rintro (h | ⟨h | h, _⟩)
        · exact .inl h
        · exact .inr (.inl h)
        · exact .inr (.inr h)
    · by_cases h2 : n = k
      · subst h2
        simp only [Int.lt_irrefl, if_false, if_true, List.mem_cons]
        constructor
        · rintro (h | h)
          · exact .inl h
          · exact .inr ⟨.inr h, by have := hr'.1 p h; simp only at this; omega⟩
        · rintro (h | ⟨h | h, h'⟩)
          · exact .inl h
          · subst h; exact absurd rfl h'
          · exact .inr h
      · simp only [h1, h2, if_false, List.mem_cons, ih hr'.2]
        constructor
        · rintro (h | h | ⟨h, h'⟩)
          · subst h; exact .inr ⟨.inl rfl, by simp only; omega⟩
          · exact .inl h
          · exact .inr ⟨.inr h, h'⟩
        · rintro (h | ⟨h | h, h'⟩)
          · exact .inr (.inl h)
          · exact .inl h
          · exact .inr (.inr ⟨h, h'⟩)
theorem mput_ris {l : List (Int × V)} (hr : Ris l) (n : Int) (x : V) : Ris (mput l n x) := by
  induction l with
  | nil => simp [mput, Ris]
  | cons q t ih =>
    obtain ⟨k, v⟩ := q
    have hr' := List.pairwise_cons.1 hr
    unfold mput
    by_cases h1 : n < k
    · simp only [h1, if_true]
      refine List.pairwise_cons.2 ⟨fun p hp => ?_, hr⟩
      rcases List.mem_cons.1 hp with e | hp
      · subst e; exact h1
      · have := hr'.1 p hp; simp only at this ⊢; omega
    · by_cases h2 : n = k
      · subst h2
        simp only [Int.lt_irrefl, if_false, if_true]
        exact List.pairwise_cons.2 ⟨fun p hp => hr'.1 p hp, hr'.2⟩
      · simp only [h1, h2, if_false]
        refine List.pairwise_cons.2 ⟨fun p hp => ?_, ih hr'.2⟩
        rcases (mput_mem hr'.2 n x p).1 hp with e | ⟨hp, _⟩
        · subst e; simp only; omega
        · exact hr'.1 p hp
theorem ris_nodup {l : List (Int × V)} (hr : Ris l) : l.Nodup := List.Pairwise.imp (fun {a b} h e => by subst e; omega) hr
end model

/-! what stands in memory -/
/-- elements: how they stand as values, what is known of them -/
structure Mv (V : Type) where
  enc : V → Value
  ok : V → Prop
def mvI (q : IntKind) : Mv Int := ⟨Value.int q, InK q⟩
def mvB : Mv Bool := ⟨Value.bool, fun _ => True⟩
/-- the entries of a map with keys of kind q, as they stand: key, element, birth -/
structure MapIs {V : Type} (q : IntKind) (m : Mv V) (es : Array MapEntry) (clock : Nat) (l : List (Int × V × Nat)) : Prop where
  eq : es.toList = l.map fun e => (⟨.int q e.1, m.enc e.2.1, e.2.2⟩ : MapEntry)
  born : l.Pairwise fun e f => e.2.2 < f.2.2
  lt : ∀ e ∈ l, e.2.2 < clock
  ok : ∀ e ∈ l, InK q e.1 ∧ m.ok e.2.1
/-- object o holds the map xs -/
def Mo {V : Type} (q : IntKind) (m : Mv V) (o : Obj) (xs : List (Int × V)) : Prop :=
  ∃ es clock l, o = .map es clock ∧ MapIs q m es clock l ∧ (l.Pairwise fun e f => e.1 ≠ f.1) ∧ (∀ n x, (∃ b, (n, x, b) ∈ l) ↔ (n, x) ∈ xs) ∧ Ris xs
section mem
variable {V : Type} {q : IntKind} {m : Mv V} {o : Obj} {xs : List (Int × V)}
theorem Mo.nil_ : Mo q m (.map #[] 0) ([] : List (Int × V)) := ⟨#[], 0, [], rfl, ⟨rfl, List.Pairwise.nil, by simp, by simp⟩, List.Pairwise.nil, by simp, List.Pairwise.nil⟩
theorem Mo.okOf (h : Mo q m o xs) {n : Int} {x : V} (hx : mget xs n = some x) : InK q n ∧ m.ok x := by
  obtain ⟨es, clock, l, _, hM, _, hp, hr⟩ := h
  obtain ⟨b, hb⟩ := (hp n x).2 (mget_some hx)
  exact hM.ok _ hb
theorem Mo.ok (h : Mo q m o xs) {n : Int} {z : V} (hz : m.ok z) : m.ok ((mget xs n).getD z) := by
  cases hg : mget xs n with
  | none => exact hz
  | some x => exact (h.okOf hg).2
theorem findNow_none (l : List (Int × V × Nat)) {n : Int} (h : ∀ e ∈ l, e.1 ≠ n) : ∀ i, Instr.findNow (.int q) (.int q n) (l.map fun e => (⟨.int q e.1, m.enc e.2.1, e.2.2⟩ : MapEntry)) i = some none := by
  induction l with
  | nil => intro i; rfl
  | cons e t ih =>
    intro i
    have : ¬ n = e.1 := fun h' => h e (by simp) h'.symm
    simp only [List.map_cons, Instr.findNow, Instr.sameNow, if_true]
    rw [show (n == e.1) = false from by simpa using this]
    exact ih (fun f hf => h f (by simp [hf])) (i + 1)
theorem findNow_some (l1 l2 : List (Int × V × Nat)) {n : Int} {x : V} {b : Nat} (h : ∀ e ∈ l1, e.1 ≠ n) : ∀ i, Instr.findNow (.int q) (.int q n) ((l1 ++ (n, x, b) :: l2).map fun e => (⟨.int q e.1, m.enc e.2.1, e.2.2⟩ : MapEntry)) i = some (some (i + l1.length, m.enc x)) := by
  induction l1 with
  | nil => intro i; simp [Instr.findNow, Instr.sameNow]
  | cons e t ih =>
    intro i
    have : ¬ n = e.1 := fun h' => h e (by simp) h'.symm
    simp only [List.cons_append, List.map_cons, Instr.findNow, Instr.sameNow, if_true]
    rw [show (n == e.1) = false from by simpa using this]
    simp only
    rw [ih (fun f hf => h f (by simp [hf])) (i + 1)]
    simp; omega
theorem split_key {l : List (Int × V × Nat)} (hd : l.Pairwise fun e f => e.1 ≠ f.1) {n : Int} {x : V} {b : Nat} (h : (n, x, b) ∈ l) : ∃ l1 l2, l = l1 ++ (n, x, b) :: l2 ∧ (∀ e ∈ l1, e.1 ≠ n) ∧ ∀ e ∈ l2, e.1 ≠ n := by
  obtain ⟨l1, l2, rfl⟩ := List.append_of_mem h
  rw [List.pairwise_append] at hd
  refine ⟨l1, l2, rfl, fun e he => hd.2.2 e he (n, x, b) (by simp), fun e he => ?_⟩
  exact fun h' => (List.pairwise_cons.1 hd.2.1).1 e he h'.symm
variable {P : Program} {w : World}
theorem run_goM {r : Nat} {es : Array MapEntry} {clock : Nat} (h : w.heap[r]? = some (.map es clock)) : (getObj r).run P w = .ok (.map es clock) w := by simp [getObj, Sem.run, h]
theorem run_soM {r : Nat} {es : Array MapEntry} {clock : Nat} (o : Obj) (h : w.heap[r]? = some (.map es clock)) : (setObj r o).run P w = .ok () (w.putObj r o) := by simp [setObj, Sem.run, h, World.putObj]
theorem run_checkKey_int {kt : TypeId} (hk : P.underlying kt = some (.int q)) (e : Bool) (n : Int) : (Instr.checkKey e 10000 kt (.int q n)).run P w = .ok () w := by
  have : ∀ d, (Instr.checkKey e (d + 1) kt (.int q n)).run P w = .ok () w := fun d => by simp [Instr.checkKey, run_underlying hk]
  exact this 9999
theorem run_findKey {kt : TypeId} (hk : P.underlying kt = some (.int q)) {n : Int} {es : List MapEntry} {r : Option (Nat × Value)} (h : Instr.findNow (.int q) (.int q n) es 0 = some r) : (Instr.findKey kt (.int q n) es).run P w = .ok r w := by
  simp [Instr.findKey, run_underlying hk, h]
theorem modify_mid {α : Type} (f : α → α) (a : α) (l2 : List α) : ∀ l1 : List α, (l1 ++ a :: l2).modify l1.length f = l1 ++ f a :: l2
  | [] => rfl
  | x :: l1 => by simp [modify_mid f a l2 l1]
theorem run_stays {n : Int} : (Instr.keyThatStays (.int q n) (.int q n)).run P w = .ok (.int q n) w := by
  have : Instr.sameBits 10000 (.int q n) (.int q n) = true := by
    have : ∀ d, Instr.sameBits (d + 1) (.int q n) (.int q n) = true := fun d => by simp [Instr.sameBits]
    exact this 9999
  simp [Instr.keyThatStays, this]
/-- an entry takes an element -/
theorem Mo.turn {es : Array MapEntry} {clock : Nat} {l1 l2 : List (Int × V × Nat)} {n : Int} {x v : V} {b : Nat} (hM : MapIs q m es clock (l1 ++ (n, x, b) :: l2)) (hd : (l1 ++ (n, x, b) :: l2).Pairwise fun e f => e.1 ≠ f.1)
    (hp : ∀ k y, (∃ b', (k, y, b') ∈ l1 ++ (n, x, b) :: l2) ↔ (k, y) ∈ xs) (hr : Ris xs) (hv : m.ok v) {es' : Array MapEntry} (he : es'.toList = (l1 ++ (n, v, b) :: l2).map fun e => (⟨.int q e.1, m.enc e.2.1, e.2.2⟩ : MapEntry)) : Mo q m (.map es' clock) (mput xs n v) := by
  have h1 := hM.born
  have h2 := hM.lt
  have h3 := hM.ok
  have hd' := hd
  rw [List.pairwise_append] at h1 hd
  refine ⟨es', clock, l1 ++ (n, v, b) :: l2, rfl, ⟨he, ?_, ?_, ?_⟩, ?_, ?_, mput_ris hr n v⟩
  · rw [List.pairwise_append]
    refine ⟨h1.1, ?_, fun e he f hf => ?_⟩
    · have := List.pairwise_cons.1 h1.2.1
      exact List.pairwise_cons.2 ⟨fun f hf => this.1 f hf, this.2⟩
    · rcases List.mem_cons.1 hf with e1 | hf
      · subst e1; exact h1.2.2 e he (n, x, b) (by simp)
      · exact h1.2.2 e he f (by simp [hf])
  · intro e he
    rcases List.mem_append.1 he with h | h
    · exact h2 e (by simp [h])
    · rcases List.mem_cons.1 h with e1 | h
      · subst e1; exact h2 (n, x, b) (by simp)
      · exact h2 e (by simp [h])
  · intro e he
    rcases List.mem_append.1 he with h | h
    · exact h3 e (by simp [h])
    · rcases List.mem_cons.1 h with e1 | h
      · subst e1; exact ⟨(h3 (n, x, b) (by simp)).1, hv⟩
      · exact h3 e (by simp [h])
  · rw [List.pairwise_append]
    refine ⟨hd.1, ?_, fun e he f hf => ?_⟩
    · have := List.pairwise_cons.1 hd.2.1
      exact List.pairwise_cons.2 ⟨fun f hf => this.1 f hf, this.2⟩
    · rcases List.mem_cons.1 hf with e1 | hf
      · subst e1; exact hd.2.2 e he (n, x, b) (by simp)
      · exact hd.2.2 e he f (by simp [hf])
  · intro k y
    rw [mput_mem hr]
    have hn1 : ∀ e ∈ l1, e.1 ≠ n := fun e he => hd.2.2 e he (n, x, b) (by simp)
    have hn2 : ∀ e ∈ l2, e.1 ≠ n := fun e he h' => (List.pairwise_cons.1 hd.2.1).1 e he h'.symm
    constructor
    · rintro ⟨b', hb'⟩
      rcases List.mem_append.1 hb' with h | h
      · exact .inr ⟨(hp k y).1 ⟨b', by simp [h]⟩, hn1 _ h⟩
      · rcases List.mem_cons.1 h with e1 | h
        · cases e1; exact .inl rfl
        · exact .inr ⟨(hp k y).1 ⟨b', by simp [h]⟩, hn2 _ h⟩
    · rintro (e1 | ⟨h, hk⟩)
      · cases e1; exact ⟨b, by simp⟩
      · obtain ⟨b', hb'⟩ := (hp k y).2 h
        rcases List.mem_append.1 hb' with h | h
        · exact ⟨b', by simp [h]⟩
        · rcases List.mem_cons.1 h with e1 | h
          · cases e1; exact absurd rfl hk
          · exact ⟨b', by simp [h]⟩
/-- a new entry -/
theorem Mo.push {es : Array MapEntry} {clock : Nat} {l : List (Int × V × Nat)} {n : Int} {v : V} (hM : MapIs q m es clock l) (hd : l.Pairwise fun e f => e.1 ≠ f.1)
    (hp : ∀ k y, (∃ b', (k, y, b') ∈ l) ↔ (k, y) ∈ xs) (hr : Ris xs) (hg : mget xs n = none) (hn : InK q n) (hv : m.ok v) : Mo q m (.map (es.push ⟨.int q n, m.enc v, clock⟩) (clock + 1)) (mput xs n v) := by
  have hno : ∀ e ∈ l, e.1 ≠ n := fun e he => mget_none hg (e.1, e.2.1) ((hp e.1 e.2.1).1 ⟨e.2.2, he⟩)
  refine ⟨_, _, l ++ [(n, v, clock)], rfl, ⟨by simp [hM.eq], ?_, ?_, ?_⟩, ?_, ?_, mput_ris hr n v⟩
  · rw [List.pairwise_append]; exact ⟨hM.born, by simp, fun e he f hf => by simp at hf; subst hf; exact hM.lt e he⟩
  · intro e he; simp at he; rcases he with h | h
    · have := hM.lt e h; omega
    · subst h; simp
  · intro e he; simp at he; rcases he with h | h
    · exact hM.ok e h
    · subst h; exact ⟨hn, hv⟩
  · rw [List.pairwise_append]; exact ⟨hd, by simp, fun e he f hf => by simp at hf; subst hf; exact hno e he⟩
  · intro k y
    rw [mput_mem hr]
    constructor
    · rintro ⟨b', hb'⟩
      simp at hb'
      rcases hb' with h | ⟨h1, h2, _⟩
      · exact .inr ⟨(hp k y).1 ⟨b', h⟩, hno _ h⟩
      · exact .inl (by rw [h1, h2])
    · rintro (e1 | ⟨h, hk⟩)
      · cases e1; exact ⟨clock, by simp⟩
      · obtain ⟨b', hb'⟩ := (hp k y).2 h; exact ⟨b', by simp [hb']⟩
variable {t kt e : TypeId}
theorem run_lookup {r : Nat} {n : Int} {z : V} (hu : P.underlying t = some (.map kt e)) (hk : P.underlying kt = some (.int q)) (hz : ∀ w, (zeroValue e).run P w = .ok (m.enc z) w) (hr : w.heap[r]? = some o) (h : Mo q m o xs) (c : Bool) :
    (Instr.lookup t (.map (some r)) (.int q n) c).run P w = .ok (if c then .tuple #[m.enc ((mget xs n).getD z), .bool (mget xs n).isSome] else m.enc ((mget xs n).getD z)) w := by
  obtain ⟨es, clock, l, rfl, hM, hd, hp, hris⟩ := h
  have hfk : (Instr.findKey kt (.int q n) es.toList).run P w = .ok ((mget xs n).map fun x => ((l.findIdx? fun e => e.1 == n).getD 0, m.enc x)) w := by
    cases hg : mget xs n with
    | none =>
      refine run_findKey hk ?_
      rw [hM.eq]
      exact findNow_none l (fun e he => mget_none hg (e.1, e.2.1) ((hp e.1 e.2.1).1 ⟨e.2.2, he⟩)) 0
    | some x =>
      obtain ⟨b, hb⟩ := (hp n x).2 (mget_some hg)
      obtain ⟨l1, l2, rfl, h1, h2⟩ := split_key hd hb
      refine run_findKey hk ?_
      rw [hM.eq, findNow_some l1 l2 h1 0]
      have : (l1 ++ (n, x, b) :: l2).findIdx? (fun e => e.1 == n) = some l1.length := by
        rw [List.findIdx?_append, List.findIdx?_eq_none_iff.2 (fun e he => by simpa using h1 e he)]
        simp [List.findIdx?_cons]
      rw [this]; simp
  simp only [Instr.lookup, Sem.run_bind, run_underlying hu, Result.andThen_ok, run_goM hr, run_checkKey_int hk, hfk]
  cases hg : mget xs n with
  | none => rw [hg] at hfk; cases c <;> simp [hz, hfk]
  | some x => rw [hg] at hfk; cases c <;> simp [hfk]
theorem run_mapUpdate {r : Nat} {n : Int} {v : V} (hu : P.underlying t = some (.map kt e)) (hk : P.underlying kt = some (.int q)) (hr : w.heap[r]? = some o) (h : Mo q m o xs) (hn : InK q n) (hv : m.ok v) :
    ∃ o', (Instr.mapUpdate t (.map (some r)) (.int q n) (m.enc v)).run P w = .ok () (w.putObj r o') ∧ Mo q m o' (mput xs n v) := by
  obtain ⟨es, clock, l, rfl, hM, hd, hp, hris⟩ := h
  cases hg : mget xs n with
  | none =>
    have hf := run_findKey (P := P) (w := w) hk (n := n) (es := es.toList) (r := none) (by rw [hM.eq]; exact findNow_none l (fun e he => mget_none hg (e.1, e.2.1) ((hp e.1 e.2.1).1 ⟨e.2.2, he⟩)) 0)
    refine ⟨_, ?_, Mo.push hM hd hp hris hg hn hv⟩
    simp only [Instr.mapUpdate, Sem.run_bind, run_underlying hu, Result.andThen_ok, run_goM hr, run_checkKey_int hk, hf]
    rw [run_soM _ hr]
  | some x =>
    obtain ⟨b, hb⟩ := (hp n x).2 (mget_some hg)
    obtain ⟨l1, l2, rfl, h1, h2⟩ := split_key hd hb
    have hf := run_findKey (P := P) (w := w) hk (n := n) (es := es.toList) (r := some (l1.length, m.enc x)) (by rw [hM.eq, findNow_some l1 l2 h1 0]; simp)
    have hl : l1.length < es.size := by
      have := congrArg List.length hM.eq; simp at this; omega
    have hge : es[l1.length]? = some ⟨.int q n, m.enc x, b⟩ := by
      have : es.toList[l1.length]? = some ⟨.int q n, m.enc x, b⟩ := by rw [hM.eq]; simp
      simpa using this
    refine ⟨.map (es.modify l1.length fun e => { e with key := .int q n, val := m.enc v }) clock, ?_, Mo.turn hM hd hp hris hv ?_⟩
    · simp only [Instr.mapUpdate, Sem.run_bind, run_underlying hu, Result.andThen_ok, run_goM hr, run_checkKey_int hk, hf, hge, Option.map_some, Option.getD_some, run_stays]
      rw [run_soM _ hr]
    · rw [Array.toList_modify, hM.eq]
      simp only [List.map_append, List.map_cons]
      have := modify_mid (fun e : MapEntry => { e with key := .int q n, val := m.enc v }) (⟨.int q n, m.enc x, b⟩ : MapEntry) (l2.map fun e => (⟨.int q e.1, m.enc e.2.1, e.2.2⟩ : MapEntry)) (l1.map fun e => (⟨.int q e.1, m.enc e.2.1, e.2.2⟩ : MapEntry))
      rw [List.length_map] at this
      exact this
end mem
section own
variable {V : Type} {q : IntKind} {m : Mv V} {o : Obj} {xs : List (Int × V)} {P : Program} {r : Option Nat} {ρ : Env} {w w' : World} {d : Option Nat} {ty : TypeId} {pos : String} {aft : Array Edge} {g : Option (Nat × Bool)} {Vv : Value → World → Prop}
variable {z0 : Zx} {O0 O O' : List Nat} {bs : Ents} {x y u : Operand} {t kt e : TypeId}
theorem St.putObj (hs : St z0 O0 w bs) {i b : Nat} (hi : bs[i]? = some (some b, o)) (o' : Obj) : St z0 O0 (w.putObj b o') (bs.set i (some b, o')) ∧ Step (ks bs O0) w (ks (bs.set i (some b, o')) O0) (w.putObj b o') := by
  have hb := (hs.own _ (List.mem_of_getElem? hi) b rfl).1
  have hlt : b < w.heap.size := hs.lt (List.mem_of_getElem? hi) rfl
  have hsz : (w.putObj b o').heap.size = w.heap.size := by simp
  have ho : ∀ j, j < w.heap.size → some b ≠ some j → (w.putObj b o').heap[j]? = w.heap[j]? := fun j _ hj => World.putObj_heap_other (fun e => hj (by rw [e]))
  have hl : Loc [b] w (w.putObj b o') := ⟨rfl, rfl, rfl, by rw [hsz]; exact Nat.le_refl _, fun k hk hn => ho k hk (by simp at hn; intro e; cases e; exact hn rfl), Nat.le_refl _⟩
  refine ⟨hs.put hi (hs.below.trans' hl (by rintro k hk; simp at hk; subst hk; exact hb)) (by rw [hsz]; exact Nat.le_refl _) (fun j hj => ?_) ho, Step.put hi (by rw [hsz]; exact Nat.le_refl _) (fun j hj => .inl hj) ho⟩
  cases hj; exact ⟨.inl rfl, World.putObj_heap_same hlt⟩
/-- make(map[K]V) -/
theorem op_makeMap (hs : St z0 O0 w bs) (k : ∀ bl w', Step (ks bs O0) w (ks ((some bl, .map #[] 0) :: bs) O0) w' → St z0 O0 w' ((some bl, .map #[] 0) :: bs) → Vv (.map (some bl)) w') :
    Run1 P r ρ w ⟨d, .makeMap t none, ty, pos, aft, g⟩ Vv := by
  refine run1_value (v := .map (some w.heap.size)) (w' := w.alloc (.map #[] 0)) (by simp) ?_ (k _ _ (Step.alloc w O0 bs _) (hs.alloc _))
  simp [execOp, Instr.makeMap]
/-- what is only read -/
def MpR (q : IntKind) (m : Mv V) (w : World) (O : List Nat) (v : Value) (xs : List (Int × V)) : Prop := ∃ b o, v = .map (some b) ∧ Sh w O b ∧ w.heap[b]? = some o ∧ Mo q m o xs
theorem MpR.step {v : Value} (h : MpR q m w O v xs) (s : Step O w O' w') : MpR q m w' O' v xs := by
  obtain ⟨b, o, h1, h2, h3, h4⟩ := h
  exact ⟨b, o, h1, h2.step s, by rw [(s.keep b h2.lt h2.no).2]; exact h3, h4⟩
def rMp (q : IntKind) (m : Mv V) : Rp (List (Int × V)) where
  n := 1
  rd w O cs x := ∃ v, cs = [v] ∧ MpR q m w O v x
  len := fun ⟨_, h, _⟩ => by rw [h]; rfl
  one := fun ⟨v, h, b, o, h2, _⟩ => by subst h; subst h2; simp [Value.oneCell']
  step := fun s ⟨v, h, h2⟩ => ⟨v, h, h2.step s⟩
theorem mk_mp {v : Value} (h : MpR q m w O v xs) : (rMp q m).rd w O [v] xs := ⟨v, rfl, h⟩
theorem un_mp {v : Value} (h : (rMp q m).rd w O [v] xs) : MpR q m w O v xs := by obtain ⟨v', h1, h2⟩ := h; cases h1; exact h2
theorem St.publishM (hs : St z0 O0 w bs) {i b : Nat} (hi : bs[i]? = some (some b, o)) (h : Mo q m o xs) :
    St z0 O0 w (bs.eraseIdx i) ∧ Step (ks bs O0) w (ks (bs.eraseIdx i) O0) w ∧ MpR q m w (ks (bs.eraseIdx i) O0) (.map (some b)) xs :=
  ⟨hs.drop i, Step.drop w O0 bs i, b, o, rfl, ⟨hs.lt (List.mem_of_getElem? hi) rfl, not_ks_erase hs hi⟩, hs.get hi, h⟩
/-- m[k] -/
theorem op_lookup {b : Nat} {n : Int} {z : V} (hu : P.underlying t = some (.map kt e)) (hk : P.underlying kt = some (.int q)) (hz : ∀ w, (zeroValue e).run P w = .ok (m.enc z) w) (hb : w.heap[b]? = some o) (h : Mo q m o xs) (hx : ev ρ x = .map (some b)) (hy : ev ρ y = .int q n)
    (k : Vv (m.enc ((mget xs n).getD z)) w) : Run1 P r ρ w ⟨d, .lookup t x y false, ty, pos, aft, g⟩ Vv := by
  refine run1_value (by simp) ?_ k
  simp [execOp, hx, hy, run_lookup hu hk hz hb h false]
/-- v, ok := m[k] -/
theorem op_lookup2 {b : Nat} {n : Int} {z : V} (hu : P.underlying t = some (.map kt e)) (hk : P.underlying kt = some (.int q)) (hz : ∀ w, (zeroValue e).run P w = .ok (m.enc z) w) (hb : w.heap[b]? = some o) (h : Mo q m o xs) (hx : ev ρ x = .map (some b)) (hy : ev ρ y = .int q n)
    (k : Vv (.tuple [m.enc ((mget xs n).getD z), .bool (mget xs n).isSome].toArray) w) : Run1 P r ρ w ⟨d, .lookup t x y true, ty, pos, aft, g⟩ Vv := by
  refine run1_value (by simp) ?_ k
  simp [execOp, hx, hy, run_lookup hu hk hz hb h true]
theorem op_lookupR2 {v : Value} {n : Int} {z : V} (hu : P.underlying t = some (.map kt e)) (hk : P.underlying kt = some (.int q)) (hz : ∀ w, (zeroValue e).run P w = .ok (m.enc z) w) (h : MpR q m w O v xs) (hx : ev ρ x = v) (hy : ev ρ y = .int q n)
    (k : Vv (.tuple [m.enc ((mget xs n).getD z), .bool (mget xs n).isSome].toArray) w) : Run1 P r ρ w ⟨d, .lookup t x y true, ty, pos, aft, g⟩ Vv := by
  obtain ⟨b, o, rfl, _, hb, hM⟩ := h
  exact op_lookup2 hu hk hz hb hM hx hy k
theorem MpR.ok {v : Value} (h : MpR q m w O v xs) {n : Int} {z : V} (hz : m.ok z) : m.ok ((mget xs n).getD z) := by obtain ⟨_, _, _, _, _, hM⟩ := h; exact hM.ok hz
/-- m[k] = v -/
theorem op_mapUpdate {b i : Nat} {n : Int} {v : V} {vv : Value} (hu : P.underlying t = some (.map kt e)) (hk : P.underlying kt = some (.int q)) (hs : St z0 O0 w bs) (hi : bs[i]? = some (some b, o)) (h : Mo q m o xs) (hx : ev ρ x = .map (some b)) (hy : ev ρ y = .int q n) (hv : ev ρ u = vv) (hvv : vv = m.enc v) (hn : InK q n) (hvo : m.ok v)
    (k : ∀ o' w', Step (ks bs O0) w (ks (bs.set i (some b, o')) O0) w' → St z0 O0 w' (bs.set i (some b, o')) → Mo q m o' (mput xs n v) → Vv undef w') : Run1 P r ρ w ⟨d, .mapUpdate t x y u, ty, pos, aft, g⟩ Vv := by
  obtain ⟨o', h1, h2⟩ := run_mapUpdate (P := P) hu hk (hs.get hi) h hn hvo
  obtain ⟨h3, h4⟩ := hs.putObj hi o'
  subst hvv
  refine run1_skip (by simp) ?_ (k o' _ h4 h3 h2)
  simp [execOp, hx, hy, hv, h1]
theorem Mo.size (h : Mo q m o xs) : ∃ es clock, o = .map es clock ∧ es.size = xs.length := by
  obtain ⟨es, clock, l, rfl, hM, hd, hp, hris⟩ := h
  refine ⟨es, clock, rfl, ?_⟩
  have hl : es.size = l.length := by have := congrArg List.length hM.eq; simpa using this
  rw [hl]
  have : (l.map fun e => (e.1, e.2.1)).Perm xs := by
    refine (List.perm_ext_iff_of_nodup ?_ (ris_nodup hris)).2 fun p => ?_
    · rw [List.nodup_iff_pairwise_ne, List.pairwise_map]; exact hd.imp fun h e => h (Prod.mk.inj e).1
    · rw [← hp p.1 p.2]; simp only [List.mem_map]
      constructor
      · rintro ⟨e, he, rfl⟩; exact ⟨e.2.2, he⟩
      · rintro ⟨b, hb⟩; exact ⟨(p.1, p.2, b), hb, rfl⟩
  simpa using this.length_eq
end own
end Go.Fx
/- Regions whose order is drawn, in which a slice that grows is handed from one append to the next. No program in sight. -/
set_option linter.unusedSimpArgs false
set_option linter.unusedVariables false
namespace Go.Fx
open Go Go.RowKit
/-- what a region's operations have made, each by its tag; which operations that take over have been done -/
abbrev Gx := List (Nat × Option Nat × Obj) × List Nat
def entx (g : Gx) : Ents := g.1.map fun p => (p.2.1, p.2.2)
section
variable {w w' w'' : World} {w0 : Zx} {O0 : List Nat} {bs : Ents} {eat : Nat → Nat} {g : Gx} {v : Value} {k : Nat}
def TX (w0 : Zx) (O0 : List Nat) (bs : Ents) (eat : Nat → Nat) : Go1 Gx where
  inv w g := St w0 O0 w (entx g ++ bs) ∧ ∀ k ∈ g.2, k < 1000
  le w g w' g' := ((∀ p ∈ g.1, p ∈ g'.1 ∨ eat p.1 ∈ g'.2) ∧ ∀ k ∈ g.2, k ∈ g'.2) ∧ Step (ks (entx g ++ bs) O0) w (ks (entx g' ++ bs) O0) w' ∧ True
  refl w g := ⟨⟨fun _ h => .inl h, fun _ h => h⟩, Step.refl _ _, trivial⟩
  trans := fun ⟨⟨a, b⟩, h, _⟩ ⟨⟨a', b'⟩, h', _⟩ => ⟨⟨fun p hp => (a p hp).elim (a' p) fun h => .inr (b' _ h), fun k hk => b' _ (b _ hk)⟩, h.trans h', trivial⟩
  drew w g h := ⟨⟨h.1.call (Ext.drew w), h.2⟩, ⟨fun _ h => .inl h, fun _ h => h⟩, Step.ext (Ext.drew w), trivial⟩
  dn g := g.2
abbrev XD {α : Type} (O0 : List Nat) (bs : Ents) (R : Vr α) (x : α) : VR Gx := fun v w g => R.vd w (ks (entx g ++ bs) O0) v x
theorem XD.stab {α : Type} (R : Vr α) (x : α) : Stab (TX w0 O0 bs eat) (XD O0 bs R x) := fun _ _ _ _ _ h hv => R.step h.2.1 hv
abbrev XP {α : Type} (O0 : List Nat) (bs : Ents) (q : Rp α) (x : α) : VR Gx := fun v w g => ∃ p, v = .pointer (some p) ∧ PtR q w (ks (entx g ++ bs) O0) p x
theorem XP.stab {α : Type} (q : Rp α) (x : α) : Stab (TX w0 O0 bs eat) (XP O0 bs q x) := fun _ _ _ _ _ h ⟨p, h1, h2⟩ => ⟨p, h1, h2.step h.2.1⟩
/-- a slice of one's own, until it is taken over -/
def XG {α : Type} (O0 : List Nat) (bs : Ents) (eat : Nat → Nat) (tag : Nat) (q : Rp α) (e : TypeId) (xs : List α) : VR Gx := fun v w g => eat tag ∈ g.2 ∨ ∃ a c kk o, v = .slice a xs.length c ∧ (tag, kk, o) ∈ g.1 ∧ Gs q e w (ks (entx g ++ bs) O0) a c xs kk o
theorem XG.stab {α : Type} (tag : Nat) (q : Rp α) (e : TypeId) (xs : List α) : Stab (TX w0 O0 bs eat) (XG O0 bs eat tag q e xs) := by
  rintro v w g w' g' ⟨⟨h1, h2⟩, h3, _⟩ (hv | ⟨a, c, kk, o, e1, e2, e3⟩)
  · exact .inl (h2 _ hv)
  · rcases h1 _ e2 with h | h
    · exact .inr ⟨a, c, kk, o, e1, h, e3.step h3⟩
    · exact .inl h
theorem GoesX.same {V : VR Gx} (hi : St w0 O0 w' (entx g ++ bs)) (hi2 : ∀ k ∈ g.2, k < 1000) (hv : V v w' g) : Goes (TX w0 O0 bs eat) w' g V k v w' := ⟨g, ⟨hi, hi2⟩, (TX w0 O0 bs eat).refl _ _, hv, fun _ h => .inl h⟩
theorem GoesX.call {V : VR Gx} (hi : St w0 O0 w' (entx g ++ bs)) (hi2 : ∀ k ∈ g.2, k < 1000) (hx : Ext w' w'') (hv : V v w'' g) : Goes (TX w0 O0 bs eat) w' g V k v w'' :=
  ⟨g, ⟨hi.call hx, hi2⟩, ⟨⟨fun _ h => .inl h, fun _ h => h⟩, Step.ext hx, trivial⟩, hv, fun _ h => .inl h⟩
theorem GoesX.pub {V : VR Gx} (hi : St w0 O0 w' (entx g ++ bs)) (hi2 : ∀ k ∈ g.2, k < 1000) (hs : St w0 O0 w'' (entx g ++ bs)) (p : Step (ks (entx g ++ bs) O0) w' (ks (entx g ++ bs) O0) w'') (hx : Ext w' w'') (hv : V v w'' g) :
    Goes (TX w0 O0 bs eat) w' g V k v w'' := ⟨g, ⟨hs, hi2⟩, ⟨⟨fun _ h => .inl h, fun _ h => h⟩, p, trivial⟩, hv, fun _ h => .inl h⟩
theorem GoesX.own {α : Type} {q : Rp α} {e : TypeId} {xs : List α} {a : Option Addr} {c len tag : Nat} {kk : Option Nat} {o : Obj} (hi2 : ∀ k ∈ g.2, k < 1000) (p : Step (ks (entx g ++ bs) O0) w' (ks ((kk, o) :: (entx g ++ bs)) O0) w'') (hs : St w0 O0 w'' ((kk, o) :: (entx g ++ bs)))
    (f : Gs q e w'' (ks ((kk, o) :: (entx g ++ bs)) O0) a c xs kk o) (hl : len = xs.length) : Goes (TX w0 O0 bs eat) w' g (XG O0 bs eat tag q e xs) k (.slice a len c) w'' := by
  subst hl
  exact ⟨((tag, kk, o) :: g.1, g.2), ⟨hs, hi2⟩, ⟨⟨fun _ h => .inl (List.mem_cons_of_mem _ h), fun _ h => h⟩, p, trivial⟩, .inr ⟨a, c, kk, o, rfl, List.mem_cons_self, f⟩, fun _ h => .inl h⟩
theorem GoesX.take {V : VR Gx} {g' : Gx} (hl : (TX w0 O0 bs eat).le w g w g') (hd : ∀ i ∈ g'.2, i ∈ g.2 ∨ i = k) (h : Goes (TX w0 O0 bs eat) w g' V k v w'') : Goes (TX w0 O0 bs eat) w g V k v w'' := by
  obtain ⟨g'', h1, h2, h3, h4⟩ := h
  exact ⟨g'', h1, (TX w0 O0 bs eat).trans hl h2, h3, fun i hi => (h4 i hi).elim (hd i) .inr⟩
end
section ops
variable {P : Program} {r : Option Nat} {ρ : Env} {w : World} {O0 : List Nat} {bs : Ents} {w0 : Zx} {d : Option Nat} {ty : TypeId} {pos : String} {aft : Array Edge} {gd : Option (Nat × Bool)} {t : TypeId} {x y : Operand} {td : TypeDesc} {n b : Nat} {z : List Value} {ag : Bool} {eat : Nat → Nat} {g : Gx}
end ops
end Go.Fx
/- Functions that hand out a list by way of the yield of the iterator that they are within, and that may call themselves. No program in sight. -/
set_option linter.unusedSimpArgs false
set_option linter.unusedVariables false
namespace Go.Fx
open Go Go.RowKit

/-- a cell that holds just this value -/
def rVal (v : Value) (h : v.oneCell' = true) : Rp Unit where
  n := 1
  rd _ _ cs _ := cs = [v]
  len := fun h => by rw [h]; rfl
  one := fun e u hu => by rw [e] at hu; simp at hu; subst hu; exact h
  step := fun _ h => h
theorem un_val {v u : Value} {h1 : v.oneCell' = true} {w : World} {O : List Nat} {x : Unit} (h : (rVal v h1).rd w O [u] x) : u = v := by
  have : [u] = [v] := h
  simpa using this
/-- a function value of one argument that hands out what f says, and says whether it goes on -/
def SubIt1 {α γ : Type} (P : Program) (enc : γ → World → List Nat → List Value → Prop) (l : Nat) (w : World) (O : List Nat) (fv : Value) (A : Vr α) (f : α → Option (List γ)) : Prop :=
  (∃ k caps, fv = .func k #[] caps) ∧ ∀ w1 O1, Step O w O1 w1 → (∀ k ∈ O1, k < w1.heap.size) → ∀ (J Jx : JP γ), Abides J → Abides Jx → ∀ v x Lx, A.vd w1 O1 v x → f x = some Lx → YieldsTo P enc Lx l J Jx → J [] w1 O1 [] →
    FvTo P fv [v] w1 fun u w2 => ∃ O2, (u = .bool true ∧ J Lx w2 O2 []) ∨ (u = .bool false ∧ ∃ pre, Jx pre w2 O2 [])
theorem SubIt1.step {α γ : Type} {P : Program} {enc : γ → World → List Nat → List Value → Prop} {l : Nat} {w w' : World} {O O' : List Nat} {fv : Value} {A : Vr α} {f : α → Option (List γ)} (h : SubIt1 P enc l w O fv A f) (s : Step O w O' w') : SubIt1 P enc l w' O' fv A f :=
  ⟨h.1, fun w1 O1 s1 => h.2 w1 O1 (s.trans s1)⟩
/-- in a cell -/
def rSb {α γ : Type} (P : Program) (enc : γ → World → List Nat → List Value → Prop) (l : Nat) (A : Vr α) : Rp (α → Option (List γ)) where
  n := 1
  rd w O cs f := ∃ v, cs = [v] ∧ SubIt1 P enc l w O v A f
  len := fun ⟨_, h, _⟩ => by rw [h]; rfl
  one := fun ⟨v, h, ⟨k, caps, h2⟩, _⟩ => by subst h; subst h2; simp [Value.oneCell']
  step := fun s ⟨v, h, h2⟩ => ⟨v, h, h2.step s⟩
def vSb {α γ : Type} (P : Program) (enc : γ → World → List Nat → List Value → Prop) (l : Nat) (A : Vr α) : Vr (α → Option (List γ)) := ⟨fun w O v f => SubIt1 P enc l w O v A f, fun s h => h.step s⟩
theorem un_sb {α γ : Type} {P : Program} {enc : γ → World → List Nat → List Value → Prop} {l : Nat} {w : World} {O : List Nat} {A : Vr α} {f : α → Option (List γ)} {v : Value} (h : (rSb P enc l A).rd w O [v] f) : SubIt1 P enc l w O v A f := by
  obtain ⟨v', h1, h2⟩ := h; cases h1; exact h2
theorem PtR.sb {α γ : Type} {P : Program} {enc : γ → World → List Nat → List Value → Prop} {l : Nat} {w : World} {O : List Nat} {A : Vr α} {f : α → Option (List γ)} {v : Value} {h1 : v.oneCell' = true} {p : Addr} (h : PtR (rVal v h1) w O p ()) (hf : SubIt1 P enc l w O v A f) : PtR (rSb P enc l A) w O p f := by
  refine ⟨h.spot, h.sh, ?_⟩
  obtain ⟨cs, e, fz, k1, k2, k3⟩ := h.cells
  exact ⟨cs, e, fz, k1, k2, v, k3, hf⟩
/-- functions that call themselves -/
def fixO {α β : Type} (Φ : (α → Option β) → α → Option β) : Nat → α → Option β
  | 0 => fun _ => none
  | n + 1 => Φ (fixO Φ n)
theorem SubIt1.fix {α γ : Type} {P : Program} {enc : γ → World → List Nat → List Value → Prop} {l : Nat} {w : World} {O : List Nat} {A : Vr α} {k : Go.Fn} {caps : Array Value} {Φ : (α → Option (List γ)) → α → Option (List γ)}
    (h : ∀ f, SubIt1 P enc l w O (.func k #[] caps) A f → SubIt1 P enc l w O (.func k #[] caps) A (Φ f)) : ∀ n, SubIt1 P enc l w O (.func k #[] caps) A (fixO Φ n)
  | 0 => ⟨⟨k, caps, rfl⟩, fun _ _ _ _ _ _ _ _ _ _ _ _ hf => by cases hf⟩
  | n + 1 => h _ (SubIt1.fix h n)
/-- what is handed out by a call, and what comes behind -/
def apl {γ : Type} (a : Option (List γ)) (m : Option (List γ)) : Option (List γ) := a.bind fun A => m.map (A ++ ·)
theorem apl_elim {γ : Type} {a m : Option (List γ)} {L : List γ} (h : apl a m = some L) : ∃ A B, a = some A ∧ m = some B ∧ L = A ++ B := by
  cases a with
  | none => cases h
  | some A => cases m with
    | none => cases h
    | some B => exact ⟨A, B, rfl, rfl, (Option.some.inj h).symm⟩
section call
variable {P : Program} {ρ : Env} {w : World} {z : Zx} {O : List Nat} {bs : Ents} {α γ : Type} {J Jx : JP γ} {L pre Lx : List γ} {l : Nat} {enc : γ → World → List Nat → List Value → Prop}
/-- what a call within sees of the loop: the caller's own blocks are others' -/
def Jin (J : JP γ) (pre : List γ) (w : World) (O : List Nat) (bs : Ents) : JP γ := fun pre' w' O' K' =>
  ∃ Oc, O' = ks bs Oc ∧ J (pre ++ pre') w' Oc (K' ++ bs.filterMap Prod.fst) ∧ (∀ p ∈ bs, ∀ b, p.1 = some b → w'.heap[b]? = some p.2) ∧ (∀ k ∈ Oc, k ∉ bs.filterMap Prod.fst ∧ k < w'.heap.size) ∧ Step (ks bs O) w O' w' ∧ ∀ k ∈ K', w.heap.size ≤ k
theorem Jin.lt {pre' : List γ} {w' : World} {O' K' : List Nat} (hs : St z O w bs) (h : Jin J pre w O bs pre' w' O' K') : ∀ k ∈ bs.filterMap Prod.fst, k < w'.heap.size := fun k hk => by
  obtain ⟨Oc, _, _, _, _, h5, _⟩ := h
  obtain ⟨p, hp, e⟩ := mem_keys.1 hk
  exact Nat.lt_of_lt_of_le (hs.lt hp e) h5.size
theorem Jin.abides (hJ : Abides J) (hs : St z O w bs) : Abides (Jin J pre w O bs) := by
  refine ⟨fun {pre' w1 w2 O' K' K''} h hd hl hg => ?_⟩
  have hlt := h.lt hs
  obtain ⟨Oc, rfl, h2, h3, h4, h5, h6⟩ := h
  have hkO : ∀ k ∈ K', k ∉ bs.filterMap Prod.fst ∧ k ∉ Oc := fun k hk => ⟨fun hm => hd k hk (mem_ks.2 (.inl hm)), fun hm => hd k hk (mem_ks.2 (.inr hm))⟩
  refine ⟨Oc, rfl, hJ.loc h2 ?_ ?_ ?_, fun p hp b hb => ?_, fun k hk => ⟨(h4 k hk).1, Nat.lt_of_lt_of_le (h4 k hk).2 hl.size⟩, ⟨Nat.le_trans h5.size hl.size, fun k hk hn => ?_⟩, fun k hk => ?_⟩
  · intro k hk
    rcases List.mem_append.1 hk with hk | hk
    · exact (hkO k hk).2
    · exact fun hm => (h4 k hm).1 hk
  · exact hl.sub fun k hk => .inl (List.mem_append_left _ hk)
  · refine ⟨fun k hk => ?_, fun k hk => ?_⟩
    · rcases List.mem_append.1 hk with hk | hk
      · exact (hg.new k hk).imp (List.mem_append_left _) id
      · exact .inl (List.mem_append_right _ hk)
    · rcases List.mem_append.1 hk with hk | hk
      · exact hg.lt k hk
      · exact Nat.lt_of_lt_of_le (hlt k hk) hl.size
  · rw [hl.block b (hlt b (mem_keys.2 ⟨p, hp, hb⟩)) fun hm => (hkO b hm).1 (mem_keys.2 ⟨p, hp, hb⟩)]; exact h3 p hp b hb
  · obtain ⟨k1, k2⟩ := h5.keep k hk hn
    exact ⟨k1, by rw [hl.block k (Nat.lt_of_lt_of_le hk h5.size) fun hm => by have := h6 k hm; omega]; exact k2⟩
  · rcases hg.new k hk with h | h
    · exact h6 k h
    · exact Nat.le_trans h5.size h
theorem Jin.yields (hs : St z O w bs) (hL : pre ++ Lx <+: L) (hY : YieldsTo P enc L l J Jx) : YieldsTo P enc Lx l (Jin J pre w O bs) (Jin Jx pre w O bs) := by
  intro pre' a w' O' K' vs hp h hK hO hen
  have hlt := h.lt hs
  obtain ⟨Oc, rfl, h2, h3, h4, h5, h6⟩ := h
  have hkO : ∀ k ∈ K', k ∉ bs.filterMap Prod.fst ∧ k ∉ Oc := fun k hk => ⟨fun hm => (hK k hk).2 (mem_ks.2 (.inl hm)), fun hm => (hK k hk).2 (mem_ks.2 (.inr hm))⟩
  have hp' : pre ++ pre' ++ [a] <+: L := by
    rw [List.append_assoc]
    exact List.IsPrefix.trans ((List.prefix_append_right_inj pre).2 hp) hL
  obtain ⟨fn, tmps, assign, body, hy, hR⟩ := hY (pre ++ pre') a w' Oc (K' ++ bs.filterMap Prod.fst) vs hp' h2 (fun k hk => by
    rcases List.mem_append.1 hk with hk | hk
    · exact ⟨(hK k hk).1, (hkO k hk).2⟩
    · exact ⟨hlt k hk, fun hm => (h4 k hm).1 hk⟩) (fun k hk => (h4 k hk).2) (by rw [List.append_assoc]; exact hen)
  refine ⟨fn, tmps, assign, body, hy, hR.mono ?_⟩
  · rintro e w'' ⟨O'', hl, hg, hor⟩
    have hkeep : ∀ b ∈ bs.filterMap Prod.fst, w''.heap[b]? = w'.heap[b]? := fun b hb => hl.block b (hlt b hb) fun hm => (h4 b hm).1 hb
    have hnew : ∀ k ∈ O'', k ∉ bs.filterMap Prod.fst ∧ k < w''.heap.size := fun k hk => ⟨fun hm => by
      rcases hg.new k hk with h | h
      · exact (h4 k h).1 hm
      · have := hlt k hm; omega, hg.lt k hk⟩
    have hst : Step (ks bs Oc) w' (ks bs O'') w'' := Step.of_loc hl (fun k hk => mem_ks.2 (.inr hk)) fun k hk => by
      rcases mem_ks.1 hk with hk | hk
      · exact .inl (mem_ks.2 (.inl hk))
      · exact (hg.new k hk).imp (fun h => mem_ks.2 (.inr h)) id
    have mk : ∀ J' : JP γ, J' (pre ++ pre' ++ [a]) w'' O'' (K' ++ bs.filterMap Prod.fst) → Jin J' pre w O bs (pre' ++ [a]) w'' (ks bs O'') K' := fun J' hj =>
      ⟨O'', rfl, by rw [← List.append_assoc]; exact hj, fun p hp b hb => by rw [hkeep b (mem_keys.2 ⟨p, hp, hb⟩)]; exact h3 p hp b hb, hnew, h5.trans hst, h6⟩
    refine ⟨ks bs O'', hl.sub fun k hk => .inl (mem_ks.2 (.inr hk)), ⟨fun k hk => ?_, fun k hk => ?_⟩, ?_⟩
    · rcases mem_ks.1 hk with hk | hk
      · exact .inl (mem_ks.2 (.inl hk))
      · exact (hg.new k hk).imp (fun h => mem_ks.2 (.inr h)) id
    · rcases mem_ks.1 hk with hk | hk
      · exact Nat.lt_of_lt_of_le (hlt k hk) hl.size
      · exact hg.lt k hk
    · rcases hor with ⟨he, h⟩ | ⟨he, h⟩
      · exact .inl ⟨he, mk J h⟩
      · exact .inr ⟨he, mk Jx h⟩
/-- a call of such a function within the iterator -/
theorem op_subcall {r : Option Nat} {d : Option Nat} {ty : TypeId} {pos : String} {aft : Array Edge} {g : Option (Nat × Bool)} {V : Value → World → Prop} {x : Operand} {args : Array Operand} {us : Array TypeId} {fv v : Value} {A : Vr α} {f : α → Option (List γ)} {a : α}
    (hx : ev ρ x = fv) (hf : SubIt1 P enc l w (ks bs O) fv A f) (ha : args.toList.map (ev ρ) = [v]) (hv : A.vd w (ks bs O) v a) (hfa : f a = some Lx) (hY : YieldsTo P enc L l J Jx) (hJ : Abides J) (hJx : Abides Jx) (hI : Itr J pre z O) (hs : St z O w bs) (hL : pre ++ Lx <+: L)
    (kt : ∀ w' O', St ⟨w', bs.filterMap Prod.fst, []⟩ O' w' bs → Step (ks bs O) w (ks bs O') w' → Itr J (pre ++ Lx) ⟨w', bs.filterMap Prod.fst, []⟩ O' → V (.bool true) w')
    (kf : ∀ w' O' pre', St ⟨w', bs.filterMap Prod.fst, []⟩ O' w' bs → Itr Jx pre' ⟨w', bs.filterMap Prod.fst, []⟩ O' → V (.bool false) w') :
    Run1 P r ρ w ⟨d, .call ⟨.value x, args, us⟩, ty, pos, aft, g⟩ V := by
  have h0 : Jin J pre w O bs [] w (ks bs O) [] := ⟨O, rfl, by simpa using hI.now hJ hs, fun p hp b hb => (hs.own p hp b hb).2, fun k hk => ⟨(hs.dj k hk).2, (hs.dj k hk).1⟩, Step.refl _ _, by simp⟩
  have hc := hf.2 w (ks bs O) (Step.refl _ _) hs.ltw (Jin J pre w O bs) (Jin Jx pre w O bs) (Jin.abides hJ hs) (Jin.abides hJx hs) v a Lx hv hfa (Jin.yields hs hL hY) h0
  refine op_callF hx hc ha ?_
  rintro u w2 ⟨O2, h⟩
  have done : ∀ (J' : JP γ) (pre' : List γ), Jin J' pre w O bs pre' w2 O2 [] → ∃ Oc, O2 = ks bs Oc ∧ St ⟨w2, bs.filterMap Prod.fst, []⟩ Oc w2 bs ∧ Step (ks bs O) w (ks bs Oc) w2 ∧ Itr J' (pre ++ pre') ⟨w2, bs.filterMap Prod.fst, []⟩ Oc := by
    rintro J' pre' ⟨Oc, rfl, h2, h3, h4, h5, _⟩
    refine ⟨Oc, rfl, ⟨Loc.refl _ _, fun p hp b hb => ⟨.inl (mem_keys.2 ⟨p, hp, hb⟩), h3 p hp b hb⟩, hs.nd, fun k hk => ⟨(h4 k hk).2, (h4 k hk).1⟩, List.nodup_nil, fun _ h => by cases h⟩, h5, ⟨by simpa using h2, fun k hk hm => (h4 k hm).1 hk⟩⟩
  rcases h with ⟨rfl, h⟩ | ⟨rfl, pre', h⟩
  · obtain ⟨Oc, _, k1, k2, k3⟩ := done J Lx h
    exact kt w2 Oc k1 k2 k3
  · obtain ⟨Oc, _, k1, _, k3⟩ := done Jx pre' h
    exact kf w2 Oc _ k1 k3
end call
end Go.Fx
/- Windows: a slice of an array of one's own is handed to a function that writes into it. No program in sight. -/
set_option linter.unusedSimpArgs false
set_option linter.unusedVariables false
namespace Go.Fx
open Go Go.RowKit
theorem Els.rep {α : Type} {p : Rp α} {w : World} {O : List Nat} {v : Value} {x : α} (h : p.rd w O [v] x) : ∀ n, Els p w O (List.replicate n v) (List.replicate n x)
  | 0 => rfl
  | n + 1 => ⟨[v], List.replicate n v, rfl, h, Els.rep h n⟩
section
variable {α : Type} {q : Rp α} {e : TypeId} {w w' : World} {O O0 : List Nat} {c bl i : Nat} {xs xs' : List α} {o : Obj} {bs : Ents} {z : Zx}
theorem ents_perm (hi : bs[i]? = some (some bl, o)) : (bl :: (bs.eraseIdx i).filterMap Prod.fst).Perm (bs.filterMap Prod.fst) := by
  obtain ⟨h, e1⟩ := List.getElem?_eq_some_iff.1 hi
  have e2 : bs = bs.take i ++ (some bl, o) :: bs.drop (i + 1) := by
    rw [← e1, ← List.drop_eq_getElem_cons h, List.take_append_drop]
  have e3 : bs.filterMap Prod.fst = (bs.take i).filterMap Prod.fst ++ bl :: (bs.drop (i + 1)).filterMap Prod.fst := by
    conv => lhs; rw [e2]
    rw [List.filterMap_append]; rfl
  rw [e3, List.eraseIdx_eq_take_drop_succ, List.filterMap_append]
  exact List.perm_middle.symm
/-- within: the block is one's own for the time being -/
theorem St.startW {w0 : World} (h : ∀ k ∈ O, k < w0.heap.size) (hb : bl ∉ O) (ho : w0.heap[bl]? = some o) : St ⟨w0, [bl], []⟩ O w0 [(some bl, o)] := by
  refine ⟨Loc.refl _ _, fun p hp b hb' => ?_, by simp, fun k hk => ⟨h k hk, fun hm => ?_⟩, List.nodup_nil, fun _ h => by cases h⟩
  · rcases List.mem_cons.1 hp with rfl | hp
    · cases hb'; exact ⟨.inl (by simp), ho⟩
    · cases hp
  · simp at hm; subst hm; exact hb hk
theorem St.endW {w0 : World} {ds : List Nat} {o' : Obj} (hs : St ⟨w0, [bl], ds⟩ O w' [(some bl, o')]) : Loc [bl] w0 w' ∧ w'.heap[bl]? = some o' := ⟨hs.below, hs.get (i := 0) rfl⟩
end
section ops
variable {P : Program} {r : Option Nat} {ρ : Env} {w : World} {O0 : List Nat} {bs : Ents} {w0 : Zx} {d : Option Nat} {ty : TypeId} {pos : String} {aft : Array Edge} {g : Option (Nat × Bool)} {V : Value → World → Prop} {t : TypeId} {x y : Operand} {td : TypeDesc} {n b : Nat} {z : List Value} {ag : Bool} {m : Int}
end ops
end Go.Fx
